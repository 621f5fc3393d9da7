/- Printed by hp.py, a program of this session, out of the translation: each Go function as a plain Lean function and the contract of its call. No conditions beyond those in the statements. -/
import Derived.Test.YtkcnmlggaggjlaaHn0
import Derived.Test.YtkcnmlggaggjlaaHn1
namespace Go.Proofs.Ytkcnmlggaggjlaa.Hn
open Go.RowKit Go.Proofs.YtkcnmlggaggjlaaW.PrintWords Go.Proofs.YtkcnmlggaggjlaaW.PrintLast Go.Proofs.YtkcnmlggaggjlaaW.PrintMore
attribute [local go_sem] max2_int min2_int max_two min_two max_three min_three max_four min_four   -- for this text's walks alone
set_option linter.unusedVariables false
set_option linter.unusedSimpArgs false

/-! ### holtlaw0_errors4: function 18 -/
def holtlaw0_errors4.f  : Option (Bool) := (holtlaw0_Num.f 1601).bind fun t143 => (if t143 = 1601 then ((holtlaw0_Num.f 1700).bind fun t144 => (if t144 = 1700 then ((holtlaw0_Num.f 1701).bind fun t145 => (if t145 = 1701 then ((holtlaw0_Num.f 1800).bind fun t146 => (if t146 = 1800 then ((holtlaw0_Num.f 1801).bind fun t147 => (if t147 = 1801 then ((holtlaw0_Num.f 1802).bind fun t148 => (if t148 = 1802 then ((holtlaw0_Num.f 1900).bind fun t149 => (if t149 = 1900 then ((holtlaw0_Num.f 2000).bind fun t150 => (if t150 = 2000 then ((holtlaw0_Num.f 2001).bind fun t151 => (if t151 = 2001 then ((holtlaw0_Num.f 2100).bind fun t152 => (if t152 = 2100 then ((holtlaw0_Num.f 2200).bind fun t153 => (if t153 = 2200 then ((holtlaw0_Num.f 2201).bind fun t154 => (if t154 = 2201 then ((holtlaw0_Num.f 2300).bind fun t155 => (if t155 = 2300 then ((holtlaw0_Num.f 2301).bind fun t156 => (some (t156 == 2301))) else (some false))) else (some false))) else (some false))) else (some false))) else (some false))) else (some false))) else (some false))) else (some false))) else (some false))) else (some false))) else (some false))) else (some false))) else (some false))
set_option maxHeartbeats 8000000 in
set_option maxRecDepth 100000 in
theorem holtlaw0_errors4.calls  (r : Bool) (w : World) (h : holtlaw0_errors4.f  = some r) :
    Calls Try.prog 18 #[] w fun e w' => e = .returned (.bool r) ∧ Drawn0 w w' := by
  have H : ((holtlaw0_Num.f 1601).bind fun t143 => (if t143 = 1601 then ((holtlaw0_Num.f 1700).bind fun t144 => (if t144 = 1700 then ((holtlaw0_Num.f 1701).bind fun t145 => (if t145 = 1701 then ((holtlaw0_Num.f 1800).bind fun t146 => (if t146 = 1800 then ((holtlaw0_Num.f 1801).bind fun t147 => (if t147 = 1801 then ((holtlaw0_Num.f 1802).bind fun t148 => (if t148 = 1802 then ((holtlaw0_Num.f 1900).bind fun t149 => (if t149 = 1900 then ((holtlaw0_Num.f 2000).bind fun t150 => (if t150 = 2000 then ((holtlaw0_Num.f 2001).bind fun t151 => (if t151 = 2001 then ((holtlaw0_Num.f 2100).bind fun t152 => (if t152 = 2100 then ((holtlaw0_Num.f 2200).bind fun t153 => (if t153 = 2200 then ((holtlaw0_Num.f 2201).bind fun t154 => (if t154 = 2201 then ((holtlaw0_Num.f 2300).bind fun t155 => (if t155 = 2300 then ((holtlaw0_Num.f 2301).bind fun t156 => (some (t156 == 2301))) else (some false))) else (some false))) else (some false))) else (some false))) else (some false))) else (some false))) else (some false))) else (some false))) else (some false))) else (some false))) else (some false))) else (some false))) else (some false))) = some r := h
  clear h
  replace H := Option.bind_eq_some_iff.mp H
  obtain ⟨t143, A10, H⟩ := H
  replace H : (if t143 = 1601 then ((holtlaw0_Num.f 1700).bind fun t144 => (if t144 = 1700 then ((holtlaw0_Num.f 1701).bind fun t145 => (if t145 = 1701 then ((holtlaw0_Num.f 1800).bind fun t146 => (if t146 = 1800 then ((holtlaw0_Num.f 1801).bind fun t147 => (if t147 = 1801 then ((holtlaw0_Num.f 1802).bind fun t148 => (if t148 = 1802 then ((holtlaw0_Num.f 1900).bind fun t149 => (if t149 = 1900 then ((holtlaw0_Num.f 2000).bind fun t150 => (if t150 = 2000 then ((holtlaw0_Num.f 2001).bind fun t151 => (if t151 = 2001 then ((holtlaw0_Num.f 2100).bind fun t152 => (if t152 = 2100 then ((holtlaw0_Num.f 2200).bind fun t153 => (if t153 = 2200 then ((holtlaw0_Num.f 2201).bind fun t154 => (if t154 = 2201 then ((holtlaw0_Num.f 2300).bind fun t155 => (if t155 = 2300 then ((holtlaw0_Num.f 2301).bind fun t156 => (some (t156 == 2301))) else (some false))) else (some false))) else (some false))) else (some false))) else (some false))) else (some false))) else (some false))) else (some false))) else (some false))) else (some false))) else (some false))) else (some false))) else (some false)) = some r := H
  have A1 := Aside0.mk A10
  clear A10
  by_cases c2 : t143 = 1601
  · rw [if_pos c2] at H
    have c2b0 : (t143 == 1601) = true := beq_iff_eq.mpr c2
    have c2b1 : (t143 != 1601) = false := bne_eq_false_iff_eq.mpr c2
    clear c2
    replace H := Option.bind_eq_some_iff.mp H
    obtain ⟨t144, A30, H⟩ := H
    replace H : (if t144 = 1700 then ((holtlaw0_Num.f 1701).bind fun t145 => (if t145 = 1701 then ((holtlaw0_Num.f 1800).bind fun t146 => (if t146 = 1800 then ((holtlaw0_Num.f 1801).bind fun t147 => (if t147 = 1801 then ((holtlaw0_Num.f 1802).bind fun t148 => (if t148 = 1802 then ((holtlaw0_Num.f 1900).bind fun t149 => (if t149 = 1900 then ((holtlaw0_Num.f 2000).bind fun t150 => (if t150 = 2000 then ((holtlaw0_Num.f 2001).bind fun t151 => (if t151 = 2001 then ((holtlaw0_Num.f 2100).bind fun t152 => (if t152 = 2100 then ((holtlaw0_Num.f 2200).bind fun t153 => (if t153 = 2200 then ((holtlaw0_Num.f 2201).bind fun t154 => (if t154 = 2201 then ((holtlaw0_Num.f 2300).bind fun t155 => (if t155 = 2300 then ((holtlaw0_Num.f 2301).bind fun t156 => (some (t156 == 2301))) else (some false))) else (some false))) else (some false))) else (some false))) else (some false))) else (some false))) else (some false))) else (some false))) else (some false))) else (some false))) else (some false))) else (some false)) = some r := H
    have A3 := Aside0.mk A30
    clear A30
    by_cases c4 : t144 = 1700
    · rw [if_pos c4] at H
      have c4b0 : (t144 == 1700) = true := beq_iff_eq.mpr c4
      have c4b1 : (t144 != 1700) = false := bne_eq_false_iff_eq.mpr c4
      clear c4
      replace H := Option.bind_eq_some_iff.mp H
      obtain ⟨t145, A50, H⟩ := H
      replace H : (if t145 = 1701 then ((holtlaw0_Num.f 1800).bind fun t146 => (if t146 = 1800 then ((holtlaw0_Num.f 1801).bind fun t147 => (if t147 = 1801 then ((holtlaw0_Num.f 1802).bind fun t148 => (if t148 = 1802 then ((holtlaw0_Num.f 1900).bind fun t149 => (if t149 = 1900 then ((holtlaw0_Num.f 2000).bind fun t150 => (if t150 = 2000 then ((holtlaw0_Num.f 2001).bind fun t151 => (if t151 = 2001 then ((holtlaw0_Num.f 2100).bind fun t152 => (if t152 = 2100 then ((holtlaw0_Num.f 2200).bind fun t153 => (if t153 = 2200 then ((holtlaw0_Num.f 2201).bind fun t154 => (if t154 = 2201 then ((holtlaw0_Num.f 2300).bind fun t155 => (if t155 = 2300 then ((holtlaw0_Num.f 2301).bind fun t156 => (some (t156 == 2301))) else (some false))) else (some false))) else (some false))) else (some false))) else (some false))) else (some false))) else (some false))) else (some false))) else (some false))) else (some false))) else (some false)) = some r := H
      have A5 := Aside0.mk A50
      clear A50
      by_cases c6 : t145 = 1701
      · rw [if_pos c6] at H
        have c6b0 : (t145 == 1701) = true := beq_iff_eq.mpr c6
        have c6b1 : (t145 != 1701) = false := bne_eq_false_iff_eq.mpr c6
        clear c6
        replace H := Option.bind_eq_some_iff.mp H
        obtain ⟨t146, A70, H⟩ := H
        replace H : (if t146 = 1800 then ((holtlaw0_Num.f 1801).bind fun t147 => (if t147 = 1801 then ((holtlaw0_Num.f 1802).bind fun t148 => (if t148 = 1802 then ((holtlaw0_Num.f 1900).bind fun t149 => (if t149 = 1900 then ((holtlaw0_Num.f 2000).bind fun t150 => (if t150 = 2000 then ((holtlaw0_Num.f 2001).bind fun t151 => (if t151 = 2001 then ((holtlaw0_Num.f 2100).bind fun t152 => (if t152 = 2100 then ((holtlaw0_Num.f 2200).bind fun t153 => (if t153 = 2200 then ((holtlaw0_Num.f 2201).bind fun t154 => (if t154 = 2201 then ((holtlaw0_Num.f 2300).bind fun t155 => (if t155 = 2300 then ((holtlaw0_Num.f 2301).bind fun t156 => (some (t156 == 2301))) else (some false))) else (some false))) else (some false))) else (some false))) else (some false))) else (some false))) else (some false))) else (some false))) else (some false))) else (some false)) = some r := H
        have A7 := Aside0.mk A70
        clear A70
        by_cases c8 : t146 = 1800
        · rw [if_pos c8] at H
          have c8b0 : (t146 == 1800) = true := beq_iff_eq.mpr c8
          have c8b1 : (t146 != 1800) = false := bne_eq_false_iff_eq.mpr c8
          clear c8
          replace H := Option.bind_eq_some_iff.mp H
          obtain ⟨t147, A90, H⟩ := H
          replace H : (if t147 = 1801 then ((holtlaw0_Num.f 1802).bind fun t148 => (if t148 = 1802 then ((holtlaw0_Num.f 1900).bind fun t149 => (if t149 = 1900 then ((holtlaw0_Num.f 2000).bind fun t150 => (if t150 = 2000 then ((holtlaw0_Num.f 2001).bind fun t151 => (if t151 = 2001 then ((holtlaw0_Num.f 2100).bind fun t152 => (if t152 = 2100 then ((holtlaw0_Num.f 2200).bind fun t153 => (if t153 = 2200 then ((holtlaw0_Num.f 2201).bind fun t154 => (if t154 = 2201 then ((holtlaw0_Num.f 2300).bind fun t155 => (if t155 = 2300 then ((holtlaw0_Num.f 2301).bind fun t156 => (some (t156 == 2301))) else (some false))) else (some false))) else (some false))) else (some false))) else (some false))) else (some false))) else (some false))) else (some false))) else (some false)) = some r := H
          have A9 := Aside0.mk A90
          clear A90
          by_cases c10 : t147 = 1801
          · rw [if_pos c10] at H
            have c10b0 : (t147 == 1801) = true := beq_iff_eq.mpr c10
            have c10b1 : (t147 != 1801) = false := bne_eq_false_iff_eq.mpr c10
            clear c10
            replace H := Option.bind_eq_some_iff.mp H
            obtain ⟨t148, A110, H⟩ := H
            replace H : (if t148 = 1802 then ((holtlaw0_Num.f 1900).bind fun t149 => (if t149 = 1900 then ((holtlaw0_Num.f 2000).bind fun t150 => (if t150 = 2000 then ((holtlaw0_Num.f 2001).bind fun t151 => (if t151 = 2001 then ((holtlaw0_Num.f 2100).bind fun t152 => (if t152 = 2100 then ((holtlaw0_Num.f 2200).bind fun t153 => (if t153 = 2200 then ((holtlaw0_Num.f 2201).bind fun t154 => (if t154 = 2201 then ((holtlaw0_Num.f 2300).bind fun t155 => (if t155 = 2300 then ((holtlaw0_Num.f 2301).bind fun t156 => (some (t156 == 2301))) else (some false))) else (some false))) else (some false))) else (some false))) else (some false))) else (some false))) else (some false))) else (some false)) = some r := H
            have A11 := Aside0.mk A110
            clear A110
            by_cases c12 : t148 = 1802
            · rw [if_pos c12] at H
              have c12b0 : (t148 == 1802) = true := beq_iff_eq.mpr c12
              have c12b1 : (t148 != 1802) = false := bne_eq_false_iff_eq.mpr c12
              clear c12
              replace H := Option.bind_eq_some_iff.mp H
              obtain ⟨t149, A130, H⟩ := H
              replace H : (if t149 = 1900 then ((holtlaw0_Num.f 2000).bind fun t150 => (if t150 = 2000 then ((holtlaw0_Num.f 2001).bind fun t151 => (if t151 = 2001 then ((holtlaw0_Num.f 2100).bind fun t152 => (if t152 = 2100 then ((holtlaw0_Num.f 2200).bind fun t153 => (if t153 = 2200 then ((holtlaw0_Num.f 2201).bind fun t154 => (if t154 = 2201 then ((holtlaw0_Num.f 2300).bind fun t155 => (if t155 = 2300 then ((holtlaw0_Num.f 2301).bind fun t156 => (some (t156 == 2301))) else (some false))) else (some false))) else (some false))) else (some false))) else (some false))) else (some false))) else (some false)) = some r := H
              have A13 := Aside0.mk A130
              clear A130
              by_cases c14 : t149 = 1900
              · rw [if_pos c14] at H
                have c14b0 : (t149 == 1900) = true := beq_iff_eq.mpr c14
                have c14b1 : (t149 != 1900) = false := bne_eq_false_iff_eq.mpr c14
                clear c14
                replace H := Option.bind_eq_some_iff.mp H
                obtain ⟨t150, A150, H⟩ := H
                replace H : (if t150 = 2000 then ((holtlaw0_Num.f 2001).bind fun t151 => (if t151 = 2001 then ((holtlaw0_Num.f 2100).bind fun t152 => (if t152 = 2100 then ((holtlaw0_Num.f 2200).bind fun t153 => (if t153 = 2200 then ((holtlaw0_Num.f 2201).bind fun t154 => (if t154 = 2201 then ((holtlaw0_Num.f 2300).bind fun t155 => (if t155 = 2300 then ((holtlaw0_Num.f 2301).bind fun t156 => (some (t156 == 2301))) else (some false))) else (some false))) else (some false))) else (some false))) else (some false))) else (some false)) = some r := H
                have A15 := Aside0.mk A150
                clear A150
                by_cases c16 : t150 = 2000
                · rw [if_pos c16] at H
                  have c16b0 : (t150 == 2000) = true := beq_iff_eq.mpr c16
                  have c16b1 : (t150 != 2000) = false := bne_eq_false_iff_eq.mpr c16
                  clear c16
                  replace H := Option.bind_eq_some_iff.mp H
                  obtain ⟨t151, A170, H⟩ := H
                  replace H : (if t151 = 2001 then ((holtlaw0_Num.f 2100).bind fun t152 => (if t152 = 2100 then ((holtlaw0_Num.f 2200).bind fun t153 => (if t153 = 2200 then ((holtlaw0_Num.f 2201).bind fun t154 => (if t154 = 2201 then ((holtlaw0_Num.f 2300).bind fun t155 => (if t155 = 2300 then ((holtlaw0_Num.f 2301).bind fun t156 => (some (t156 == 2301))) else (some false))) else (some false))) else (some false))) else (some false))) else (some false)) = some r := H
                  have A17 := Aside0.mk A170
                  clear A170
                  by_cases c18 : t151 = 2001
                  · rw [if_pos c18] at H
                    have c18b0 : (t151 == 2001) = true := beq_iff_eq.mpr c18
                    have c18b1 : (t151 != 2001) = false := bne_eq_false_iff_eq.mpr c18
                    clear c18
                    replace H := Option.bind_eq_some_iff.mp H
                    obtain ⟨t152, A190, H⟩ := H
                    replace H : (if t152 = 2100 then ((holtlaw0_Num.f 2200).bind fun t153 => (if t153 = 2200 then ((holtlaw0_Num.f 2201).bind fun t154 => (if t154 = 2201 then ((holtlaw0_Num.f 2300).bind fun t155 => (if t155 = 2300 then ((holtlaw0_Num.f 2301).bind fun t156 => (some (t156 == 2301))) else (some false))) else (some false))) else (some false))) else (some false)) = some r := H
                    have A19 := Aside0.mk A190
                    clear A190
                    by_cases c20 : t152 = 2100
                    · rw [if_pos c20] at H
                      have c20b0 : (t152 == 2100) = true := beq_iff_eq.mpr c20
                      have c20b1 : (t152 != 2100) = false := bne_eq_false_iff_eq.mpr c20
                      clear c20
                      replace H := Option.bind_eq_some_iff.mp H
                      obtain ⟨t153, A210, H⟩ := H
                      replace H : (if t153 = 2200 then ((holtlaw0_Num.f 2201).bind fun t154 => (if t154 = 2201 then ((holtlaw0_Num.f 2300).bind fun t155 => (if t155 = 2300 then ((holtlaw0_Num.f 2301).bind fun t156 => (some (t156 == 2301))) else (some false))) else (some false))) else (some false)) = some r := H
                      have A21 := Aside0.mk A210
                      clear A210
                      by_cases c22 : t153 = 2200
                      · rw [if_pos c22] at H
                        have c22b0 : (t153 == 2200) = true := beq_iff_eq.mpr c22
                        have c22b1 : (t153 != 2200) = false := bne_eq_false_iff_eq.mpr c22
                        clear c22
                        replace H := Option.bind_eq_some_iff.mp H
                        obtain ⟨t154, A230, H⟩ := H
                        replace H : (if t154 = 2201 then ((holtlaw0_Num.f 2300).bind fun t155 => (if t155 = 2300 then ((holtlaw0_Num.f 2301).bind fun t156 => (some (t156 == 2301))) else (some false))) else (some false)) = some r := H
                        have A23 := Aside0.mk A230
                        clear A230
                        by_cases c24 : t154 = 2201
                        · rw [if_pos c24] at H
                          have c24b0 : (t154 == 2201) = true := beq_iff_eq.mpr c24
                          have c24b1 : (t154 != 2201) = false := bne_eq_false_iff_eq.mpr c24
                          clear c24
                          replace H := Option.bind_eq_some_iff.mp H
                          obtain ⟨t155, A250, H⟩ := H
                          replace H : (if t155 = 2300 then ((holtlaw0_Num.f 2301).bind fun t156 => (some (t156 == 2301))) else (some false)) = some r := H
                          have A25 := Aside0.mk A250
                          clear A250
                          by_cases c26 : t155 = 2300
                          · rw [if_pos c26] at H
                            have c26b0 : (t155 == 2300) = true := beq_iff_eq.mpr c26
                            have c26b1 : (t155 != 2300) = false := bne_eq_false_iff_eq.mpr c26
                            clear c26
                            replace H := Option.bind_eq_some_iff.mp H
                            obtain ⟨t156, A270, H⟩ := H
                            replace H : (some (t156 == 2301)) = some r := H
                            have A27 := Aside0.mk A270
                            clear A270
                            obtain rfl := Option.some.inj H
                            go_enter Try.func18, Try.ntmps18
                            go_wp2_with (first | ((with_reducible refine gate_callee (f := 38) rfl ?_); refine goesL_ (some 1) rfl rfl Try.func38 (by kernel_rfl) rfl #[.int .i64 1601] rfl (by (try simp only [List.map_toArray, List.map_cons, List.map_nil]); first | done | rfl | (simp only [List.length_drop, List.length_take]; rfl)) ?_; (with_reducible refine (holtlaw0_Num.calls 1601 t143 _ A1.out).mono ?_); rintro e w' ⟨rfl, ⟨nd, rfl⟩⟩; refine ⟨_, rfl, ?_⟩) | (go_at_call 38; (with_reducible refine (holtlaw0_Num.calls 1700 t144 _ A3.out).mono ?_); rintro e w' ⟨rfl, ⟨nd, rfl⟩⟩) | (go_at_call 38; (with_reducible refine (holtlaw0_Num.calls 1701 t145 _ A5.out).mono ?_); rintro e w' ⟨rfl, ⟨nd, rfl⟩⟩) | (go_at_call 38; (with_reducible refine (holtlaw0_Num.calls 1800 t146 _ A7.out).mono ?_); rintro e w' ⟨rfl, ⟨nd, rfl⟩⟩) | (go_at_call 38; (with_reducible refine (holtlaw0_Num.calls 1801 t147 _ A9.out).mono ?_); rintro e w' ⟨rfl, ⟨nd, rfl⟩⟩) | (go_at_call 38; (with_reducible refine (holtlaw0_Num.calls 1802 t148 _ A11.out).mono ?_); rintro e w' ⟨rfl, ⟨nd, rfl⟩⟩) | (go_at_call 38; (with_reducible refine (holtlaw0_Num.calls 1900 t149 _ A13.out).mono ?_); rintro e w' ⟨rfl, ⟨nd, rfl⟩⟩) | (go_at_call 38; (with_reducible refine (holtlaw0_Num.calls 2000 t150 _ A15.out).mono ?_); rintro e w' ⟨rfl, ⟨nd, rfl⟩⟩) | (go_at_call 38; (with_reducible refine (holtlaw0_Num.calls 2001 t151 _ A17.out).mono ?_); rintro e w' ⟨rfl, ⟨nd, rfl⟩⟩) | (go_at_call 38; (with_reducible refine (holtlaw0_Num.calls 2100 t152 _ A19.out).mono ?_); rintro e w' ⟨rfl, ⟨nd, rfl⟩⟩) | (go_at_call 38; (with_reducible refine (holtlaw0_Num.calls 2200 t153 _ A21.out).mono ?_); rintro e w' ⟨rfl, ⟨nd, rfl⟩⟩) | (go_at_call 38; (with_reducible refine (holtlaw0_Num.calls 2201 t154 _ A23.out).mono ?_); rintro e w' ⟨rfl, ⟨nd, rfl⟩⟩) | (go_at_call 38; (with_reducible refine (holtlaw0_Num.calls 2300 t155 _ A25.out).mono ?_); rintro e w' ⟨rfl, ⟨nd, rfl⟩⟩) | (go_at_call 38; (with_reducible refine (holtlaw0_Num.calls 2301 t156 _ A27.out).mono ?_); rintro e w' ⟨rfl, ⟨nd, rfl⟩⟩))
                            go_ret
                            exact ⟨by first | rfl | (simp; done) | (simp [*]; done), by repeat (first | exact Drawn0.refl _ | apply Drawn0.step)⟩
                          · rw [if_neg c26] at H
                            have c26b0 : (t155 == 2300) = false := beq_eq_false_iff_ne.mpr c26
                            have c26b1 : (t155 != 2300) = true := bne_iff_ne.mpr c26
                            obtain rfl := Option.some.inj H
                            go_enter Try.func18, Try.ntmps18
                            go_wp2_with (first | ((with_reducible refine gate_callee (f := 38) rfl ?_); refine goesL_ (some 1) rfl rfl Try.func38 (by kernel_rfl) rfl #[.int .i64 1601] rfl (by (try simp only [List.map_toArray, List.map_cons, List.map_nil]); first | done | rfl | (simp only [List.length_drop, List.length_take]; rfl)) ?_; (with_reducible refine (holtlaw0_Num.calls 1601 t143 _ A1.out).mono ?_); rintro e w' ⟨rfl, ⟨nd, rfl⟩⟩; refine ⟨_, rfl, ?_⟩) | (go_at_call 38; (with_reducible refine (holtlaw0_Num.calls 1700 t144 _ A3.out).mono ?_); rintro e w' ⟨rfl, ⟨nd, rfl⟩⟩) | (go_at_call 38; (with_reducible refine (holtlaw0_Num.calls 1701 t145 _ A5.out).mono ?_); rintro e w' ⟨rfl, ⟨nd, rfl⟩⟩) | (go_at_call 38; (with_reducible refine (holtlaw0_Num.calls 1800 t146 _ A7.out).mono ?_); rintro e w' ⟨rfl, ⟨nd, rfl⟩⟩) | (go_at_call 38; (with_reducible refine (holtlaw0_Num.calls 1801 t147 _ A9.out).mono ?_); rintro e w' ⟨rfl, ⟨nd, rfl⟩⟩) | (go_at_call 38; (with_reducible refine (holtlaw0_Num.calls 1802 t148 _ A11.out).mono ?_); rintro e w' ⟨rfl, ⟨nd, rfl⟩⟩) | (go_at_call 38; (with_reducible refine (holtlaw0_Num.calls 1900 t149 _ A13.out).mono ?_); rintro e w' ⟨rfl, ⟨nd, rfl⟩⟩) | (go_at_call 38; (with_reducible refine (holtlaw0_Num.calls 2000 t150 _ A15.out).mono ?_); rintro e w' ⟨rfl, ⟨nd, rfl⟩⟩) | (go_at_call 38; (with_reducible refine (holtlaw0_Num.calls 2001 t151 _ A17.out).mono ?_); rintro e w' ⟨rfl, ⟨nd, rfl⟩⟩) | (go_at_call 38; (with_reducible refine (holtlaw0_Num.calls 2100 t152 _ A19.out).mono ?_); rintro e w' ⟨rfl, ⟨nd, rfl⟩⟩) | (go_at_call 38; (with_reducible refine (holtlaw0_Num.calls 2200 t153 _ A21.out).mono ?_); rintro e w' ⟨rfl, ⟨nd, rfl⟩⟩) | (go_at_call 38; (with_reducible refine (holtlaw0_Num.calls 2201 t154 _ A23.out).mono ?_); rintro e w' ⟨rfl, ⟨nd, rfl⟩⟩) | (go_at_call 38; (with_reducible refine (holtlaw0_Num.calls 2300 t155 _ A25.out).mono ?_); rintro e w' ⟨rfl, ⟨nd, rfl⟩⟩))
                            go_ret
                            exact ⟨by first | rfl | (simp; done) | (simp [*]; done), by repeat (first | exact Drawn0.refl _ | apply Drawn0.step)⟩
                        · rw [if_neg c24] at H
                          have c24b0 : (t154 == 2201) = false := beq_eq_false_iff_ne.mpr c24
                          have c24b1 : (t154 != 2201) = true := bne_iff_ne.mpr c24
                          obtain rfl := Option.some.inj H
                          go_enter Try.func18, Try.ntmps18
                          go_wp2_with (first | ((with_reducible refine gate_callee (f := 38) rfl ?_); refine goesL_ (some 1) rfl rfl Try.func38 (by kernel_rfl) rfl #[.int .i64 1601] rfl (by (try simp only [List.map_toArray, List.map_cons, List.map_nil]); first | done | rfl | (simp only [List.length_drop, List.length_take]; rfl)) ?_; (with_reducible refine (holtlaw0_Num.calls 1601 t143 _ A1.out).mono ?_); rintro e w' ⟨rfl, ⟨nd, rfl⟩⟩; refine ⟨_, rfl, ?_⟩) | (go_at_call 38; (with_reducible refine (holtlaw0_Num.calls 1700 t144 _ A3.out).mono ?_); rintro e w' ⟨rfl, ⟨nd, rfl⟩⟩) | (go_at_call 38; (with_reducible refine (holtlaw0_Num.calls 1701 t145 _ A5.out).mono ?_); rintro e w' ⟨rfl, ⟨nd, rfl⟩⟩) | (go_at_call 38; (with_reducible refine (holtlaw0_Num.calls 1800 t146 _ A7.out).mono ?_); rintro e w' ⟨rfl, ⟨nd, rfl⟩⟩) | (go_at_call 38; (with_reducible refine (holtlaw0_Num.calls 1801 t147 _ A9.out).mono ?_); rintro e w' ⟨rfl, ⟨nd, rfl⟩⟩) | (go_at_call 38; (with_reducible refine (holtlaw0_Num.calls 1802 t148 _ A11.out).mono ?_); rintro e w' ⟨rfl, ⟨nd, rfl⟩⟩) | (go_at_call 38; (with_reducible refine (holtlaw0_Num.calls 1900 t149 _ A13.out).mono ?_); rintro e w' ⟨rfl, ⟨nd, rfl⟩⟩) | (go_at_call 38; (with_reducible refine (holtlaw0_Num.calls 2000 t150 _ A15.out).mono ?_); rintro e w' ⟨rfl, ⟨nd, rfl⟩⟩) | (go_at_call 38; (with_reducible refine (holtlaw0_Num.calls 2001 t151 _ A17.out).mono ?_); rintro e w' ⟨rfl, ⟨nd, rfl⟩⟩) | (go_at_call 38; (with_reducible refine (holtlaw0_Num.calls 2100 t152 _ A19.out).mono ?_); rintro e w' ⟨rfl, ⟨nd, rfl⟩⟩) | (go_at_call 38; (with_reducible refine (holtlaw0_Num.calls 2200 t153 _ A21.out).mono ?_); rintro e w' ⟨rfl, ⟨nd, rfl⟩⟩) | (go_at_call 38; (with_reducible refine (holtlaw0_Num.calls 2201 t154 _ A23.out).mono ?_); rintro e w' ⟨rfl, ⟨nd, rfl⟩⟩))
                          go_ret
                          exact ⟨by first | rfl | (simp; done) | (simp [*]; done), by repeat (first | exact Drawn0.refl _ | apply Drawn0.step)⟩
                      · rw [if_neg c22] at H
                        have c22b0 : (t153 == 2200) = false := beq_eq_false_iff_ne.mpr c22
                        have c22b1 : (t153 != 2200) = true := bne_iff_ne.mpr c22
                        obtain rfl := Option.some.inj H
                        go_enter Try.func18, Try.ntmps18
                        go_wp2_with (first | ((with_reducible refine gate_callee (f := 38) rfl ?_); refine goesL_ (some 1) rfl rfl Try.func38 (by kernel_rfl) rfl #[.int .i64 1601] rfl (by (try simp only [List.map_toArray, List.map_cons, List.map_nil]); first | done | rfl | (simp only [List.length_drop, List.length_take]; rfl)) ?_; (with_reducible refine (holtlaw0_Num.calls 1601 t143 _ A1.out).mono ?_); rintro e w' ⟨rfl, ⟨nd, rfl⟩⟩; refine ⟨_, rfl, ?_⟩) | (go_at_call 38; (with_reducible refine (holtlaw0_Num.calls 1700 t144 _ A3.out).mono ?_); rintro e w' ⟨rfl, ⟨nd, rfl⟩⟩) | (go_at_call 38; (with_reducible refine (holtlaw0_Num.calls 1701 t145 _ A5.out).mono ?_); rintro e w' ⟨rfl, ⟨nd, rfl⟩⟩) | (go_at_call 38; (with_reducible refine (holtlaw0_Num.calls 1800 t146 _ A7.out).mono ?_); rintro e w' ⟨rfl, ⟨nd, rfl⟩⟩) | (go_at_call 38; (with_reducible refine (holtlaw0_Num.calls 1801 t147 _ A9.out).mono ?_); rintro e w' ⟨rfl, ⟨nd, rfl⟩⟩) | (go_at_call 38; (with_reducible refine (holtlaw0_Num.calls 1802 t148 _ A11.out).mono ?_); rintro e w' ⟨rfl, ⟨nd, rfl⟩⟩) | (go_at_call 38; (with_reducible refine (holtlaw0_Num.calls 1900 t149 _ A13.out).mono ?_); rintro e w' ⟨rfl, ⟨nd, rfl⟩⟩) | (go_at_call 38; (with_reducible refine (holtlaw0_Num.calls 2000 t150 _ A15.out).mono ?_); rintro e w' ⟨rfl, ⟨nd, rfl⟩⟩) | (go_at_call 38; (with_reducible refine (holtlaw0_Num.calls 2001 t151 _ A17.out).mono ?_); rintro e w' ⟨rfl, ⟨nd, rfl⟩⟩) | (go_at_call 38; (with_reducible refine (holtlaw0_Num.calls 2100 t152 _ A19.out).mono ?_); rintro e w' ⟨rfl, ⟨nd, rfl⟩⟩) | (go_at_call 38; (with_reducible refine (holtlaw0_Num.calls 2200 t153 _ A21.out).mono ?_); rintro e w' ⟨rfl, ⟨nd, rfl⟩⟩))
                        go_ret
                        exact ⟨by first | rfl | (simp; done) | (simp [*]; done), by repeat (first | exact Drawn0.refl _ | apply Drawn0.step)⟩
                    · rw [if_neg c20] at H
                      have c20b0 : (t152 == 2100) = false := beq_eq_false_iff_ne.mpr c20
                      have c20b1 : (t152 != 2100) = true := bne_iff_ne.mpr c20
                      obtain rfl := Option.some.inj H
                      go_enter Try.func18, Try.ntmps18
                      go_wp2_with (first | ((with_reducible refine gate_callee (f := 38) rfl ?_); refine goesL_ (some 1) rfl rfl Try.func38 (by kernel_rfl) rfl #[.int .i64 1601] rfl (by (try simp only [List.map_toArray, List.map_cons, List.map_nil]); first | done | rfl | (simp only [List.length_drop, List.length_take]; rfl)) ?_; (with_reducible refine (holtlaw0_Num.calls 1601 t143 _ A1.out).mono ?_); rintro e w' ⟨rfl, ⟨nd, rfl⟩⟩; refine ⟨_, rfl, ?_⟩) | (go_at_call 38; (with_reducible refine (holtlaw0_Num.calls 1700 t144 _ A3.out).mono ?_); rintro e w' ⟨rfl, ⟨nd, rfl⟩⟩) | (go_at_call 38; (with_reducible refine (holtlaw0_Num.calls 1701 t145 _ A5.out).mono ?_); rintro e w' ⟨rfl, ⟨nd, rfl⟩⟩) | (go_at_call 38; (with_reducible refine (holtlaw0_Num.calls 1800 t146 _ A7.out).mono ?_); rintro e w' ⟨rfl, ⟨nd, rfl⟩⟩) | (go_at_call 38; (with_reducible refine (holtlaw0_Num.calls 1801 t147 _ A9.out).mono ?_); rintro e w' ⟨rfl, ⟨nd, rfl⟩⟩) | (go_at_call 38; (with_reducible refine (holtlaw0_Num.calls 1802 t148 _ A11.out).mono ?_); rintro e w' ⟨rfl, ⟨nd, rfl⟩⟩) | (go_at_call 38; (with_reducible refine (holtlaw0_Num.calls 1900 t149 _ A13.out).mono ?_); rintro e w' ⟨rfl, ⟨nd, rfl⟩⟩) | (go_at_call 38; (with_reducible refine (holtlaw0_Num.calls 2000 t150 _ A15.out).mono ?_); rintro e w' ⟨rfl, ⟨nd, rfl⟩⟩) | (go_at_call 38; (with_reducible refine (holtlaw0_Num.calls 2001 t151 _ A17.out).mono ?_); rintro e w' ⟨rfl, ⟨nd, rfl⟩⟩) | (go_at_call 38; (with_reducible refine (holtlaw0_Num.calls 2100 t152 _ A19.out).mono ?_); rintro e w' ⟨rfl, ⟨nd, rfl⟩⟩))
                      go_ret
                      exact ⟨by first | rfl | (simp; done) | (simp [*]; done), by repeat (first | exact Drawn0.refl _ | apply Drawn0.step)⟩
                  · rw [if_neg c18] at H
                    have c18b0 : (t151 == 2001) = false := beq_eq_false_iff_ne.mpr c18
                    have c18b1 : (t151 != 2001) = true := bne_iff_ne.mpr c18
                    obtain rfl := Option.some.inj H
                    go_enter Try.func18, Try.ntmps18
                    go_wp2_with (first | ((with_reducible refine gate_callee (f := 38) rfl ?_); refine goesL_ (some 1) rfl rfl Try.func38 (by kernel_rfl) rfl #[.int .i64 1601] rfl (by (try simp only [List.map_toArray, List.map_cons, List.map_nil]); first | done | rfl | (simp only [List.length_drop, List.length_take]; rfl)) ?_; (with_reducible refine (holtlaw0_Num.calls 1601 t143 _ A1.out).mono ?_); rintro e w' ⟨rfl, ⟨nd, rfl⟩⟩; refine ⟨_, rfl, ?_⟩) | (go_at_call 38; (with_reducible refine (holtlaw0_Num.calls 1700 t144 _ A3.out).mono ?_); rintro e w' ⟨rfl, ⟨nd, rfl⟩⟩) | (go_at_call 38; (with_reducible refine (holtlaw0_Num.calls 1701 t145 _ A5.out).mono ?_); rintro e w' ⟨rfl, ⟨nd, rfl⟩⟩) | (go_at_call 38; (with_reducible refine (holtlaw0_Num.calls 1800 t146 _ A7.out).mono ?_); rintro e w' ⟨rfl, ⟨nd, rfl⟩⟩) | (go_at_call 38; (with_reducible refine (holtlaw0_Num.calls 1801 t147 _ A9.out).mono ?_); rintro e w' ⟨rfl, ⟨nd, rfl⟩⟩) | (go_at_call 38; (with_reducible refine (holtlaw0_Num.calls 1802 t148 _ A11.out).mono ?_); rintro e w' ⟨rfl, ⟨nd, rfl⟩⟩) | (go_at_call 38; (with_reducible refine (holtlaw0_Num.calls 1900 t149 _ A13.out).mono ?_); rintro e w' ⟨rfl, ⟨nd, rfl⟩⟩) | (go_at_call 38; (with_reducible refine (holtlaw0_Num.calls 2000 t150 _ A15.out).mono ?_); rintro e w' ⟨rfl, ⟨nd, rfl⟩⟩) | (go_at_call 38; (with_reducible refine (holtlaw0_Num.calls 2001 t151 _ A17.out).mono ?_); rintro e w' ⟨rfl, ⟨nd, rfl⟩⟩))
                    go_ret
                    exact ⟨by first | rfl | (simp; done) | (simp [*]; done), by repeat (first | exact Drawn0.refl _ | apply Drawn0.step)⟩
                · rw [if_neg c16] at H
                  have c16b0 : (t150 == 2000) = false := beq_eq_false_iff_ne.mpr c16
                  have c16b1 : (t150 != 2000) = true := bne_iff_ne.mpr c16
                  obtain rfl := Option.some.inj H
                  go_enter Try.func18, Try.ntmps18
                  go_wp2_with (first | ((with_reducible refine gate_callee (f := 38) rfl ?_); refine goesL_ (some 1) rfl rfl Try.func38 (by kernel_rfl) rfl #[.int .i64 1601] rfl (by (try simp only [List.map_toArray, List.map_cons, List.map_nil]); first | done | rfl | (simp only [List.length_drop, List.length_take]; rfl)) ?_; (with_reducible refine (holtlaw0_Num.calls 1601 t143 _ A1.out).mono ?_); rintro e w' ⟨rfl, ⟨nd, rfl⟩⟩; refine ⟨_, rfl, ?_⟩) | (go_at_call 38; (with_reducible refine (holtlaw0_Num.calls 1700 t144 _ A3.out).mono ?_); rintro e w' ⟨rfl, ⟨nd, rfl⟩⟩) | (go_at_call 38; (with_reducible refine (holtlaw0_Num.calls 1701 t145 _ A5.out).mono ?_); rintro e w' ⟨rfl, ⟨nd, rfl⟩⟩) | (go_at_call 38; (with_reducible refine (holtlaw0_Num.calls 1800 t146 _ A7.out).mono ?_); rintro e w' ⟨rfl, ⟨nd, rfl⟩⟩) | (go_at_call 38; (with_reducible refine (holtlaw0_Num.calls 1801 t147 _ A9.out).mono ?_); rintro e w' ⟨rfl, ⟨nd, rfl⟩⟩) | (go_at_call 38; (with_reducible refine (holtlaw0_Num.calls 1802 t148 _ A11.out).mono ?_); rintro e w' ⟨rfl, ⟨nd, rfl⟩⟩) | (go_at_call 38; (with_reducible refine (holtlaw0_Num.calls 1900 t149 _ A13.out).mono ?_); rintro e w' ⟨rfl, ⟨nd, rfl⟩⟩) | (go_at_call 38; (with_reducible refine (holtlaw0_Num.calls 2000 t150 _ A15.out).mono ?_); rintro e w' ⟨rfl, ⟨nd, rfl⟩⟩))
                  go_ret
                  exact ⟨by first | rfl | (simp; done) | (simp [*]; done), by repeat (first | exact Drawn0.refl _ | apply Drawn0.step)⟩
              · rw [if_neg c14] at H
                have c14b0 : (t149 == 1900) = false := beq_eq_false_iff_ne.mpr c14
                have c14b1 : (t149 != 1900) = true := bne_iff_ne.mpr c14
                obtain rfl := Option.some.inj H
                go_enter Try.func18, Try.ntmps18
                go_wp2_with (first | ((with_reducible refine gate_callee (f := 38) rfl ?_); refine goesL_ (some 1) rfl rfl Try.func38 (by kernel_rfl) rfl #[.int .i64 1601] rfl (by (try simp only [List.map_toArray, List.map_cons, List.map_nil]); first | done | rfl | (simp only [List.length_drop, List.length_take]; rfl)) ?_; (with_reducible refine (holtlaw0_Num.calls 1601 t143 _ A1.out).mono ?_); rintro e w' ⟨rfl, ⟨nd, rfl⟩⟩; refine ⟨_, rfl, ?_⟩) | (go_at_call 38; (with_reducible refine (holtlaw0_Num.calls 1700 t144 _ A3.out).mono ?_); rintro e w' ⟨rfl, ⟨nd, rfl⟩⟩) | (go_at_call 38; (with_reducible refine (holtlaw0_Num.calls 1701 t145 _ A5.out).mono ?_); rintro e w' ⟨rfl, ⟨nd, rfl⟩⟩) | (go_at_call 38; (with_reducible refine (holtlaw0_Num.calls 1800 t146 _ A7.out).mono ?_); rintro e w' ⟨rfl, ⟨nd, rfl⟩⟩) | (go_at_call 38; (with_reducible refine (holtlaw0_Num.calls 1801 t147 _ A9.out).mono ?_); rintro e w' ⟨rfl, ⟨nd, rfl⟩⟩) | (go_at_call 38; (with_reducible refine (holtlaw0_Num.calls 1802 t148 _ A11.out).mono ?_); rintro e w' ⟨rfl, ⟨nd, rfl⟩⟩) | (go_at_call 38; (with_reducible refine (holtlaw0_Num.calls 1900 t149 _ A13.out).mono ?_); rintro e w' ⟨rfl, ⟨nd, rfl⟩⟩))
                go_ret
                exact ⟨by first | rfl | (simp; done) | (simp [*]; done), by repeat (first | exact Drawn0.refl _ | apply Drawn0.step)⟩
            · rw [if_neg c12] at H
              have c12b0 : (t148 == 1802) = false := beq_eq_false_iff_ne.mpr c12
              have c12b1 : (t148 != 1802) = true := bne_iff_ne.mpr c12
              obtain rfl := Option.some.inj H
              go_enter Try.func18, Try.ntmps18
              go_wp2_with (first | ((with_reducible refine gate_callee (f := 38) rfl ?_); refine goesL_ (some 1) rfl rfl Try.func38 (by kernel_rfl) rfl #[.int .i64 1601] rfl (by (try simp only [List.map_toArray, List.map_cons, List.map_nil]); first | done | rfl | (simp only [List.length_drop, List.length_take]; rfl)) ?_; (with_reducible refine (holtlaw0_Num.calls 1601 t143 _ A1.out).mono ?_); rintro e w' ⟨rfl, ⟨nd, rfl⟩⟩; refine ⟨_, rfl, ?_⟩) | (go_at_call 38; (with_reducible refine (holtlaw0_Num.calls 1700 t144 _ A3.out).mono ?_); rintro e w' ⟨rfl, ⟨nd, rfl⟩⟩) | (go_at_call 38; (with_reducible refine (holtlaw0_Num.calls 1701 t145 _ A5.out).mono ?_); rintro e w' ⟨rfl, ⟨nd, rfl⟩⟩) | (go_at_call 38; (with_reducible refine (holtlaw0_Num.calls 1800 t146 _ A7.out).mono ?_); rintro e w' ⟨rfl, ⟨nd, rfl⟩⟩) | (go_at_call 38; (with_reducible refine (holtlaw0_Num.calls 1801 t147 _ A9.out).mono ?_); rintro e w' ⟨rfl, ⟨nd, rfl⟩⟩) | (go_at_call 38; (with_reducible refine (holtlaw0_Num.calls 1802 t148 _ A11.out).mono ?_); rintro e w' ⟨rfl, ⟨nd, rfl⟩⟩))
              go_ret
              exact ⟨by first | rfl | (simp; done) | (simp [*]; done), by repeat (first | exact Drawn0.refl _ | apply Drawn0.step)⟩
          · rw [if_neg c10] at H
            have c10b0 : (t147 == 1801) = false := beq_eq_false_iff_ne.mpr c10
            have c10b1 : (t147 != 1801) = true := bne_iff_ne.mpr c10
            obtain rfl := Option.some.inj H
            go_enter Try.func18, Try.ntmps18
            go_wp2_with (first | ((with_reducible refine gate_callee (f := 38) rfl ?_); refine goesL_ (some 1) rfl rfl Try.func38 (by kernel_rfl) rfl #[.int .i64 1601] rfl (by (try simp only [List.map_toArray, List.map_cons, List.map_nil]); first | done | rfl | (simp only [List.length_drop, List.length_take]; rfl)) ?_; (with_reducible refine (holtlaw0_Num.calls 1601 t143 _ A1.out).mono ?_); rintro e w' ⟨rfl, ⟨nd, rfl⟩⟩; refine ⟨_, rfl, ?_⟩) | (go_at_call 38; (with_reducible refine (holtlaw0_Num.calls 1700 t144 _ A3.out).mono ?_); rintro e w' ⟨rfl, ⟨nd, rfl⟩⟩) | (go_at_call 38; (with_reducible refine (holtlaw0_Num.calls 1701 t145 _ A5.out).mono ?_); rintro e w' ⟨rfl, ⟨nd, rfl⟩⟩) | (go_at_call 38; (with_reducible refine (holtlaw0_Num.calls 1800 t146 _ A7.out).mono ?_); rintro e w' ⟨rfl, ⟨nd, rfl⟩⟩) | (go_at_call 38; (with_reducible refine (holtlaw0_Num.calls 1801 t147 _ A9.out).mono ?_); rintro e w' ⟨rfl, ⟨nd, rfl⟩⟩))
            go_ret
            exact ⟨by first | rfl | (simp; done) | (simp [*]; done), by repeat (first | exact Drawn0.refl _ | apply Drawn0.step)⟩
        · rw [if_neg c8] at H
          have c8b0 : (t146 == 1800) = false := beq_eq_false_iff_ne.mpr c8
          have c8b1 : (t146 != 1800) = true := bne_iff_ne.mpr c8
          obtain rfl := Option.some.inj H
          go_enter Try.func18, Try.ntmps18
          go_wp2_with (first | ((with_reducible refine gate_callee (f := 38) rfl ?_); refine goesL_ (some 1) rfl rfl Try.func38 (by kernel_rfl) rfl #[.int .i64 1601] rfl (by (try simp only [List.map_toArray, List.map_cons, List.map_nil]); first | done | rfl | (simp only [List.length_drop, List.length_take]; rfl)) ?_; (with_reducible refine (holtlaw0_Num.calls 1601 t143 _ A1.out).mono ?_); rintro e w' ⟨rfl, ⟨nd, rfl⟩⟩; refine ⟨_, rfl, ?_⟩) | (go_at_call 38; (with_reducible refine (holtlaw0_Num.calls 1700 t144 _ A3.out).mono ?_); rintro e w' ⟨rfl, ⟨nd, rfl⟩⟩) | (go_at_call 38; (with_reducible refine (holtlaw0_Num.calls 1701 t145 _ A5.out).mono ?_); rintro e w' ⟨rfl, ⟨nd, rfl⟩⟩) | (go_at_call 38; (with_reducible refine (holtlaw0_Num.calls 1800 t146 _ A7.out).mono ?_); rintro e w' ⟨rfl, ⟨nd, rfl⟩⟩))
          go_ret
          exact ⟨by first | rfl | (simp; done) | (simp [*]; done), by repeat (first | exact Drawn0.refl _ | apply Drawn0.step)⟩
      · rw [if_neg c6] at H
        have c6b0 : (t145 == 1701) = false := beq_eq_false_iff_ne.mpr c6
        have c6b1 : (t145 != 1701) = true := bne_iff_ne.mpr c6
        obtain rfl := Option.some.inj H
        go_enter Try.func18, Try.ntmps18
        go_wp2_with (first | ((with_reducible refine gate_callee (f := 38) rfl ?_); refine goesL_ (some 1) rfl rfl Try.func38 (by kernel_rfl) rfl #[.int .i64 1601] rfl (by (try simp only [List.map_toArray, List.map_cons, List.map_nil]); first | done | rfl | (simp only [List.length_drop, List.length_take]; rfl)) ?_; (with_reducible refine (holtlaw0_Num.calls 1601 t143 _ A1.out).mono ?_); rintro e w' ⟨rfl, ⟨nd, rfl⟩⟩; refine ⟨_, rfl, ?_⟩) | (go_at_call 38; (with_reducible refine (holtlaw0_Num.calls 1700 t144 _ A3.out).mono ?_); rintro e w' ⟨rfl, ⟨nd, rfl⟩⟩) | (go_at_call 38; (with_reducible refine (holtlaw0_Num.calls 1701 t145 _ A5.out).mono ?_); rintro e w' ⟨rfl, ⟨nd, rfl⟩⟩))
        go_ret
        exact ⟨by first | rfl | (simp; done) | (simp [*]; done), by repeat (first | exact Drawn0.refl _ | apply Drawn0.step)⟩
    · rw [if_neg c4] at H
      have c4b0 : (t144 == 1700) = false := beq_eq_false_iff_ne.mpr c4
      have c4b1 : (t144 != 1700) = true := bne_iff_ne.mpr c4
      obtain rfl := Option.some.inj H
      go_enter Try.func18, Try.ntmps18
      go_wp2_with (first | ((with_reducible refine gate_callee (f := 38) rfl ?_); refine goesL_ (some 1) rfl rfl Try.func38 (by kernel_rfl) rfl #[.int .i64 1601] rfl (by (try simp only [List.map_toArray, List.map_cons, List.map_nil]); first | done | rfl | (simp only [List.length_drop, List.length_take]; rfl)) ?_; (with_reducible refine (holtlaw0_Num.calls 1601 t143 _ A1.out).mono ?_); rintro e w' ⟨rfl, ⟨nd, rfl⟩⟩; refine ⟨_, rfl, ?_⟩) | (go_at_call 38; (with_reducible refine (holtlaw0_Num.calls 1700 t144 _ A3.out).mono ?_); rintro e w' ⟨rfl, ⟨nd, rfl⟩⟩))
      go_ret
      exact ⟨by first | rfl | (simp; done) | (simp [*]; done), by repeat (first | exact Drawn0.refl _ | apply Drawn0.step)⟩
  · rw [if_neg c2] at H
    have c2b0 : (t143 == 1601) = false := beq_eq_false_iff_ne.mpr c2
    have c2b1 : (t143 != 1601) = true := bne_iff_ne.mpr c2
    obtain rfl := Option.some.inj H
    go_enter Try.func18, Try.ntmps18
    go_wp2_with (first | ((with_reducible refine gate_callee (f := 38) rfl ?_); refine goesL_ (some 1) rfl rfl Try.func38 (by kernel_rfl) rfl #[.int .i64 1601] rfl (by (try simp only [List.map_toArray, List.map_cons, List.map_nil]); first | done | rfl | (simp only [List.length_drop, List.length_take]; rfl)) ?_; (with_reducible refine (holtlaw0_Num.calls 1601 t143 _ A1.out).mono ?_); rintro e w' ⟨rfl, ⟨nd, rfl⟩⟩; refine ⟨_, rfl, ?_⟩))
    go_ret
    exact ⟨by first | rfl | (simp; done) | (simp [*]; done), by repeat (first | exact Drawn0.refl _ | apply Drawn0.step)⟩

/-! ### holtlaw0_errors5: function 19 -/
def holtlaw0_errors5.f  : Option (Bool) := (holtlaw0_Num.f 2302).bind fun t157 => (if t157 = 2302 then ((holtlaw0_Num.f 2400).bind fun t158 => (if t158 = 2400 then ((holtlaw0_Num.f 2401).bind fun t159 => (if t159 = 2401 then ((holtlaw0_Num.f 2500).bind fun t160 => (if t160 = 2500 then ((holtlaw0_Num.f 2501).bind fun t161 => (if t161 = 2501 then ((holtlaw0_Num.f 2502).bind fun t162 => (if t162 = 2502 then ((holtlaw0_Num.f 2503).bind fun t163 => (if t163 = 2503 then ((holtlaw0_Num.f 2600).bind fun t164 => (if t164 = 2600 then ((holtlaw0_Num.f 2601).bind fun t165 => (if t165 = 2601 then ((holtlaw0_Num.f 2700).bind fun t166 => (if t166 = 2700 then ((holtlaw0_Num.f 2701).bind fun t167 => (if t167 = 2701 then ((holtlaw0_Num.f 2702).bind fun t168 => (if t168 = 2702 then ((holtlaw0_Num.f 2800).bind fun t169 => (if t169 = 2800 then ((holtlaw0_Num.f 2801).bind fun t170 => (some (t170 == 2801))) else (some false))) else (some false))) else (some false))) else (some false))) else (some false))) else (some false))) else (some false))) else (some false))) else (some false))) else (some false))) else (some false))) else (some false))) else (some false))
set_option maxHeartbeats 8000000 in
set_option maxRecDepth 100000 in
theorem holtlaw0_errors5.calls  (r : Bool) (w : World) (h : holtlaw0_errors5.f  = some r) :
    Calls Try.prog 19 #[] w fun e w' => e = .returned (.bool r) ∧ Drawn0 w w' := by
  have H : ((holtlaw0_Num.f 2302).bind fun t157 => (if t157 = 2302 then ((holtlaw0_Num.f 2400).bind fun t158 => (if t158 = 2400 then ((holtlaw0_Num.f 2401).bind fun t159 => (if t159 = 2401 then ((holtlaw0_Num.f 2500).bind fun t160 => (if t160 = 2500 then ((holtlaw0_Num.f 2501).bind fun t161 => (if t161 = 2501 then ((holtlaw0_Num.f 2502).bind fun t162 => (if t162 = 2502 then ((holtlaw0_Num.f 2503).bind fun t163 => (if t163 = 2503 then ((holtlaw0_Num.f 2600).bind fun t164 => (if t164 = 2600 then ((holtlaw0_Num.f 2601).bind fun t165 => (if t165 = 2601 then ((holtlaw0_Num.f 2700).bind fun t166 => (if t166 = 2700 then ((holtlaw0_Num.f 2701).bind fun t167 => (if t167 = 2701 then ((holtlaw0_Num.f 2702).bind fun t168 => (if t168 = 2702 then ((holtlaw0_Num.f 2800).bind fun t169 => (if t169 = 2800 then ((holtlaw0_Num.f 2801).bind fun t170 => (some (t170 == 2801))) else (some false))) else (some false))) else (some false))) else (some false))) else (some false))) else (some false))) else (some false))) else (some false))) else (some false))) else (some false))) else (some false))) else (some false))) else (some false))) = some r := h
  clear h
  replace H := Option.bind_eq_some_iff.mp H
  obtain ⟨t157, A10, H⟩ := H
  replace H : (if t157 = 2302 then ((holtlaw0_Num.f 2400).bind fun t158 => (if t158 = 2400 then ((holtlaw0_Num.f 2401).bind fun t159 => (if t159 = 2401 then ((holtlaw0_Num.f 2500).bind fun t160 => (if t160 = 2500 then ((holtlaw0_Num.f 2501).bind fun t161 => (if t161 = 2501 then ((holtlaw0_Num.f 2502).bind fun t162 => (if t162 = 2502 then ((holtlaw0_Num.f 2503).bind fun t163 => (if t163 = 2503 then ((holtlaw0_Num.f 2600).bind fun t164 => (if t164 = 2600 then ((holtlaw0_Num.f 2601).bind fun t165 => (if t165 = 2601 then ((holtlaw0_Num.f 2700).bind fun t166 => (if t166 = 2700 then ((holtlaw0_Num.f 2701).bind fun t167 => (if t167 = 2701 then ((holtlaw0_Num.f 2702).bind fun t168 => (if t168 = 2702 then ((holtlaw0_Num.f 2800).bind fun t169 => (if t169 = 2800 then ((holtlaw0_Num.f 2801).bind fun t170 => (some (t170 == 2801))) else (some false))) else (some false))) else (some false))) else (some false))) else (some false))) else (some false))) else (some false))) else (some false))) else (some false))) else (some false))) else (some false))) else (some false))) else (some false)) = some r := H
  have A1 := Aside0.mk A10
  clear A10
  by_cases c2 : t157 = 2302
  · rw [if_pos c2] at H
    have c2b0 : (t157 == 2302) = true := beq_iff_eq.mpr c2
    have c2b1 : (t157 != 2302) = false := bne_eq_false_iff_eq.mpr c2
    clear c2
    replace H := Option.bind_eq_some_iff.mp H
    obtain ⟨t158, A30, H⟩ := H
    replace H : (if t158 = 2400 then ((holtlaw0_Num.f 2401).bind fun t159 => (if t159 = 2401 then ((holtlaw0_Num.f 2500).bind fun t160 => (if t160 = 2500 then ((holtlaw0_Num.f 2501).bind fun t161 => (if t161 = 2501 then ((holtlaw0_Num.f 2502).bind fun t162 => (if t162 = 2502 then ((holtlaw0_Num.f 2503).bind fun t163 => (if t163 = 2503 then ((holtlaw0_Num.f 2600).bind fun t164 => (if t164 = 2600 then ((holtlaw0_Num.f 2601).bind fun t165 => (if t165 = 2601 then ((holtlaw0_Num.f 2700).bind fun t166 => (if t166 = 2700 then ((holtlaw0_Num.f 2701).bind fun t167 => (if t167 = 2701 then ((holtlaw0_Num.f 2702).bind fun t168 => (if t168 = 2702 then ((holtlaw0_Num.f 2800).bind fun t169 => (if t169 = 2800 then ((holtlaw0_Num.f 2801).bind fun t170 => (some (t170 == 2801))) else (some false))) else (some false))) else (some false))) else (some false))) else (some false))) else (some false))) else (some false))) else (some false))) else (some false))) else (some false))) else (some false))) else (some false)) = some r := H
    have A3 := Aside0.mk A30
    clear A30
    by_cases c4 : t158 = 2400
    · rw [if_pos c4] at H
      have c4b0 : (t158 == 2400) = true := beq_iff_eq.mpr c4
      have c4b1 : (t158 != 2400) = false := bne_eq_false_iff_eq.mpr c4
      clear c4
      replace H := Option.bind_eq_some_iff.mp H
      obtain ⟨t159, A50, H⟩ := H
      replace H : (if t159 = 2401 then ((holtlaw0_Num.f 2500).bind fun t160 => (if t160 = 2500 then ((holtlaw0_Num.f 2501).bind fun t161 => (if t161 = 2501 then ((holtlaw0_Num.f 2502).bind fun t162 => (if t162 = 2502 then ((holtlaw0_Num.f 2503).bind fun t163 => (if t163 = 2503 then ((holtlaw0_Num.f 2600).bind fun t164 => (if t164 = 2600 then ((holtlaw0_Num.f 2601).bind fun t165 => (if t165 = 2601 then ((holtlaw0_Num.f 2700).bind fun t166 => (if t166 = 2700 then ((holtlaw0_Num.f 2701).bind fun t167 => (if t167 = 2701 then ((holtlaw0_Num.f 2702).bind fun t168 => (if t168 = 2702 then ((holtlaw0_Num.f 2800).bind fun t169 => (if t169 = 2800 then ((holtlaw0_Num.f 2801).bind fun t170 => (some (t170 == 2801))) else (some false))) else (some false))) else (some false))) else (some false))) else (some false))) else (some false))) else (some false))) else (some false))) else (some false))) else (some false))) else (some false)) = some r := H
      have A5 := Aside0.mk A50
      clear A50
      by_cases c6 : t159 = 2401
      · rw [if_pos c6] at H
        have c6b0 : (t159 == 2401) = true := beq_iff_eq.mpr c6
        have c6b1 : (t159 != 2401) = false := bne_eq_false_iff_eq.mpr c6
        clear c6
        replace H := Option.bind_eq_some_iff.mp H
        obtain ⟨t160, A70, H⟩ := H
        replace H : (if t160 = 2500 then ((holtlaw0_Num.f 2501).bind fun t161 => (if t161 = 2501 then ((holtlaw0_Num.f 2502).bind fun t162 => (if t162 = 2502 then ((holtlaw0_Num.f 2503).bind fun t163 => (if t163 = 2503 then ((holtlaw0_Num.f 2600).bind fun t164 => (if t164 = 2600 then ((holtlaw0_Num.f 2601).bind fun t165 => (if t165 = 2601 then ((holtlaw0_Num.f 2700).bind fun t166 => (if t166 = 2700 then ((holtlaw0_Num.f 2701).bind fun t167 => (if t167 = 2701 then ((holtlaw0_Num.f 2702).bind fun t168 => (if t168 = 2702 then ((holtlaw0_Num.f 2800).bind fun t169 => (if t169 = 2800 then ((holtlaw0_Num.f 2801).bind fun t170 => (some (t170 == 2801))) else (some false))) else (some false))) else (some false))) else (some false))) else (some false))) else (some false))) else (some false))) else (some false))) else (some false))) else (some false)) = some r := H
        have A7 := Aside0.mk A70
        clear A70
        by_cases c8 : t160 = 2500
        · rw [if_pos c8] at H
          have c8b0 : (t160 == 2500) = true := beq_iff_eq.mpr c8
          have c8b1 : (t160 != 2500) = false := bne_eq_false_iff_eq.mpr c8
          clear c8
          replace H := Option.bind_eq_some_iff.mp H
          obtain ⟨t161, A90, H⟩ := H
          replace H : (if t161 = 2501 then ((holtlaw0_Num.f 2502).bind fun t162 => (if t162 = 2502 then ((holtlaw0_Num.f 2503).bind fun t163 => (if t163 = 2503 then ((holtlaw0_Num.f 2600).bind fun t164 => (if t164 = 2600 then ((holtlaw0_Num.f 2601).bind fun t165 => (if t165 = 2601 then ((holtlaw0_Num.f 2700).bind fun t166 => (if t166 = 2700 then ((holtlaw0_Num.f 2701).bind fun t167 => (if t167 = 2701 then ((holtlaw0_Num.f 2702).bind fun t168 => (if t168 = 2702 then ((holtlaw0_Num.f 2800).bind fun t169 => (if t169 = 2800 then ((holtlaw0_Num.f 2801).bind fun t170 => (some (t170 == 2801))) else (some false))) else (some false))) else (some false))) else (some false))) else (some false))) else (some false))) else (some false))) else (some false))) else (some false)) = some r := H
          have A9 := Aside0.mk A90
          clear A90
          by_cases c10 : t161 = 2501
          · rw [if_pos c10] at H
            have c10b0 : (t161 == 2501) = true := beq_iff_eq.mpr c10
            have c10b1 : (t161 != 2501) = false := bne_eq_false_iff_eq.mpr c10
            clear c10
            replace H := Option.bind_eq_some_iff.mp H
            obtain ⟨t162, A110, H⟩ := H
            replace H : (if t162 = 2502 then ((holtlaw0_Num.f 2503).bind fun t163 => (if t163 = 2503 then ((holtlaw0_Num.f 2600).bind fun t164 => (if t164 = 2600 then ((holtlaw0_Num.f 2601).bind fun t165 => (if t165 = 2601 then ((holtlaw0_Num.f 2700).bind fun t166 => (if t166 = 2700 then ((holtlaw0_Num.f 2701).bind fun t167 => (if t167 = 2701 then ((holtlaw0_Num.f 2702).bind fun t168 => (if t168 = 2702 then ((holtlaw0_Num.f 2800).bind fun t169 => (if t169 = 2800 then ((holtlaw0_Num.f 2801).bind fun t170 => (some (t170 == 2801))) else (some false))) else (some false))) else (some false))) else (some false))) else (some false))) else (some false))) else (some false))) else (some false)) = some r := H
            have A11 := Aside0.mk A110
            clear A110
            by_cases c12 : t162 = 2502
            · rw [if_pos c12] at H
              have c12b0 : (t162 == 2502) = true := beq_iff_eq.mpr c12
              have c12b1 : (t162 != 2502) = false := bne_eq_false_iff_eq.mpr c12
              clear c12
              replace H := Option.bind_eq_some_iff.mp H
              obtain ⟨t163, A130, H⟩ := H
              replace H : (if t163 = 2503 then ((holtlaw0_Num.f 2600).bind fun t164 => (if t164 = 2600 then ((holtlaw0_Num.f 2601).bind fun t165 => (if t165 = 2601 then ((holtlaw0_Num.f 2700).bind fun t166 => (if t166 = 2700 then ((holtlaw0_Num.f 2701).bind fun t167 => (if t167 = 2701 then ((holtlaw0_Num.f 2702).bind fun t168 => (if t168 = 2702 then ((holtlaw0_Num.f 2800).bind fun t169 => (if t169 = 2800 then ((holtlaw0_Num.f 2801).bind fun t170 => (some (t170 == 2801))) else (some false))) else (some false))) else (some false))) else (some false))) else (some false))) else (some false))) else (some false)) = some r := H
              have A13 := Aside0.mk A130
              clear A130
              by_cases c14 : t163 = 2503
              · rw [if_pos c14] at H
                have c14b0 : (t163 == 2503) = true := beq_iff_eq.mpr c14
                have c14b1 : (t163 != 2503) = false := bne_eq_false_iff_eq.mpr c14
                clear c14
                replace H := Option.bind_eq_some_iff.mp H
                obtain ⟨t164, A150, H⟩ := H
                replace H : (if t164 = 2600 then ((holtlaw0_Num.f 2601).bind fun t165 => (if t165 = 2601 then ((holtlaw0_Num.f 2700).bind fun t166 => (if t166 = 2700 then ((holtlaw0_Num.f 2701).bind fun t167 => (if t167 = 2701 then ((holtlaw0_Num.f 2702).bind fun t168 => (if t168 = 2702 then ((holtlaw0_Num.f 2800).bind fun t169 => (if t169 = 2800 then ((holtlaw0_Num.f 2801).bind fun t170 => (some (t170 == 2801))) else (some false))) else (some false))) else (some false))) else (some false))) else (some false))) else (some false)) = some r := H
                have A15 := Aside0.mk A150
                clear A150
                by_cases c16 : t164 = 2600
                · rw [if_pos c16] at H
                  have c16b0 : (t164 == 2600) = true := beq_iff_eq.mpr c16
                  have c16b1 : (t164 != 2600) = false := bne_eq_false_iff_eq.mpr c16
                  clear c16
                  replace H := Option.bind_eq_some_iff.mp H
                  obtain ⟨t165, A170, H⟩ := H
                  replace H : (if t165 = 2601 then ((holtlaw0_Num.f 2700).bind fun t166 => (if t166 = 2700 then ((holtlaw0_Num.f 2701).bind fun t167 => (if t167 = 2701 then ((holtlaw0_Num.f 2702).bind fun t168 => (if t168 = 2702 then ((holtlaw0_Num.f 2800).bind fun t169 => (if t169 = 2800 then ((holtlaw0_Num.f 2801).bind fun t170 => (some (t170 == 2801))) else (some false))) else (some false))) else (some false))) else (some false))) else (some false)) = some r := H
                  have A17 := Aside0.mk A170
                  clear A170
                  by_cases c18 : t165 = 2601
                  · rw [if_pos c18] at H
                    have c18b0 : (t165 == 2601) = true := beq_iff_eq.mpr c18
                    have c18b1 : (t165 != 2601) = false := bne_eq_false_iff_eq.mpr c18
                    clear c18
                    replace H := Option.bind_eq_some_iff.mp H
                    obtain ⟨t166, A190, H⟩ := H
                    replace H : (if t166 = 2700 then ((holtlaw0_Num.f 2701).bind fun t167 => (if t167 = 2701 then ((holtlaw0_Num.f 2702).bind fun t168 => (if t168 = 2702 then ((holtlaw0_Num.f 2800).bind fun t169 => (if t169 = 2800 then ((holtlaw0_Num.f 2801).bind fun t170 => (some (t170 == 2801))) else (some false))) else (some false))) else (some false))) else (some false)) = some r := H
                    have A19 := Aside0.mk A190
                    clear A190
                    by_cases c20 : t166 = 2700
                    · rw [if_pos c20] at H
                      have c20b0 : (t166 == 2700) = true := beq_iff_eq.mpr c20
                      have c20b1 : (t166 != 2700) = false := bne_eq_false_iff_eq.mpr c20
                      clear c20
                      replace H := Option.bind_eq_some_iff.mp H
                      obtain ⟨t167, A210, H⟩ := H
                      replace H : (if t167 = 2701 then ((holtlaw0_Num.f 2702).bind fun t168 => (if t168 = 2702 then ((holtlaw0_Num.f 2800).bind fun t169 => (if t169 = 2800 then ((holtlaw0_Num.f 2801).bind fun t170 => (some (t170 == 2801))) else (some false))) else (some false))) else (some false)) = some r := H
                      have A21 := Aside0.mk A210
                      clear A210
                      by_cases c22 : t167 = 2701
                      · rw [if_pos c22] at H
                        have c22b0 : (t167 == 2701) = true := beq_iff_eq.mpr c22
                        have c22b1 : (t167 != 2701) = false := bne_eq_false_iff_eq.mpr c22
                        clear c22
                        replace H := Option.bind_eq_some_iff.mp H
                        obtain ⟨t168, A230, H⟩ := H
                        replace H : (if t168 = 2702 then ((holtlaw0_Num.f 2800).bind fun t169 => (if t169 = 2800 then ((holtlaw0_Num.f 2801).bind fun t170 => (some (t170 == 2801))) else (some false))) else (some false)) = some r := H
                        have A23 := Aside0.mk A230
                        clear A230
                        by_cases c24 : t168 = 2702
                        · rw [if_pos c24] at H
                          have c24b0 : (t168 == 2702) = true := beq_iff_eq.mpr c24
                          have c24b1 : (t168 != 2702) = false := bne_eq_false_iff_eq.mpr c24
                          clear c24
                          replace H := Option.bind_eq_some_iff.mp H
                          obtain ⟨t169, A250, H⟩ := H
                          replace H : (if t169 = 2800 then ((holtlaw0_Num.f 2801).bind fun t170 => (some (t170 == 2801))) else (some false)) = some r := H
                          have A25 := Aside0.mk A250
                          clear A250
                          by_cases c26 : t169 = 2800
                          · rw [if_pos c26] at H
                            have c26b0 : (t169 == 2800) = true := beq_iff_eq.mpr c26
                            have c26b1 : (t169 != 2800) = false := bne_eq_false_iff_eq.mpr c26
                            clear c26
                            replace H := Option.bind_eq_some_iff.mp H
                            obtain ⟨t170, A270, H⟩ := H
                            replace H : (some (t170 == 2801)) = some r := H
                            have A27 := Aside0.mk A270
                            clear A270
                            obtain rfl := Option.some.inj H
                            go_enter Try.func19, Try.ntmps19
                            go_wp2_with (first | ((with_reducible refine gate_callee (f := 38) rfl ?_); refine goesL_ (some 1) rfl rfl Try.func38 (by kernel_rfl) rfl #[.int .i64 2302] rfl (by (try simp only [List.map_toArray, List.map_cons, List.map_nil]); first | done | rfl | (simp only [List.length_drop, List.length_take]; rfl)) ?_; (with_reducible refine (holtlaw0_Num.calls 2302 t157 _ A1.out).mono ?_); rintro e w' ⟨rfl, ⟨nd, rfl⟩⟩; refine ⟨_, rfl, ?_⟩) | (go_at_call 38; (with_reducible refine (holtlaw0_Num.calls 2400 t158 _ A3.out).mono ?_); rintro e w' ⟨rfl, ⟨nd, rfl⟩⟩) | (go_at_call 38; (with_reducible refine (holtlaw0_Num.calls 2401 t159 _ A5.out).mono ?_); rintro e w' ⟨rfl, ⟨nd, rfl⟩⟩) | (go_at_call 38; (with_reducible refine (holtlaw0_Num.calls 2500 t160 _ A7.out).mono ?_); rintro e w' ⟨rfl, ⟨nd, rfl⟩⟩) | (go_at_call 38; (with_reducible refine (holtlaw0_Num.calls 2501 t161 _ A9.out).mono ?_); rintro e w' ⟨rfl, ⟨nd, rfl⟩⟩) | (go_at_call 38; (with_reducible refine (holtlaw0_Num.calls 2502 t162 _ A11.out).mono ?_); rintro e w' ⟨rfl, ⟨nd, rfl⟩⟩) | (go_at_call 38; (with_reducible refine (holtlaw0_Num.calls 2503 t163 _ A13.out).mono ?_); rintro e w' ⟨rfl, ⟨nd, rfl⟩⟩) | (go_at_call 38; (with_reducible refine (holtlaw0_Num.calls 2600 t164 _ A15.out).mono ?_); rintro e w' ⟨rfl, ⟨nd, rfl⟩⟩) | (go_at_call 38; (with_reducible refine (holtlaw0_Num.calls 2601 t165 _ A17.out).mono ?_); rintro e w' ⟨rfl, ⟨nd, rfl⟩⟩) | (go_at_call 38; (with_reducible refine (holtlaw0_Num.calls 2700 t166 _ A19.out).mono ?_); rintro e w' ⟨rfl, ⟨nd, rfl⟩⟩) | (go_at_call 38; (with_reducible refine (holtlaw0_Num.calls 2701 t167 _ A21.out).mono ?_); rintro e w' ⟨rfl, ⟨nd, rfl⟩⟩) | (go_at_call 38; (with_reducible refine (holtlaw0_Num.calls 2702 t168 _ A23.out).mono ?_); rintro e w' ⟨rfl, ⟨nd, rfl⟩⟩) | (go_at_call 38; (with_reducible refine (holtlaw0_Num.calls 2800 t169 _ A25.out).mono ?_); rintro e w' ⟨rfl, ⟨nd, rfl⟩⟩) | (go_at_call 38; (with_reducible refine (holtlaw0_Num.calls 2801 t170 _ A27.out).mono ?_); rintro e w' ⟨rfl, ⟨nd, rfl⟩⟩))
                            go_ret
                            exact ⟨by first | rfl | (simp; done) | (simp [*]; done), by repeat (first | exact Drawn0.refl _ | apply Drawn0.step)⟩
                          · rw [if_neg c26] at H
                            have c26b0 : (t169 == 2800) = false := beq_eq_false_iff_ne.mpr c26
                            have c26b1 : (t169 != 2800) = true := bne_iff_ne.mpr c26
                            obtain rfl := Option.some.inj H
                            go_enter Try.func19, Try.ntmps19
                            go_wp2_with (first | ((with_reducible refine gate_callee (f := 38) rfl ?_); refine goesL_ (some 1) rfl rfl Try.func38 (by kernel_rfl) rfl #[.int .i64 2302] rfl (by (try simp only [List.map_toArray, List.map_cons, List.map_nil]); first | done | rfl | (simp only [List.length_drop, List.length_take]; rfl)) ?_; (with_reducible refine (holtlaw0_Num.calls 2302 t157 _ A1.out).mono ?_); rintro e w' ⟨rfl, ⟨nd, rfl⟩⟩; refine ⟨_, rfl, ?_⟩) | (go_at_call 38; (with_reducible refine (holtlaw0_Num.calls 2400 t158 _ A3.out).mono ?_); rintro e w' ⟨rfl, ⟨nd, rfl⟩⟩) | (go_at_call 38; (with_reducible refine (holtlaw0_Num.calls 2401 t159 _ A5.out).mono ?_); rintro e w' ⟨rfl, ⟨nd, rfl⟩⟩) | (go_at_call 38; (with_reducible refine (holtlaw0_Num.calls 2500 t160 _ A7.out).mono ?_); rintro e w' ⟨rfl, ⟨nd, rfl⟩⟩) | (go_at_call 38; (with_reducible refine (holtlaw0_Num.calls 2501 t161 _ A9.out).mono ?_); rintro e w' ⟨rfl, ⟨nd, rfl⟩⟩) | (go_at_call 38; (with_reducible refine (holtlaw0_Num.calls 2502 t162 _ A11.out).mono ?_); rintro e w' ⟨rfl, ⟨nd, rfl⟩⟩) | (go_at_call 38; (with_reducible refine (holtlaw0_Num.calls 2503 t163 _ A13.out).mono ?_); rintro e w' ⟨rfl, ⟨nd, rfl⟩⟩) | (go_at_call 38; (with_reducible refine (holtlaw0_Num.calls 2600 t164 _ A15.out).mono ?_); rintro e w' ⟨rfl, ⟨nd, rfl⟩⟩) | (go_at_call 38; (with_reducible refine (holtlaw0_Num.calls 2601 t165 _ A17.out).mono ?_); rintro e w' ⟨rfl, ⟨nd, rfl⟩⟩) | (go_at_call 38; (with_reducible refine (holtlaw0_Num.calls 2700 t166 _ A19.out).mono ?_); rintro e w' ⟨rfl, ⟨nd, rfl⟩⟩) | (go_at_call 38; (with_reducible refine (holtlaw0_Num.calls 2701 t167 _ A21.out).mono ?_); rintro e w' ⟨rfl, ⟨nd, rfl⟩⟩) | (go_at_call 38; (with_reducible refine (holtlaw0_Num.calls 2702 t168 _ A23.out).mono ?_); rintro e w' ⟨rfl, ⟨nd, rfl⟩⟩) | (go_at_call 38; (with_reducible refine (holtlaw0_Num.calls 2800 t169 _ A25.out).mono ?_); rintro e w' ⟨rfl, ⟨nd, rfl⟩⟩))
                            go_ret
                            exact ⟨by first | rfl | (simp; done) | (simp [*]; done), by repeat (first | exact Drawn0.refl _ | apply Drawn0.step)⟩
                        · rw [if_neg c24] at H
                          have c24b0 : (t168 == 2702) = false := beq_eq_false_iff_ne.mpr c24
                          have c24b1 : (t168 != 2702) = true := bne_iff_ne.mpr c24
                          obtain rfl := Option.some.inj H
                          go_enter Try.func19, Try.ntmps19
                          go_wp2_with (first | ((with_reducible refine gate_callee (f := 38) rfl ?_); refine goesL_ (some 1) rfl rfl Try.func38 (by kernel_rfl) rfl #[.int .i64 2302] rfl (by (try simp only [List.map_toArray, List.map_cons, List.map_nil]); first | done | rfl | (simp only [List.length_drop, List.length_take]; rfl)) ?_; (with_reducible refine (holtlaw0_Num.calls 2302 t157 _ A1.out).mono ?_); rintro e w' ⟨rfl, ⟨nd, rfl⟩⟩; refine ⟨_, rfl, ?_⟩) | (go_at_call 38; (with_reducible refine (holtlaw0_Num.calls 2400 t158 _ A3.out).mono ?_); rintro e w' ⟨rfl, ⟨nd, rfl⟩⟩) | (go_at_call 38; (with_reducible refine (holtlaw0_Num.calls 2401 t159 _ A5.out).mono ?_); rintro e w' ⟨rfl, ⟨nd, rfl⟩⟩) | (go_at_call 38; (with_reducible refine (holtlaw0_Num.calls 2500 t160 _ A7.out).mono ?_); rintro e w' ⟨rfl, ⟨nd, rfl⟩⟩) | (go_at_call 38; (with_reducible refine (holtlaw0_Num.calls 2501 t161 _ A9.out).mono ?_); rintro e w' ⟨rfl, ⟨nd, rfl⟩⟩) | (go_at_call 38; (with_reducible refine (holtlaw0_Num.calls 2502 t162 _ A11.out).mono ?_); rintro e w' ⟨rfl, ⟨nd, rfl⟩⟩) | (go_at_call 38; (with_reducible refine (holtlaw0_Num.calls 2503 t163 _ A13.out).mono ?_); rintro e w' ⟨rfl, ⟨nd, rfl⟩⟩) | (go_at_call 38; (with_reducible refine (holtlaw0_Num.calls 2600 t164 _ A15.out).mono ?_); rintro e w' ⟨rfl, ⟨nd, rfl⟩⟩) | (go_at_call 38; (with_reducible refine (holtlaw0_Num.calls 2601 t165 _ A17.out).mono ?_); rintro e w' ⟨rfl, ⟨nd, rfl⟩⟩) | (go_at_call 38; (with_reducible refine (holtlaw0_Num.calls 2700 t166 _ A19.out).mono ?_); rintro e w' ⟨rfl, ⟨nd, rfl⟩⟩) | (go_at_call 38; (with_reducible refine (holtlaw0_Num.calls 2701 t167 _ A21.out).mono ?_); rintro e w' ⟨rfl, ⟨nd, rfl⟩⟩) | (go_at_call 38; (with_reducible refine (holtlaw0_Num.calls 2702 t168 _ A23.out).mono ?_); rintro e w' ⟨rfl, ⟨nd, rfl⟩⟩))
                          go_ret
                          exact ⟨by first | rfl | (simp; done) | (simp [*]; done), by repeat (first | exact Drawn0.refl _ | apply Drawn0.step)⟩
                      · rw [if_neg c22] at H
                        have c22b0 : (t167 == 2701) = false := beq_eq_false_iff_ne.mpr c22
                        have c22b1 : (t167 != 2701) = true := bne_iff_ne.mpr c22
                        obtain rfl := Option.some.inj H
                        go_enter Try.func19, Try.ntmps19
                        go_wp2_with (first | ((with_reducible refine gate_callee (f := 38) rfl ?_); refine goesL_ (some 1) rfl rfl Try.func38 (by kernel_rfl) rfl #[.int .i64 2302] rfl (by (try simp only [List.map_toArray, List.map_cons, List.map_nil]); first | done | rfl | (simp only [List.length_drop, List.length_take]; rfl)) ?_; (with_reducible refine (holtlaw0_Num.calls 2302 t157 _ A1.out).mono ?_); rintro e w' ⟨rfl, ⟨nd, rfl⟩⟩; refine ⟨_, rfl, ?_⟩) | (go_at_call 38; (with_reducible refine (holtlaw0_Num.calls 2400 t158 _ A3.out).mono ?_); rintro e w' ⟨rfl, ⟨nd, rfl⟩⟩) | (go_at_call 38; (with_reducible refine (holtlaw0_Num.calls 2401 t159 _ A5.out).mono ?_); rintro e w' ⟨rfl, ⟨nd, rfl⟩⟩) | (go_at_call 38; (with_reducible refine (holtlaw0_Num.calls 2500 t160 _ A7.out).mono ?_); rintro e w' ⟨rfl, ⟨nd, rfl⟩⟩) | (go_at_call 38; (with_reducible refine (holtlaw0_Num.calls 2501 t161 _ A9.out).mono ?_); rintro e w' ⟨rfl, ⟨nd, rfl⟩⟩) | (go_at_call 38; (with_reducible refine (holtlaw0_Num.calls 2502 t162 _ A11.out).mono ?_); rintro e w' ⟨rfl, ⟨nd, rfl⟩⟩) | (go_at_call 38; (with_reducible refine (holtlaw0_Num.calls 2503 t163 _ A13.out).mono ?_); rintro e w' ⟨rfl, ⟨nd, rfl⟩⟩) | (go_at_call 38; (with_reducible refine (holtlaw0_Num.calls 2600 t164 _ A15.out).mono ?_); rintro e w' ⟨rfl, ⟨nd, rfl⟩⟩) | (go_at_call 38; (with_reducible refine (holtlaw0_Num.calls 2601 t165 _ A17.out).mono ?_); rintro e w' ⟨rfl, ⟨nd, rfl⟩⟩) | (go_at_call 38; (with_reducible refine (holtlaw0_Num.calls 2700 t166 _ A19.out).mono ?_); rintro e w' ⟨rfl, ⟨nd, rfl⟩⟩) | (go_at_call 38; (with_reducible refine (holtlaw0_Num.calls 2701 t167 _ A21.out).mono ?_); rintro e w' ⟨rfl, ⟨nd, rfl⟩⟩))
                        go_ret
                        exact ⟨by first | rfl | (simp; done) | (simp [*]; done), by repeat (first | exact Drawn0.refl _ | apply Drawn0.step)⟩
                    · rw [if_neg c20] at H
                      have c20b0 : (t166 == 2700) = false := beq_eq_false_iff_ne.mpr c20
                      have c20b1 : (t166 != 2700) = true := bne_iff_ne.mpr c20
                      obtain rfl := Option.some.inj H
                      go_enter Try.func19, Try.ntmps19
                      go_wp2_with (first | ((with_reducible refine gate_callee (f := 38) rfl ?_); refine goesL_ (some 1) rfl rfl Try.func38 (by kernel_rfl) rfl #[.int .i64 2302] rfl (by (try simp only [List.map_toArray, List.map_cons, List.map_nil]); first | done | rfl | (simp only [List.length_drop, List.length_take]; rfl)) ?_; (with_reducible refine (holtlaw0_Num.calls 2302 t157 _ A1.out).mono ?_); rintro e w' ⟨rfl, ⟨nd, rfl⟩⟩; refine ⟨_, rfl, ?_⟩) | (go_at_call 38; (with_reducible refine (holtlaw0_Num.calls 2400 t158 _ A3.out).mono ?_); rintro e w' ⟨rfl, ⟨nd, rfl⟩⟩) | (go_at_call 38; (with_reducible refine (holtlaw0_Num.calls 2401 t159 _ A5.out).mono ?_); rintro e w' ⟨rfl, ⟨nd, rfl⟩⟩) | (go_at_call 38; (with_reducible refine (holtlaw0_Num.calls 2500 t160 _ A7.out).mono ?_); rintro e w' ⟨rfl, ⟨nd, rfl⟩⟩) | (go_at_call 38; (with_reducible refine (holtlaw0_Num.calls 2501 t161 _ A9.out).mono ?_); rintro e w' ⟨rfl, ⟨nd, rfl⟩⟩) | (go_at_call 38; (with_reducible refine (holtlaw0_Num.calls 2502 t162 _ A11.out).mono ?_); rintro e w' ⟨rfl, ⟨nd, rfl⟩⟩) | (go_at_call 38; (with_reducible refine (holtlaw0_Num.calls 2503 t163 _ A13.out).mono ?_); rintro e w' ⟨rfl, ⟨nd, rfl⟩⟩) | (go_at_call 38; (with_reducible refine (holtlaw0_Num.calls 2600 t164 _ A15.out).mono ?_); rintro e w' ⟨rfl, ⟨nd, rfl⟩⟩) | (go_at_call 38; (with_reducible refine (holtlaw0_Num.calls 2601 t165 _ A17.out).mono ?_); rintro e w' ⟨rfl, ⟨nd, rfl⟩⟩) | (go_at_call 38; (with_reducible refine (holtlaw0_Num.calls 2700 t166 _ A19.out).mono ?_); rintro e w' ⟨rfl, ⟨nd, rfl⟩⟩))
                      go_ret
                      exact ⟨by first | rfl | (simp; done) | (simp [*]; done), by repeat (first | exact Drawn0.refl _ | apply Drawn0.step)⟩
                  · rw [if_neg c18] at H
                    have c18b0 : (t165 == 2601) = false := beq_eq_false_iff_ne.mpr c18
                    have c18b1 : (t165 != 2601) = true := bne_iff_ne.mpr c18
                    obtain rfl := Option.some.inj H
                    go_enter Try.func19, Try.ntmps19
                    go_wp2_with (first | ((with_reducible refine gate_callee (f := 38) rfl ?_); refine goesL_ (some 1) rfl rfl Try.func38 (by kernel_rfl) rfl #[.int .i64 2302] rfl (by (try simp only [List.map_toArray, List.map_cons, List.map_nil]); first | done | rfl | (simp only [List.length_drop, List.length_take]; rfl)) ?_; (with_reducible refine (holtlaw0_Num.calls 2302 t157 _ A1.out).mono ?_); rintro e w' ⟨rfl, ⟨nd, rfl⟩⟩; refine ⟨_, rfl, ?_⟩) | (go_at_call 38; (with_reducible refine (holtlaw0_Num.calls 2400 t158 _ A3.out).mono ?_); rintro e w' ⟨rfl, ⟨nd, rfl⟩⟩) | (go_at_call 38; (with_reducible refine (holtlaw0_Num.calls 2401 t159 _ A5.out).mono ?_); rintro e w' ⟨rfl, ⟨nd, rfl⟩⟩) | (go_at_call 38; (with_reducible refine (holtlaw0_Num.calls 2500 t160 _ A7.out).mono ?_); rintro e w' ⟨rfl, ⟨nd, rfl⟩⟩) | (go_at_call 38; (with_reducible refine (holtlaw0_Num.calls 2501 t161 _ A9.out).mono ?_); rintro e w' ⟨rfl, ⟨nd, rfl⟩⟩) | (go_at_call 38; (with_reducible refine (holtlaw0_Num.calls 2502 t162 _ A11.out).mono ?_); rintro e w' ⟨rfl, ⟨nd, rfl⟩⟩) | (go_at_call 38; (with_reducible refine (holtlaw0_Num.calls 2503 t163 _ A13.out).mono ?_); rintro e w' ⟨rfl, ⟨nd, rfl⟩⟩) | (go_at_call 38; (with_reducible refine (holtlaw0_Num.calls 2600 t164 _ A15.out).mono ?_); rintro e w' ⟨rfl, ⟨nd, rfl⟩⟩) | (go_at_call 38; (with_reducible refine (holtlaw0_Num.calls 2601 t165 _ A17.out).mono ?_); rintro e w' ⟨rfl, ⟨nd, rfl⟩⟩))
                    go_ret
                    exact ⟨by first | rfl | (simp; done) | (simp [*]; done), by repeat (first | exact Drawn0.refl _ | apply Drawn0.step)⟩
                · rw [if_neg c16] at H
                  have c16b0 : (t164 == 2600) = false := beq_eq_false_iff_ne.mpr c16
                  have c16b1 : (t164 != 2600) = true := bne_iff_ne.mpr c16
                  obtain rfl := Option.some.inj H
                  go_enter Try.func19, Try.ntmps19
                  go_wp2_with (first | ((with_reducible refine gate_callee (f := 38) rfl ?_); refine goesL_ (some 1) rfl rfl Try.func38 (by kernel_rfl) rfl #[.int .i64 2302] rfl (by (try simp only [List.map_toArray, List.map_cons, List.map_nil]); first | done | rfl | (simp only [List.length_drop, List.length_take]; rfl)) ?_; (with_reducible refine (holtlaw0_Num.calls 2302 t157 _ A1.out).mono ?_); rintro e w' ⟨rfl, ⟨nd, rfl⟩⟩; refine ⟨_, rfl, ?_⟩) | (go_at_call 38; (with_reducible refine (holtlaw0_Num.calls 2400 t158 _ A3.out).mono ?_); rintro e w' ⟨rfl, ⟨nd, rfl⟩⟩) | (go_at_call 38; (with_reducible refine (holtlaw0_Num.calls 2401 t159 _ A5.out).mono ?_); rintro e w' ⟨rfl, ⟨nd, rfl⟩⟩) | (go_at_call 38; (with_reducible refine (holtlaw0_Num.calls 2500 t160 _ A7.out).mono ?_); rintro e w' ⟨rfl, ⟨nd, rfl⟩⟩) | (go_at_call 38; (with_reducible refine (holtlaw0_Num.calls 2501 t161 _ A9.out).mono ?_); rintro e w' ⟨rfl, ⟨nd, rfl⟩⟩) | (go_at_call 38; (with_reducible refine (holtlaw0_Num.calls 2502 t162 _ A11.out).mono ?_); rintro e w' ⟨rfl, ⟨nd, rfl⟩⟩) | (go_at_call 38; (with_reducible refine (holtlaw0_Num.calls 2503 t163 _ A13.out).mono ?_); rintro e w' ⟨rfl, ⟨nd, rfl⟩⟩) | (go_at_call 38; (with_reducible refine (holtlaw0_Num.calls 2600 t164 _ A15.out).mono ?_); rintro e w' ⟨rfl, ⟨nd, rfl⟩⟩))
                  go_ret
                  exact ⟨by first | rfl | (simp; done) | (simp [*]; done), by repeat (first | exact Drawn0.refl _ | apply Drawn0.step)⟩
              · rw [if_neg c14] at H
                have c14b0 : (t163 == 2503) = false := beq_eq_false_iff_ne.mpr c14
                have c14b1 : (t163 != 2503) = true := bne_iff_ne.mpr c14
                obtain rfl := Option.some.inj H
                go_enter Try.func19, Try.ntmps19
                go_wp2_with (first | ((with_reducible refine gate_callee (f := 38) rfl ?_); refine goesL_ (some 1) rfl rfl Try.func38 (by kernel_rfl) rfl #[.int .i64 2302] rfl (by (try simp only [List.map_toArray, List.map_cons, List.map_nil]); first | done | rfl | (simp only [List.length_drop, List.length_take]; rfl)) ?_; (with_reducible refine (holtlaw0_Num.calls 2302 t157 _ A1.out).mono ?_); rintro e w' ⟨rfl, ⟨nd, rfl⟩⟩; refine ⟨_, rfl, ?_⟩) | (go_at_call 38; (with_reducible refine (holtlaw0_Num.calls 2400 t158 _ A3.out).mono ?_); rintro e w' ⟨rfl, ⟨nd, rfl⟩⟩) | (go_at_call 38; (with_reducible refine (holtlaw0_Num.calls 2401 t159 _ A5.out).mono ?_); rintro e w' ⟨rfl, ⟨nd, rfl⟩⟩) | (go_at_call 38; (with_reducible refine (holtlaw0_Num.calls 2500 t160 _ A7.out).mono ?_); rintro e w' ⟨rfl, ⟨nd, rfl⟩⟩) | (go_at_call 38; (with_reducible refine (holtlaw0_Num.calls 2501 t161 _ A9.out).mono ?_); rintro e w' ⟨rfl, ⟨nd, rfl⟩⟩) | (go_at_call 38; (with_reducible refine (holtlaw0_Num.calls 2502 t162 _ A11.out).mono ?_); rintro e w' ⟨rfl, ⟨nd, rfl⟩⟩) | (go_at_call 38; (with_reducible refine (holtlaw0_Num.calls 2503 t163 _ A13.out).mono ?_); rintro e w' ⟨rfl, ⟨nd, rfl⟩⟩))
                go_ret
                exact ⟨by first | rfl | (simp; done) | (simp [*]; done), by repeat (first | exact Drawn0.refl _ | apply Drawn0.step)⟩
            · rw [if_neg c12] at H
              have c12b0 : (t162 == 2502) = false := beq_eq_false_iff_ne.mpr c12
              have c12b1 : (t162 != 2502) = true := bne_iff_ne.mpr c12
              obtain rfl := Option.some.inj H
              go_enter Try.func19, Try.ntmps19
              go_wp2_with (first | ((with_reducible refine gate_callee (f := 38) rfl ?_); refine goesL_ (some 1) rfl rfl Try.func38 (by kernel_rfl) rfl #[.int .i64 2302] rfl (by (try simp only [List.map_toArray, List.map_cons, List.map_nil]); first | done | rfl | (simp only [List.length_drop, List.length_take]; rfl)) ?_; (with_reducible refine (holtlaw0_Num.calls 2302 t157 _ A1.out).mono ?_); rintro e w' ⟨rfl, ⟨nd, rfl⟩⟩; refine ⟨_, rfl, ?_⟩) | (go_at_call 38; (with_reducible refine (holtlaw0_Num.calls 2400 t158 _ A3.out).mono ?_); rintro e w' ⟨rfl, ⟨nd, rfl⟩⟩) | (go_at_call 38; (with_reducible refine (holtlaw0_Num.calls 2401 t159 _ A5.out).mono ?_); rintro e w' ⟨rfl, ⟨nd, rfl⟩⟩) | (go_at_call 38; (with_reducible refine (holtlaw0_Num.calls 2500 t160 _ A7.out).mono ?_); rintro e w' ⟨rfl, ⟨nd, rfl⟩⟩) | (go_at_call 38; (with_reducible refine (holtlaw0_Num.calls 2501 t161 _ A9.out).mono ?_); rintro e w' ⟨rfl, ⟨nd, rfl⟩⟩) | (go_at_call 38; (with_reducible refine (holtlaw0_Num.calls 2502 t162 _ A11.out).mono ?_); rintro e w' ⟨rfl, ⟨nd, rfl⟩⟩))
              go_ret
              exact ⟨by first | rfl | (simp; done) | (simp [*]; done), by repeat (first | exact Drawn0.refl _ | apply Drawn0.step)⟩
          · rw [if_neg c10] at H
            have c10b0 : (t161 == 2501) = false := beq_eq_false_iff_ne.mpr c10
            have c10b1 : (t161 != 2501) = true := bne_iff_ne.mpr c10
            obtain rfl := Option.some.inj H
            go_enter Try.func19, Try.ntmps19
            go_wp2_with (first | ((with_reducible refine gate_callee (f := 38) rfl ?_); refine goesL_ (some 1) rfl rfl Try.func38 (by kernel_rfl) rfl #[.int .i64 2302] rfl (by (try simp only [List.map_toArray, List.map_cons, List.map_nil]); first | done | rfl | (simp only [List.length_drop, List.length_take]; rfl)) ?_; (with_reducible refine (holtlaw0_Num.calls 2302 t157 _ A1.out).mono ?_); rintro e w' ⟨rfl, ⟨nd, rfl⟩⟩; refine ⟨_, rfl, ?_⟩) | (go_at_call 38; (with_reducible refine (holtlaw0_Num.calls 2400 t158 _ A3.out).mono ?_); rintro e w' ⟨rfl, ⟨nd, rfl⟩⟩) | (go_at_call 38; (with_reducible refine (holtlaw0_Num.calls 2401 t159 _ A5.out).mono ?_); rintro e w' ⟨rfl, ⟨nd, rfl⟩⟩) | (go_at_call 38; (with_reducible refine (holtlaw0_Num.calls 2500 t160 _ A7.out).mono ?_); rintro e w' ⟨rfl, ⟨nd, rfl⟩⟩) | (go_at_call 38; (with_reducible refine (holtlaw0_Num.calls 2501 t161 _ A9.out).mono ?_); rintro e w' ⟨rfl, ⟨nd, rfl⟩⟩))
            go_ret
            exact ⟨by first | rfl | (simp; done) | (simp [*]; done), by repeat (first | exact Drawn0.refl _ | apply Drawn0.step)⟩
        · rw [if_neg c8] at H
          have c8b0 : (t160 == 2500) = false := beq_eq_false_iff_ne.mpr c8
          have c8b1 : (t160 != 2500) = true := bne_iff_ne.mpr c8
          obtain rfl := Option.some.inj H
          go_enter Try.func19, Try.ntmps19
          go_wp2_with (first | ((with_reducible refine gate_callee (f := 38) rfl ?_); refine goesL_ (some 1) rfl rfl Try.func38 (by kernel_rfl) rfl #[.int .i64 2302] rfl (by (try simp only [List.map_toArray, List.map_cons, List.map_nil]); first | done | rfl | (simp only [List.length_drop, List.length_take]; rfl)) ?_; (with_reducible refine (holtlaw0_Num.calls 2302 t157 _ A1.out).mono ?_); rintro e w' ⟨rfl, ⟨nd, rfl⟩⟩; refine ⟨_, rfl, ?_⟩) | (go_at_call 38; (with_reducible refine (holtlaw0_Num.calls 2400 t158 _ A3.out).mono ?_); rintro e w' ⟨rfl, ⟨nd, rfl⟩⟩) | (go_at_call 38; (with_reducible refine (holtlaw0_Num.calls 2401 t159 _ A5.out).mono ?_); rintro e w' ⟨rfl, ⟨nd, rfl⟩⟩) | (go_at_call 38; (with_reducible refine (holtlaw0_Num.calls 2500 t160 _ A7.out).mono ?_); rintro e w' ⟨rfl, ⟨nd, rfl⟩⟩))
          go_ret
          exact ⟨by first | rfl | (simp; done) | (simp [*]; done), by repeat (first | exact Drawn0.refl _ | apply Drawn0.step)⟩
      · rw [if_neg c6] at H
        have c6b0 : (t159 == 2401) = false := beq_eq_false_iff_ne.mpr c6
        have c6b1 : (t159 != 2401) = true := bne_iff_ne.mpr c6
        obtain rfl := Option.some.inj H
        go_enter Try.func19, Try.ntmps19
        go_wp2_with (first | ((with_reducible refine gate_callee (f := 38) rfl ?_); refine goesL_ (some 1) rfl rfl Try.func38 (by kernel_rfl) rfl #[.int .i64 2302] rfl (by (try simp only [List.map_toArray, List.map_cons, List.map_nil]); first | done | rfl | (simp only [List.length_drop, List.length_take]; rfl)) ?_; (with_reducible refine (holtlaw0_Num.calls 2302 t157 _ A1.out).mono ?_); rintro e w' ⟨rfl, ⟨nd, rfl⟩⟩; refine ⟨_, rfl, ?_⟩) | (go_at_call 38; (with_reducible refine (holtlaw0_Num.calls 2400 t158 _ A3.out).mono ?_); rintro e w' ⟨rfl, ⟨nd, rfl⟩⟩) | (go_at_call 38; (with_reducible refine (holtlaw0_Num.calls 2401 t159 _ A5.out).mono ?_); rintro e w' ⟨rfl, ⟨nd, rfl⟩⟩))
        go_ret
        exact ⟨by first | rfl | (simp; done) | (simp [*]; done), by repeat (first | exact Drawn0.refl _ | apply Drawn0.step)⟩
    · rw [if_neg c4] at H
      have c4b0 : (t158 == 2400) = false := beq_eq_false_iff_ne.mpr c4
      have c4b1 : (t158 != 2400) = true := bne_iff_ne.mpr c4
      obtain rfl := Option.some.inj H
      go_enter Try.func19, Try.ntmps19
      go_wp2_with (first | ((with_reducible refine gate_callee (f := 38) rfl ?_); refine goesL_ (some 1) rfl rfl Try.func38 (by kernel_rfl) rfl #[.int .i64 2302] rfl (by (try simp only [List.map_toArray, List.map_cons, List.map_nil]); first | done | rfl | (simp only [List.length_drop, List.length_take]; rfl)) ?_; (with_reducible refine (holtlaw0_Num.calls 2302 t157 _ A1.out).mono ?_); rintro e w' ⟨rfl, ⟨nd, rfl⟩⟩; refine ⟨_, rfl, ?_⟩) | (go_at_call 38; (with_reducible refine (holtlaw0_Num.calls 2400 t158 _ A3.out).mono ?_); rintro e w' ⟨rfl, ⟨nd, rfl⟩⟩))
      go_ret
      exact ⟨by first | rfl | (simp; done) | (simp [*]; done), by repeat (first | exact Drawn0.refl _ | apply Drawn0.step)⟩
  · rw [if_neg c2] at H
    have c2b0 : (t157 == 2302) = false := beq_eq_false_iff_ne.mpr c2
    have c2b1 : (t157 != 2302) = true := bne_iff_ne.mpr c2
    obtain rfl := Option.some.inj H
    go_enter Try.func19, Try.ntmps19
    go_wp2_with (first | ((with_reducible refine gate_callee (f := 38) rfl ?_); refine goesL_ (some 1) rfl rfl Try.func38 (by kernel_rfl) rfl #[.int .i64 2302] rfl (by (try simp only [List.map_toArray, List.map_cons, List.map_nil]); first | done | rfl | (simp only [List.length_drop, List.length_take]; rfl)) ?_; (with_reducible refine (holtlaw0_Num.calls 2302 t157 _ A1.out).mono ?_); rintro e w' ⟨rfl, ⟨nd, rfl⟩⟩; refine ⟨_, rfl, ?_⟩))
    go_ret
    exact ⟨by first | rfl | (simp; done) | (simp [*]; done), by repeat (first | exact Drawn0.refl _ | apply Drawn0.step)⟩

/-! ### holtlaw0_errors6: function 20 -/
def holtlaw0_errors6.f  : Option (Bool) := (holtlaw0_Num.f 2802).bind fun t171 => (if t171 = 2802 then ((holtlaw0_Num.f 2900).bind fun t172 => (if t172 = 2900 then ((holtlaw0_Num.f 2901).bind fun t173 => (some (t173 == 2901))) else (some false))) else (some false))
set_option maxHeartbeats 8000000 in
set_option maxRecDepth 100000 in
theorem holtlaw0_errors6.calls  (r : Bool) (w : World) (h : holtlaw0_errors6.f  = some r) :
    Calls Try.prog 20 #[] w fun e w' => e = .returned (.bool r) ∧ Drawn0 w w' := by
  have H : ((holtlaw0_Num.f 2802).bind fun t171 => (if t171 = 2802 then ((holtlaw0_Num.f 2900).bind fun t172 => (if t172 = 2900 then ((holtlaw0_Num.f 2901).bind fun t173 => (some (t173 == 2901))) else (some false))) else (some false))) = some r := h
  clear h
  replace H := Option.bind_eq_some_iff.mp H
  obtain ⟨t171, A10, H⟩ := H
  replace H : (if t171 = 2802 then ((holtlaw0_Num.f 2900).bind fun t172 => (if t172 = 2900 then ((holtlaw0_Num.f 2901).bind fun t173 => (some (t173 == 2901))) else (some false))) else (some false)) = some r := H
  have A1 := Aside0.mk A10
  clear A10
  by_cases c2 : t171 = 2802
  · rw [if_pos c2] at H
    have c2b0 : (t171 == 2802) = true := beq_iff_eq.mpr c2
    have c2b1 : (t171 != 2802) = false := bne_eq_false_iff_eq.mpr c2
    clear c2
    replace H := Option.bind_eq_some_iff.mp H
    obtain ⟨t172, A30, H⟩ := H
    replace H : (if t172 = 2900 then ((holtlaw0_Num.f 2901).bind fun t173 => (some (t173 == 2901))) else (some false)) = some r := H
    have A3 := Aside0.mk A30
    clear A30
    by_cases c4 : t172 = 2900
    · rw [if_pos c4] at H
      have c4b0 : (t172 == 2900) = true := beq_iff_eq.mpr c4
      have c4b1 : (t172 != 2900) = false := bne_eq_false_iff_eq.mpr c4
      clear c4
      replace H := Option.bind_eq_some_iff.mp H
      obtain ⟨t173, A50, H⟩ := H
      replace H : (some (t173 == 2901)) = some r := H
      have A5 := Aside0.mk A50
      clear A50
      obtain rfl := Option.some.inj H
      go_enter Try.func20, Try.ntmps20
      go_wp2_with (first | ((with_reducible refine gate_callee (f := 38) rfl ?_); refine goesL_ (some 1) rfl rfl Try.func38 (by kernel_rfl) rfl #[.int .i64 2802] rfl (by (try simp only [List.map_toArray, List.map_cons, List.map_nil]); first | done | rfl | (simp only [List.length_drop, List.length_take]; rfl)) ?_; (with_reducible refine (holtlaw0_Num.calls 2802 t171 _ A1.out).mono ?_); rintro e w' ⟨rfl, ⟨nd, rfl⟩⟩; refine ⟨_, rfl, ?_⟩) | (go_at_call 38; (with_reducible refine (holtlaw0_Num.calls 2900 t172 _ A3.out).mono ?_); rintro e w' ⟨rfl, ⟨nd, rfl⟩⟩) | (go_at_call 38; (with_reducible refine (holtlaw0_Num.calls 2901 t173 _ A5.out).mono ?_); rintro e w' ⟨rfl, ⟨nd, rfl⟩⟩))
      go_ret
      exact ⟨by first | rfl | (simp; done) | (simp [*]; done), by repeat (first | exact Drawn0.refl _ | apply Drawn0.step)⟩
    · rw [if_neg c4] at H
      have c4b0 : (t172 == 2900) = false := beq_eq_false_iff_ne.mpr c4
      have c4b1 : (t172 != 2900) = true := bne_iff_ne.mpr c4
      obtain rfl := Option.some.inj H
      go_enter Try.func20, Try.ntmps20
      go_wp2_with (first | ((with_reducible refine gate_callee (f := 38) rfl ?_); refine goesL_ (some 1) rfl rfl Try.func38 (by kernel_rfl) rfl #[.int .i64 2802] rfl (by (try simp only [List.map_toArray, List.map_cons, List.map_nil]); first | done | rfl | (simp only [List.length_drop, List.length_take]; rfl)) ?_; (with_reducible refine (holtlaw0_Num.calls 2802 t171 _ A1.out).mono ?_); rintro e w' ⟨rfl, ⟨nd, rfl⟩⟩; refine ⟨_, rfl, ?_⟩) | (go_at_call 38; (with_reducible refine (holtlaw0_Num.calls 2900 t172 _ A3.out).mono ?_); rintro e w' ⟨rfl, ⟨nd, rfl⟩⟩))
      go_ret
      exact ⟨by first | rfl | (simp; done) | (simp [*]; done), by repeat (first | exact Drawn0.refl _ | apply Drawn0.step)⟩
  · rw [if_neg c2] at H
    have c2b0 : (t171 == 2802) = false := beq_eq_false_iff_ne.mpr c2
    have c2b1 : (t171 != 2802) = true := bne_iff_ne.mpr c2
    obtain rfl := Option.some.inj H
    go_enter Try.func20, Try.ntmps20
    go_wp2_with (first | ((with_reducible refine gate_callee (f := 38) rfl ?_); refine goesL_ (some 1) rfl rfl Try.func38 (by kernel_rfl) rfl #[.int .i64 2802] rfl (by (try simp only [List.map_toArray, List.map_cons, List.map_nil]); first | done | rfl | (simp only [List.length_drop, List.length_take]; rfl)) ?_; (with_reducible refine (holtlaw0_Num.calls 2802 t171 _ A1.out).mono ?_); rintro e w' ⟨rfl, ⟨nd, rfl⟩⟩; refine ⟨_, rfl, ?_⟩))
    go_ret
    exact ⟨by first | rfl | (simp; done) | (simp [*]; done), by repeat (first | exact Drawn0.refl _ | apply Drawn0.step)⟩

/-! ### holtlaw0_numbers1: function 21 -/
def holtlaw0_numbers1.f  : Option (Bool) := some true
set_option maxHeartbeats 8000000 in
set_option maxRecDepth 100000 in
theorem holtlaw0_numbers1.calls  (r : Bool) (w : World) (h : holtlaw0_numbers1.f  = some r) :
    Calls Try.prog 21 #[] w fun e w' => e = .returned (.bool r) ∧ Drawn0 w w' := by
  have H : (some true) = some r := h
  clear h
  obtain rfl := Option.some.inj H
  go_enter Try.func21, Try.ntmps21
  go_wp2
  go_ret
  exact ⟨by first | rfl | (simp; done) | (simp [*]; done), by repeat (first | exact Drawn0.refl _ | apply Drawn0.step)⟩

/-! ### holtlaw0_numbers2: function 22 -/
def holtlaw0_numbers2.f  : Option (Bool) := some true
set_option maxHeartbeats 8000000 in
set_option maxRecDepth 100000 in
theorem holtlaw0_numbers2.calls  (r : Bool) (w : World) (h : holtlaw0_numbers2.f  = some r) :
    Calls Try.prog 22 #[] w fun e w' => e = .returned (.bool r) ∧ Drawn0 w w' := by
  have H : (some true) = some r := h
  clear h
  obtain rfl := Option.some.inj H
  go_enter Try.func22, Try.ntmps22
  go_wp2
  go_ret
  exact ⟨by first | rfl | (simp; done) | (simp [*]; done), by repeat (first | exact Drawn0.refl _ | apply Drawn0.step)⟩

/-! ### holtlaw0_numbers3: function 23 -/
def holtlaw0_numbers3.f  : Option (Bool) := some true
set_option maxHeartbeats 8000000 in
set_option maxRecDepth 100000 in
theorem holtlaw0_numbers3.calls  (r : Bool) (w : World) (h : holtlaw0_numbers3.f  = some r) :
    Calls Try.prog 23 #[] w fun e w' => e = .returned (.bool r) ∧ Drawn0 w w' := by
  have H : (some true) = some r := h
  clear h
  obtain rfl := Option.some.inj H
  go_enter Try.func23, Try.ntmps23
  go_wp2
  go_ret
  exact ⟨by first | rfl | (simp; done) | (simp [*]; done), by repeat (first | exact Drawn0.refl _ | apply Drawn0.step)⟩

/-! ### holtlaw0_numbers4: function 24 -/
def holtlaw0_numbers4.f  : Option (Bool) := some true
set_option maxHeartbeats 8000000 in
set_option maxRecDepth 100000 in
theorem holtlaw0_numbers4.calls  (r : Bool) (w : World) (h : holtlaw0_numbers4.f  = some r) :
    Calls Try.prog 24 #[] w fun e w' => e = .returned (.bool r) ∧ Drawn0 w w' := by
  have H : (some true) = some r := h
  clear h
  obtain rfl := Option.some.inj H
  go_enter Try.func24, Try.ntmps24
  go_wp2
  go_ret
  exact ⟨by first | rfl | (simp; done) | (simp [*]; done), by repeat (first | exact Drawn0.refl _ | apply Drawn0.step)⟩

/-! ### holtlaw0_numbers5: function 25 -/
def holtlaw0_numbers5.f  : Option (Bool) := some true
set_option maxHeartbeats 8000000 in
set_option maxRecDepth 100000 in
theorem holtlaw0_numbers5.calls  (r : Bool) (w : World) (h : holtlaw0_numbers5.f  = some r) :
    Calls Try.prog 25 #[] w fun e w' => e = .returned (.bool r) ∧ Drawn0 w w' := by
  have H : (some true) = some r := h
  clear h
  obtain rfl := Option.some.inj H
  go_enter Try.func25, Try.ntmps25
  go_wp2
  go_ret
  exact ⟨by first | rfl | (simp; done) | (simp [*]; done), by repeat (first | exact Drawn0.refl _ | apply Drawn0.step)⟩

/-! ### holtlaw0_numbers6: function 26 -/
def holtlaw0_numbers6.f  : Option (Bool) := some true
set_option maxHeartbeats 8000000 in
set_option maxRecDepth 100000 in
theorem holtlaw0_numbers6.calls  (r : Bool) (w : World) (h : holtlaw0_numbers6.f  = some r) :
    Calls Try.prog 26 #[] w fun e w' => e = .returned (.bool r) ∧ Drawn0 w w' := by
  have H : (some true) = some r := h
  clear h
  obtain rfl := Option.some.inj H
  go_enter Try.func26, Try.ntmps26
  go_wp2
  go_ret
  exact ⟨by first | rfl | (simp; done) | (simp [*]; done), by repeat (first | exact Drawn0.refl _ | apply Drawn0.step)⟩

end Go.Proofs.Ytkcnmlggaggjlaa.Hn

/- Printed by hp.py, a program of this session, out of the translation: each Go function as a plain Lean function and the contract of its call. No conditions beyond those in the statements. -/
import Derived.Test.YtkcnmlggaggjlaaHn0
namespace Go.Proofs.Ytkcnmlggaggjlaa.Hn
open Go.RowKit Go.Proofs.YtkcnmlggaggjlaaW.PrintWords Go.Proofs.YtkcnmlggaggjlaaW.PrintLast Go.Proofs.YtkcnmlggaggjlaaW.PrintMore
attribute [local go_sem] max2_int min2_int max_two min_two max_three min_three max_four min_four   -- for this text's walks alone
set_option linter.unusedVariables false
set_option linter.unusedSimpArgs false

/-! ### holtlaw0_Num: function 38 -/
def holtlaw0_Num.f (a0 : Int) : Option (Int) := some a0
set_option maxHeartbeats 8000000 in
set_option maxRecDepth 100000 in
theorem holtlaw0_Num.calls (a0 : Int) (r : Int) (w : World) (h : holtlaw0_Num.f a0 = some r) :
    Calls Try.prog 38 #[.int .i64 a0] w fun e w' => e = .returned (.int .i64 r) ∧ Drawn0 w w' := by
  have H : (some a0) = some r := h
  clear h
  obtain rfl := Option.some.inj H
  go_enter Try.func38, Try.ntmps38
  go_wp2
  go_ret
  exact ⟨by first | rfl | (simp; done) | (simp [*]; done), by repeat (first | exact Drawn0.refl _ | apply Drawn0.step)⟩

/-! ### holtlaw0_errors1: function 15 -/
def holtlaw0_errors1.f  : Option (Bool) := (holtlaw0_Num.f 0).bind fun t101 => (if t101 = 0 then ((holtlaw0_Num.f 1).bind fun t102 => (if t102 = 1 then ((holtlaw0_Num.f 100).bind fun t103 => (if t103 = 100 then ((holtlaw0_Num.f 300).bind fun t104 => (if t104 = 300 then ((holtlaw0_Num.f 301).bind fun t105 => (if t105 = 301 then ((holtlaw0_Num.f 302).bind fun t106 => (if t106 = 302 then ((holtlaw0_Num.f 400).bind fun t107 => (if t107 = 400 then ((holtlaw0_Num.f 401).bind fun t108 => (if t108 = 401 then ((holtlaw0_Num.f 402).bind fun t109 => (if t109 = 402 then ((holtlaw0_Num.f 403).bind fun t110 => (if t110 = 403 then ((holtlaw0_Num.f 404).bind fun t111 => (if t111 = 404 then ((holtlaw0_Num.f 500).bind fun t112 => (if t112 = 500 then ((holtlaw0_Num.f 501).bind fun t113 => (if t113 = 501 then ((holtlaw0_Num.f 600).bind fun t114 => (some (t114 == 600))) else (some false))) else (some false))) else (some false))) else (some false))) else (some false))) else (some false))) else (some false))) else (some false))) else (some false))) else (some false))) else (some false))) else (some false))) else (some false))
set_option maxHeartbeats 8000000 in
set_option maxRecDepth 100000 in
theorem holtlaw0_errors1.calls  (r : Bool) (w : World) (h : holtlaw0_errors1.f  = some r) :
    Calls Try.prog 15 #[] w fun e w' => e = .returned (.bool r) ∧ Drawn0 w w' := by
  have H : ((holtlaw0_Num.f 0).bind fun t101 => (if t101 = 0 then ((holtlaw0_Num.f 1).bind fun t102 => (if t102 = 1 then ((holtlaw0_Num.f 100).bind fun t103 => (if t103 = 100 then ((holtlaw0_Num.f 300).bind fun t104 => (if t104 = 300 then ((holtlaw0_Num.f 301).bind fun t105 => (if t105 = 301 then ((holtlaw0_Num.f 302).bind fun t106 => (if t106 = 302 then ((holtlaw0_Num.f 400).bind fun t107 => (if t107 = 400 then ((holtlaw0_Num.f 401).bind fun t108 => (if t108 = 401 then ((holtlaw0_Num.f 402).bind fun t109 => (if t109 = 402 then ((holtlaw0_Num.f 403).bind fun t110 => (if t110 = 403 then ((holtlaw0_Num.f 404).bind fun t111 => (if t111 = 404 then ((holtlaw0_Num.f 500).bind fun t112 => (if t112 = 500 then ((holtlaw0_Num.f 501).bind fun t113 => (if t113 = 501 then ((holtlaw0_Num.f 600).bind fun t114 => (some (t114 == 600))) else (some false))) else (some false))) else (some false))) else (some false))) else (some false))) else (some false))) else (some false))) else (some false))) else (some false))) else (some false))) else (some false))) else (some false))) else (some false))) = some r := h
  clear h
  replace H := Option.bind_eq_some_iff.mp H
  obtain ⟨t101, A10, H⟩ := H
  replace H : (if t101 = 0 then ((holtlaw0_Num.f 1).bind fun t102 => (if t102 = 1 then ((holtlaw0_Num.f 100).bind fun t103 => (if t103 = 100 then ((holtlaw0_Num.f 300).bind fun t104 => (if t104 = 300 then ((holtlaw0_Num.f 301).bind fun t105 => (if t105 = 301 then ((holtlaw0_Num.f 302).bind fun t106 => (if t106 = 302 then ((holtlaw0_Num.f 400).bind fun t107 => (if t107 = 400 then ((holtlaw0_Num.f 401).bind fun t108 => (if t108 = 401 then ((holtlaw0_Num.f 402).bind fun t109 => (if t109 = 402 then ((holtlaw0_Num.f 403).bind fun t110 => (if t110 = 403 then ((holtlaw0_Num.f 404).bind fun t111 => (if t111 = 404 then ((holtlaw0_Num.f 500).bind fun t112 => (if t112 = 500 then ((holtlaw0_Num.f 501).bind fun t113 => (if t113 = 501 then ((holtlaw0_Num.f 600).bind fun t114 => (some (t114 == 600))) else (some false))) else (some false))) else (some false))) else (some false))) else (some false))) else (some false))) else (some false))) else (some false))) else (some false))) else (some false))) else (some false))) else (some false))) else (some false)) = some r := H
  have A1 := Aside0.mk A10
  clear A10
  by_cases c2 : t101 = 0
  · rw [if_pos c2] at H
    have c2b0 : (t101 == 0) = true := beq_iff_eq.mpr c2
    have c2b1 : (t101 != 0) = false := bne_eq_false_iff_eq.mpr c2
    clear c2
    replace H := Option.bind_eq_some_iff.mp H
    obtain ⟨t102, A30, H⟩ := H
    replace H : (if t102 = 1 then ((holtlaw0_Num.f 100).bind fun t103 => (if t103 = 100 then ((holtlaw0_Num.f 300).bind fun t104 => (if t104 = 300 then ((holtlaw0_Num.f 301).bind fun t105 => (if t105 = 301 then ((holtlaw0_Num.f 302).bind fun t106 => (if t106 = 302 then ((holtlaw0_Num.f 400).bind fun t107 => (if t107 = 400 then ((holtlaw0_Num.f 401).bind fun t108 => (if t108 = 401 then ((holtlaw0_Num.f 402).bind fun t109 => (if t109 = 402 then ((holtlaw0_Num.f 403).bind fun t110 => (if t110 = 403 then ((holtlaw0_Num.f 404).bind fun t111 => (if t111 = 404 then ((holtlaw0_Num.f 500).bind fun t112 => (if t112 = 500 then ((holtlaw0_Num.f 501).bind fun t113 => (if t113 = 501 then ((holtlaw0_Num.f 600).bind fun t114 => (some (t114 == 600))) else (some false))) else (some false))) else (some false))) else (some false))) else (some false))) else (some false))) else (some false))) else (some false))) else (some false))) else (some false))) else (some false))) else (some false)) = some r := H
    have A3 := Aside0.mk A30
    clear A30
    by_cases c4 : t102 = 1
    · rw [if_pos c4] at H
      have c4b0 : (t102 == 1) = true := beq_iff_eq.mpr c4
      have c4b1 : (t102 != 1) = false := bne_eq_false_iff_eq.mpr c4
      clear c4
      replace H := Option.bind_eq_some_iff.mp H
      obtain ⟨t103, A50, H⟩ := H
      replace H : (if t103 = 100 then ((holtlaw0_Num.f 300).bind fun t104 => (if t104 = 300 then ((holtlaw0_Num.f 301).bind fun t105 => (if t105 = 301 then ((holtlaw0_Num.f 302).bind fun t106 => (if t106 = 302 then ((holtlaw0_Num.f 400).bind fun t107 => (if t107 = 400 then ((holtlaw0_Num.f 401).bind fun t108 => (if t108 = 401 then ((holtlaw0_Num.f 402).bind fun t109 => (if t109 = 402 then ((holtlaw0_Num.f 403).bind fun t110 => (if t110 = 403 then ((holtlaw0_Num.f 404).bind fun t111 => (if t111 = 404 then ((holtlaw0_Num.f 500).bind fun t112 => (if t112 = 500 then ((holtlaw0_Num.f 501).bind fun t113 => (if t113 = 501 then ((holtlaw0_Num.f 600).bind fun t114 => (some (t114 == 600))) else (some false))) else (some false))) else (some false))) else (some false))) else (some false))) else (some false))) else (some false))) else (some false))) else (some false))) else (some false))) else (some false)) = some r := H
      have A5 := Aside0.mk A50
      clear A50
      by_cases c6 : t103 = 100
      · rw [if_pos c6] at H
        have c6b0 : (t103 == 100) = true := beq_iff_eq.mpr c6
        have c6b1 : (t103 != 100) = false := bne_eq_false_iff_eq.mpr c6
        clear c6
        replace H := Option.bind_eq_some_iff.mp H
        obtain ⟨t104, A70, H⟩ := H
        replace H : (if t104 = 300 then ((holtlaw0_Num.f 301).bind fun t105 => (if t105 = 301 then ((holtlaw0_Num.f 302).bind fun t106 => (if t106 = 302 then ((holtlaw0_Num.f 400).bind fun t107 => (if t107 = 400 then ((holtlaw0_Num.f 401).bind fun t108 => (if t108 = 401 then ((holtlaw0_Num.f 402).bind fun t109 => (if t109 = 402 then ((holtlaw0_Num.f 403).bind fun t110 => (if t110 = 403 then ((holtlaw0_Num.f 404).bind fun t111 => (if t111 = 404 then ((holtlaw0_Num.f 500).bind fun t112 => (if t112 = 500 then ((holtlaw0_Num.f 501).bind fun t113 => (if t113 = 501 then ((holtlaw0_Num.f 600).bind fun t114 => (some (t114 == 600))) else (some false))) else (some false))) else (some false))) else (some false))) else (some false))) else (some false))) else (some false))) else (some false))) else (some false))) else (some false)) = some r := H
        have A7 := Aside0.mk A70
        clear A70
        by_cases c8 : t104 = 300
        · rw [if_pos c8] at H
          have c8b0 : (t104 == 300) = true := beq_iff_eq.mpr c8
          have c8b1 : (t104 != 300) = false := bne_eq_false_iff_eq.mpr c8
          clear c8
          replace H := Option.bind_eq_some_iff.mp H
          obtain ⟨t105, A90, H⟩ := H
          replace H : (if t105 = 301 then ((holtlaw0_Num.f 302).bind fun t106 => (if t106 = 302 then ((holtlaw0_Num.f 400).bind fun t107 => (if t107 = 400 then ((holtlaw0_Num.f 401).bind fun t108 => (if t108 = 401 then ((holtlaw0_Num.f 402).bind fun t109 => (if t109 = 402 then ((holtlaw0_Num.f 403).bind fun t110 => (if t110 = 403 then ((holtlaw0_Num.f 404).bind fun t111 => (if t111 = 404 then ((holtlaw0_Num.f 500).bind fun t112 => (if t112 = 500 then ((holtlaw0_Num.f 501).bind fun t113 => (if t113 = 501 then ((holtlaw0_Num.f 600).bind fun t114 => (some (t114 == 600))) else (some false))) else (some false))) else (some false))) else (some false))) else (some false))) else (some false))) else (some false))) else (some false))) else (some false)) = some r := H
          have A9 := Aside0.mk A90
          clear A90
          by_cases c10 : t105 = 301
          · rw [if_pos c10] at H
            have c10b0 : (t105 == 301) = true := beq_iff_eq.mpr c10
            have c10b1 : (t105 != 301) = false := bne_eq_false_iff_eq.mpr c10
            clear c10
            replace H := Option.bind_eq_some_iff.mp H
            obtain ⟨t106, A110, H⟩ := H
            replace H : (if t106 = 302 then ((holtlaw0_Num.f 400).bind fun t107 => (if t107 = 400 then ((holtlaw0_Num.f 401).bind fun t108 => (if t108 = 401 then ((holtlaw0_Num.f 402).bind fun t109 => (if t109 = 402 then ((holtlaw0_Num.f 403).bind fun t110 => (if t110 = 403 then ((holtlaw0_Num.f 404).bind fun t111 => (if t111 = 404 then ((holtlaw0_Num.f 500).bind fun t112 => (if t112 = 500 then ((holtlaw0_Num.f 501).bind fun t113 => (if t113 = 501 then ((holtlaw0_Num.f 600).bind fun t114 => (some (t114 == 600))) else (some false))) else (some false))) else (some false))) else (some false))) else (some false))) else (some false))) else (some false))) else (some false)) = some r := H
            have A11 := Aside0.mk A110
            clear A110
            by_cases c12 : t106 = 302
            · rw [if_pos c12] at H
              have c12b0 : (t106 == 302) = true := beq_iff_eq.mpr c12
              have c12b1 : (t106 != 302) = false := bne_eq_false_iff_eq.mpr c12
              clear c12
              replace H := Option.bind_eq_some_iff.mp H
              obtain ⟨t107, A130, H⟩ := H
              replace H : (if t107 = 400 then ((holtlaw0_Num.f 401).bind fun t108 => (if t108 = 401 then ((holtlaw0_Num.f 402).bind fun t109 => (if t109 = 402 then ((holtlaw0_Num.f 403).bind fun t110 => (if t110 = 403 then ((holtlaw0_Num.f 404).bind fun t111 => (if t111 = 404 then ((holtlaw0_Num.f 500).bind fun t112 => (if t112 = 500 then ((holtlaw0_Num.f 501).bind fun t113 => (if t113 = 501 then ((holtlaw0_Num.f 600).bind fun t114 => (some (t114 == 600))) else (some false))) else (some false))) else (some false))) else (some false))) else (some false))) else (some false))) else (some false)) = some r := H
              have A13 := Aside0.mk A130
              clear A130
              by_cases c14 : t107 = 400
              · rw [if_pos c14] at H
                have c14b0 : (t107 == 400) = true := beq_iff_eq.mpr c14
                have c14b1 : (t107 != 400) = false := bne_eq_false_iff_eq.mpr c14
                clear c14
                replace H := Option.bind_eq_some_iff.mp H
                obtain ⟨t108, A150, H⟩ := H
                replace H : (if t108 = 401 then ((holtlaw0_Num.f 402).bind fun t109 => (if t109 = 402 then ((holtlaw0_Num.f 403).bind fun t110 => (if t110 = 403 then ((holtlaw0_Num.f 404).bind fun t111 => (if t111 = 404 then ((holtlaw0_Num.f 500).bind fun t112 => (if t112 = 500 then ((holtlaw0_Num.f 501).bind fun t113 => (if t113 = 501 then ((holtlaw0_Num.f 600).bind fun t114 => (some (t114 == 600))) else (some false))) else (some false))) else (some false))) else (some false))) else (some false))) else (some false)) = some r := H
                have A15 := Aside0.mk A150
                clear A150
                by_cases c16 : t108 = 401
                · rw [if_pos c16] at H
                  have c16b0 : (t108 == 401) = true := beq_iff_eq.mpr c16
                  have c16b1 : (t108 != 401) = false := bne_eq_false_iff_eq.mpr c16
                  clear c16
                  replace H := Option.bind_eq_some_iff.mp H
                  obtain ⟨t109, A170, H⟩ := H
                  replace H : (if t109 = 402 then ((holtlaw0_Num.f 403).bind fun t110 => (if t110 = 403 then ((holtlaw0_Num.f 404).bind fun t111 => (if t111 = 404 then ((holtlaw0_Num.f 500).bind fun t112 => (if t112 = 500 then ((holtlaw0_Num.f 501).bind fun t113 => (if t113 = 501 then ((holtlaw0_Num.f 600).bind fun t114 => (some (t114 == 600))) else (some false))) else (some false))) else (some false))) else (some false))) else (some false)) = some r := H
                  have A17 := Aside0.mk A170
                  clear A170
                  by_cases c18 : t109 = 402
                  · rw [if_pos c18] at H
                    have c18b0 : (t109 == 402) = true := beq_iff_eq.mpr c18
                    have c18b1 : (t109 != 402) = false := bne_eq_false_iff_eq.mpr c18
                    clear c18
                    replace H := Option.bind_eq_some_iff.mp H
                    obtain ⟨t110, A190, H⟩ := H
                    replace H : (if t110 = 403 then ((holtlaw0_Num.f 404).bind fun t111 => (if t111 = 404 then ((holtlaw0_Num.f 500).bind fun t112 => (if t112 = 500 then ((holtlaw0_Num.f 501).bind fun t113 => (if t113 = 501 then ((holtlaw0_Num.f 600).bind fun t114 => (some (t114 == 600))) else (some false))) else (some false))) else (some false))) else (some false)) = some r := H
                    have A19 := Aside0.mk A190
                    clear A190
                    by_cases c20 : t110 = 403
                    · rw [if_pos c20] at H
                      have c20b0 : (t110 == 403) = true := beq_iff_eq.mpr c20
                      have c20b1 : (t110 != 403) = false := bne_eq_false_iff_eq.mpr c20
                      clear c20
                      replace H := Option.bind_eq_some_iff.mp H
                      obtain ⟨t111, A210, H⟩ := H
                      replace H : (if t111 = 404 then ((holtlaw0_Num.f 500).bind fun t112 => (if t112 = 500 then ((holtlaw0_Num.f 501).bind fun t113 => (if t113 = 501 then ((holtlaw0_Num.f 600).bind fun t114 => (some (t114 == 600))) else (some false))) else (some false))) else (some false)) = some r := H
                      have A21 := Aside0.mk A210
                      clear A210
                      by_cases c22 : t111 = 404
                      · rw [if_pos c22] at H
                        have c22b0 : (t111 == 404) = true := beq_iff_eq.mpr c22
                        have c22b1 : (t111 != 404) = false := bne_eq_false_iff_eq.mpr c22
                        clear c22
                        replace H := Option.bind_eq_some_iff.mp H
                        obtain ⟨t112, A230, H⟩ := H
                        replace H : (if t112 = 500 then ((holtlaw0_Num.f 501).bind fun t113 => (if t113 = 501 then ((holtlaw0_Num.f 600).bind fun t114 => (some (t114 == 600))) else (some false))) else (some false)) = some r := H
                        have A23 := Aside0.mk A230
                        clear A230
                        by_cases c24 : t112 = 500
                        · rw [if_pos c24] at H
                          have c24b0 : (t112 == 500) = true := beq_iff_eq.mpr c24
                          have c24b1 : (t112 != 500) = false := bne_eq_false_iff_eq.mpr c24
                          clear c24
                          replace H := Option.bind_eq_some_iff.mp H
                          obtain ⟨t113, A250, H⟩ := H
                          replace H : (if t113 = 501 then ((holtlaw0_Num.f 600).bind fun t114 => (some (t114 == 600))) else (some false)) = some r := H
                          have A25 := Aside0.mk A250
                          clear A250
                          by_cases c26 : t113 = 501
                          · rw [if_pos c26] at H
                            have c26b0 : (t113 == 501) = true := beq_iff_eq.mpr c26
                            have c26b1 : (t113 != 501) = false := bne_eq_false_iff_eq.mpr c26
                            clear c26
                            replace H := Option.bind_eq_some_iff.mp H
                            obtain ⟨t114, A270, H⟩ := H
                            replace H : (some (t114 == 600)) = some r := H
                            have A27 := Aside0.mk A270
                            clear A270
                            obtain rfl := Option.some.inj H
                            go_enter Try.func15, Try.ntmps15
                            go_wp2_with (first | ((with_reducible refine gate_callee (f := 38) rfl ?_); refine goesL_ (some 1) rfl rfl Try.func38 (by kernel_rfl) rfl #[.int .i64 0] rfl (by (try simp only [List.map_toArray, List.map_cons, List.map_nil]); first | done | rfl | (simp only [List.length_drop, List.length_take]; rfl)) ?_; (with_reducible refine (holtlaw0_Num.calls 0 t101 _ A1.out).mono ?_); rintro e w' ⟨rfl, ⟨nd, rfl⟩⟩; refine ⟨_, rfl, ?_⟩) | (go_at_call 38; (with_reducible refine (holtlaw0_Num.calls 1 t102 _ A3.out).mono ?_); rintro e w' ⟨rfl, ⟨nd, rfl⟩⟩) | (go_at_call 38; (with_reducible refine (holtlaw0_Num.calls 100 t103 _ A5.out).mono ?_); rintro e w' ⟨rfl, ⟨nd, rfl⟩⟩) | (go_at_call 38; (with_reducible refine (holtlaw0_Num.calls 300 t104 _ A7.out).mono ?_); rintro e w' ⟨rfl, ⟨nd, rfl⟩⟩) | (go_at_call 38; (with_reducible refine (holtlaw0_Num.calls 301 t105 _ A9.out).mono ?_); rintro e w' ⟨rfl, ⟨nd, rfl⟩⟩) | (go_at_call 38; (with_reducible refine (holtlaw0_Num.calls 302 t106 _ A11.out).mono ?_); rintro e w' ⟨rfl, ⟨nd, rfl⟩⟩) | (go_at_call 38; (with_reducible refine (holtlaw0_Num.calls 400 t107 _ A13.out).mono ?_); rintro e w' ⟨rfl, ⟨nd, rfl⟩⟩) | (go_at_call 38; (with_reducible refine (holtlaw0_Num.calls 401 t108 _ A15.out).mono ?_); rintro e w' ⟨rfl, ⟨nd, rfl⟩⟩) | (go_at_call 38; (with_reducible refine (holtlaw0_Num.calls 402 t109 _ A17.out).mono ?_); rintro e w' ⟨rfl, ⟨nd, rfl⟩⟩) | (go_at_call 38; (with_reducible refine (holtlaw0_Num.calls 403 t110 _ A19.out).mono ?_); rintro e w' ⟨rfl, ⟨nd, rfl⟩⟩) | (go_at_call 38; (with_reducible refine (holtlaw0_Num.calls 404 t111 _ A21.out).mono ?_); rintro e w' ⟨rfl, ⟨nd, rfl⟩⟩) | (go_at_call 38; (with_reducible refine (holtlaw0_Num.calls 500 t112 _ A23.out).mono ?_); rintro e w' ⟨rfl, ⟨nd, rfl⟩⟩) | (go_at_call 38; (with_reducible refine (holtlaw0_Num.calls 501 t113 _ A25.out).mono ?_); rintro e w' ⟨rfl, ⟨nd, rfl⟩⟩) | (go_at_call 38; (with_reducible refine (holtlaw0_Num.calls 600 t114 _ A27.out).mono ?_); rintro e w' ⟨rfl, ⟨nd, rfl⟩⟩))
                            go_ret
                            exact ⟨by first | rfl | (simp; done) | (simp [*]; done), by repeat (first | exact Drawn0.refl _ | apply Drawn0.step)⟩
                          · rw [if_neg c26] at H
                            have c26b0 : (t113 == 501) = false := beq_eq_false_iff_ne.mpr c26
                            have c26b1 : (t113 != 501) = true := bne_iff_ne.mpr c26
                            obtain rfl := Option.some.inj H
                            go_enter Try.func15, Try.ntmps15
                            go_wp2_with (first | ((with_reducible refine gate_callee (f := 38) rfl ?_); refine goesL_ (some 1) rfl rfl Try.func38 (by kernel_rfl) rfl #[.int .i64 0] rfl (by (try simp only [List.map_toArray, List.map_cons, List.map_nil]); first | done | rfl | (simp only [List.length_drop, List.length_take]; rfl)) ?_; (with_reducible refine (holtlaw0_Num.calls 0 t101 _ A1.out).mono ?_); rintro e w' ⟨rfl, ⟨nd, rfl⟩⟩; refine ⟨_, rfl, ?_⟩) | (go_at_call 38; (with_reducible refine (holtlaw0_Num.calls 1 t102 _ A3.out).mono ?_); rintro e w' ⟨rfl, ⟨nd, rfl⟩⟩) | (go_at_call 38; (with_reducible refine (holtlaw0_Num.calls 100 t103 _ A5.out).mono ?_); rintro e w' ⟨rfl, ⟨nd, rfl⟩⟩) | (go_at_call 38; (with_reducible refine (holtlaw0_Num.calls 300 t104 _ A7.out).mono ?_); rintro e w' ⟨rfl, ⟨nd, rfl⟩⟩) | (go_at_call 38; (with_reducible refine (holtlaw0_Num.calls 301 t105 _ A9.out).mono ?_); rintro e w' ⟨rfl, ⟨nd, rfl⟩⟩) | (go_at_call 38; (with_reducible refine (holtlaw0_Num.calls 302 t106 _ A11.out).mono ?_); rintro e w' ⟨rfl, ⟨nd, rfl⟩⟩) | (go_at_call 38; (with_reducible refine (holtlaw0_Num.calls 400 t107 _ A13.out).mono ?_); rintro e w' ⟨rfl, ⟨nd, rfl⟩⟩) | (go_at_call 38; (with_reducible refine (holtlaw0_Num.calls 401 t108 _ A15.out).mono ?_); rintro e w' ⟨rfl, ⟨nd, rfl⟩⟩) | (go_at_call 38; (with_reducible refine (holtlaw0_Num.calls 402 t109 _ A17.out).mono ?_); rintro e w' ⟨rfl, ⟨nd, rfl⟩⟩) | (go_at_call 38; (with_reducible refine (holtlaw0_Num.calls 403 t110 _ A19.out).mono ?_); rintro e w' ⟨rfl, ⟨nd, rfl⟩⟩) | (go_at_call 38; (with_reducible refine (holtlaw0_Num.calls 404 t111 _ A21.out).mono ?_); rintro e w' ⟨rfl, ⟨nd, rfl⟩⟩) | (go_at_call 38; (with_reducible refine (holtlaw0_Num.calls 500 t112 _ A23.out).mono ?_); rintro e w' ⟨rfl, ⟨nd, rfl⟩⟩) | (go_at_call 38; (with_reducible refine (holtlaw0_Num.calls 501 t113 _ A25.out).mono ?_); rintro e w' ⟨rfl, ⟨nd, rfl⟩⟩))
                            go_ret
                            exact ⟨by first | rfl | (simp; done) | (simp [*]; done), by repeat (first | exact Drawn0.refl _ | apply Drawn0.step)⟩
                        · rw [if_neg c24] at H
                          have c24b0 : (t112 == 500) = false := beq_eq_false_iff_ne.mpr c24
                          have c24b1 : (t112 != 500) = true := bne_iff_ne.mpr c24
                          obtain rfl := Option.some.inj H
                          go_enter Try.func15, Try.ntmps15
                          go_wp2_with (first | ((with_reducible refine gate_callee (f := 38) rfl ?_); refine goesL_ (some 1) rfl rfl Try.func38 (by kernel_rfl) rfl #[.int .i64 0] rfl (by (try simp only [List.map_toArray, List.map_cons, List.map_nil]); first | done | rfl | (simp only [List.length_drop, List.length_take]; rfl)) ?_; (with_reducible refine (holtlaw0_Num.calls 0 t101 _ A1.out).mono ?_); rintro e w' ⟨rfl, ⟨nd, rfl⟩⟩; refine ⟨_, rfl, ?_⟩) | (go_at_call 38; (with_reducible refine (holtlaw0_Num.calls 1 t102 _ A3.out).mono ?_); rintro e w' ⟨rfl, ⟨nd, rfl⟩⟩) | (go_at_call 38; (with_reducible refine (holtlaw0_Num.calls 100 t103 _ A5.out).mono ?_); rintro e w' ⟨rfl, ⟨nd, rfl⟩⟩) | (go_at_call 38; (with_reducible refine (holtlaw0_Num.calls 300 t104 _ A7.out).mono ?_); rintro e w' ⟨rfl, ⟨nd, rfl⟩⟩) | (go_at_call 38; (with_reducible refine (holtlaw0_Num.calls 301 t105 _ A9.out).mono ?_); rintro e w' ⟨rfl, ⟨nd, rfl⟩⟩) | (go_at_call 38; (with_reducible refine (holtlaw0_Num.calls 302 t106 _ A11.out).mono ?_); rintro e w' ⟨rfl, ⟨nd, rfl⟩⟩) | (go_at_call 38; (with_reducible refine (holtlaw0_Num.calls 400 t107 _ A13.out).mono ?_); rintro e w' ⟨rfl, ⟨nd, rfl⟩⟩) | (go_at_call 38; (with_reducible refine (holtlaw0_Num.calls 401 t108 _ A15.out).mono ?_); rintro e w' ⟨rfl, ⟨nd, rfl⟩⟩) | (go_at_call 38; (with_reducible refine (holtlaw0_Num.calls 402 t109 _ A17.out).mono ?_); rintro e w' ⟨rfl, ⟨nd, rfl⟩⟩) | (go_at_call 38; (with_reducible refine (holtlaw0_Num.calls 403 t110 _ A19.out).mono ?_); rintro e w' ⟨rfl, ⟨nd, rfl⟩⟩) | (go_at_call 38; (with_reducible refine (holtlaw0_Num.calls 404 t111 _ A21.out).mono ?_); rintro e w' ⟨rfl, ⟨nd, rfl⟩⟩) | (go_at_call 38; (with_reducible refine (holtlaw0_Num.calls 500 t112 _ A23.out).mono ?_); rintro e w' ⟨rfl, ⟨nd, rfl⟩⟩))
                          go_ret
                          exact ⟨by first | rfl | (simp; done) | (simp [*]; done), by repeat (first | exact Drawn0.refl _ | apply Drawn0.step)⟩
                      · rw [if_neg c22] at H
                        have c22b0 : (t111 == 404) = false := beq_eq_false_iff_ne.mpr c22
                        have c22b1 : (t111 != 404) = true := bne_iff_ne.mpr c22
                        obtain rfl := Option.some.inj H
                        go_enter Try.func15, Try.ntmps15
                        go_wp2_with (first | ((with_reducible refine gate_callee (f := 38) rfl ?_); refine goesL_ (some 1) rfl rfl Try.func38 (by kernel_rfl) rfl #[.int .i64 0] rfl (by (try simp only [List.map_toArray, List.map_cons, List.map_nil]); first | done | rfl | (simp only [List.length_drop, List.length_take]; rfl)) ?_; (with_reducible refine (holtlaw0_Num.calls 0 t101 _ A1.out).mono ?_); rintro e w' ⟨rfl, ⟨nd, rfl⟩⟩; refine ⟨_, rfl, ?_⟩) | (go_at_call 38; (with_reducible refine (holtlaw0_Num.calls 1 t102 _ A3.out).mono ?_); rintro e w' ⟨rfl, ⟨nd, rfl⟩⟩) | (go_at_call 38; (with_reducible refine (holtlaw0_Num.calls 100 t103 _ A5.out).mono ?_); rintro e w' ⟨rfl, ⟨nd, rfl⟩⟩) | (go_at_call 38; (with_reducible refine (holtlaw0_Num.calls 300 t104 _ A7.out).mono ?_); rintro e w' ⟨rfl, ⟨nd, rfl⟩⟩) | (go_at_call 38; (with_reducible refine (holtlaw0_Num.calls 301 t105 _ A9.out).mono ?_); rintro e w' ⟨rfl, ⟨nd, rfl⟩⟩) | (go_at_call 38; (with_reducible refine (holtlaw0_Num.calls 302 t106 _ A11.out).mono ?_); rintro e w' ⟨rfl, ⟨nd, rfl⟩⟩) | (go_at_call 38; (with_reducible refine (holtlaw0_Num.calls 400 t107 _ A13.out).mono ?_); rintro e w' ⟨rfl, ⟨nd, rfl⟩⟩) | (go_at_call 38; (with_reducible refine (holtlaw0_Num.calls 401 t108 _ A15.out).mono ?_); rintro e w' ⟨rfl, ⟨nd, rfl⟩⟩) | (go_at_call 38; (with_reducible refine (holtlaw0_Num.calls 402 t109 _ A17.out).mono ?_); rintro e w' ⟨rfl, ⟨nd, rfl⟩⟩) | (go_at_call 38; (with_reducible refine (holtlaw0_Num.calls 403 t110 _ A19.out).mono ?_); rintro e w' ⟨rfl, ⟨nd, rfl⟩⟩) | (go_at_call 38; (with_reducible refine (holtlaw0_Num.calls 404 t111 _ A21.out).mono ?_); rintro e w' ⟨rfl, ⟨nd, rfl⟩⟩))
                        go_ret
                        exact ⟨by first | rfl | (simp; done) | (simp [*]; done), by repeat (first | exact Drawn0.refl _ | apply Drawn0.step)⟩
                    · rw [if_neg c20] at H
                      have c20b0 : (t110 == 403) = false := beq_eq_false_iff_ne.mpr c20
                      have c20b1 : (t110 != 403) = true := bne_iff_ne.mpr c20
                      obtain rfl := Option.some.inj H
                      go_enter Try.func15, Try.ntmps15
                      go_wp2_with (first | ((with_reducible refine gate_callee (f := 38) rfl ?_); refine goesL_ (some 1) rfl rfl Try.func38 (by kernel_rfl) rfl #[.int .i64 0] rfl (by (try simp only [List.map_toArray, List.map_cons, List.map_nil]); first | done | rfl | (simp only [List.length_drop, List.length_take]; rfl)) ?_; (with_reducible refine (holtlaw0_Num.calls 0 t101 _ A1.out).mono ?_); rintro e w' ⟨rfl, ⟨nd, rfl⟩⟩; refine ⟨_, rfl, ?_⟩) | (go_at_call 38; (with_reducible refine (holtlaw0_Num.calls 1 t102 _ A3.out).mono ?_); rintro e w' ⟨rfl, ⟨nd, rfl⟩⟩) | (go_at_call 38; (with_reducible refine (holtlaw0_Num.calls 100 t103 _ A5.out).mono ?_); rintro e w' ⟨rfl, ⟨nd, rfl⟩⟩) | (go_at_call 38; (with_reducible refine (holtlaw0_Num.calls 300 t104 _ A7.out).mono ?_); rintro e w' ⟨rfl, ⟨nd, rfl⟩⟩) | (go_at_call 38; (with_reducible refine (holtlaw0_Num.calls 301 t105 _ A9.out).mono ?_); rintro e w' ⟨rfl, ⟨nd, rfl⟩⟩) | (go_at_call 38; (with_reducible refine (holtlaw0_Num.calls 302 t106 _ A11.out).mono ?_); rintro e w' ⟨rfl, ⟨nd, rfl⟩⟩) | (go_at_call 38; (with_reducible refine (holtlaw0_Num.calls 400 t107 _ A13.out).mono ?_); rintro e w' ⟨rfl, ⟨nd, rfl⟩⟩) | (go_at_call 38; (with_reducible refine (holtlaw0_Num.calls 401 t108 _ A15.out).mono ?_); rintro e w' ⟨rfl, ⟨nd, rfl⟩⟩) | (go_at_call 38; (with_reducible refine (holtlaw0_Num.calls 402 t109 _ A17.out).mono ?_); rintro e w' ⟨rfl, ⟨nd, rfl⟩⟩) | (go_at_call 38; (with_reducible refine (holtlaw0_Num.calls 403 t110 _ A19.out).mono ?_); rintro e w' ⟨rfl, ⟨nd, rfl⟩⟩))
                      go_ret
                      exact ⟨by first | rfl | (simp; done) | (simp [*]; done), by repeat (first | exact Drawn0.refl _ | apply Drawn0.step)⟩
                  · rw [if_neg c18] at H
                    have c18b0 : (t109 == 402) = false := beq_eq_false_iff_ne.mpr c18
                    have c18b1 : (t109 != 402) = true := bne_iff_ne.mpr c18
                    obtain rfl := Option.some.inj H
                    go_enter Try.func15, Try.ntmps15
                    go_wp2_with (first | ((with_reducible refine gate_callee (f := 38) rfl ?_); refine goesL_ (some 1) rfl rfl Try.func38 (by kernel_rfl) rfl #[.int .i64 0] rfl (by (try simp only [List.map_toArray, List.map_cons, List.map_nil]); first | done | rfl | (simp only [List.length_drop, List.length_take]; rfl)) ?_; (with_reducible refine (holtlaw0_Num.calls 0 t101 _ A1.out).mono ?_); rintro e w' ⟨rfl, ⟨nd, rfl⟩⟩; refine ⟨_, rfl, ?_⟩) | (go_at_call 38; (with_reducible refine (holtlaw0_Num.calls 1 t102 _ A3.out).mono ?_); rintro e w' ⟨rfl, ⟨nd, rfl⟩⟩) | (go_at_call 38; (with_reducible refine (holtlaw0_Num.calls 100 t103 _ A5.out).mono ?_); rintro e w' ⟨rfl, ⟨nd, rfl⟩⟩) | (go_at_call 38; (with_reducible refine (holtlaw0_Num.calls 300 t104 _ A7.out).mono ?_); rintro e w' ⟨rfl, ⟨nd, rfl⟩⟩) | (go_at_call 38; (with_reducible refine (holtlaw0_Num.calls 301 t105 _ A9.out).mono ?_); rintro e w' ⟨rfl, ⟨nd, rfl⟩⟩) | (go_at_call 38; (with_reducible refine (holtlaw0_Num.calls 302 t106 _ A11.out).mono ?_); rintro e w' ⟨rfl, ⟨nd, rfl⟩⟩) | (go_at_call 38; (with_reducible refine (holtlaw0_Num.calls 400 t107 _ A13.out).mono ?_); rintro e w' ⟨rfl, ⟨nd, rfl⟩⟩) | (go_at_call 38; (with_reducible refine (holtlaw0_Num.calls 401 t108 _ A15.out).mono ?_); rintro e w' ⟨rfl, ⟨nd, rfl⟩⟩) | (go_at_call 38; (with_reducible refine (holtlaw0_Num.calls 402 t109 _ A17.out).mono ?_); rintro e w' ⟨rfl, ⟨nd, rfl⟩⟩))
                    go_ret
                    exact ⟨by first | rfl | (simp; done) | (simp [*]; done), by repeat (first | exact Drawn0.refl _ | apply Drawn0.step)⟩
                · rw [if_neg c16] at H
                  have c16b0 : (t108 == 401) = false := beq_eq_false_iff_ne.mpr c16
                  have c16b1 : (t108 != 401) = true := bne_iff_ne.mpr c16
                  obtain rfl := Option.some.inj H
                  go_enter Try.func15, Try.ntmps15
                  go_wp2_with (first | ((with_reducible refine gate_callee (f := 38) rfl ?_); refine goesL_ (some 1) rfl rfl Try.func38 (by kernel_rfl) rfl #[.int .i64 0] rfl (by (try simp only [List.map_toArray, List.map_cons, List.map_nil]); first | done | rfl | (simp only [List.length_drop, List.length_take]; rfl)) ?_; (with_reducible refine (holtlaw0_Num.calls 0 t101 _ A1.out).mono ?_); rintro e w' ⟨rfl, ⟨nd, rfl⟩⟩; refine ⟨_, rfl, ?_⟩) | (go_at_call 38; (with_reducible refine (holtlaw0_Num.calls 1 t102 _ A3.out).mono ?_); rintro e w' ⟨rfl, ⟨nd, rfl⟩⟩) | (go_at_call 38; (with_reducible refine (holtlaw0_Num.calls 100 t103 _ A5.out).mono ?_); rintro e w' ⟨rfl, ⟨nd, rfl⟩⟩) | (go_at_call 38; (with_reducible refine (holtlaw0_Num.calls 300 t104 _ A7.out).mono ?_); rintro e w' ⟨rfl, ⟨nd, rfl⟩⟩) | (go_at_call 38; (with_reducible refine (holtlaw0_Num.calls 301 t105 _ A9.out).mono ?_); rintro e w' ⟨rfl, ⟨nd, rfl⟩⟩) | (go_at_call 38; (with_reducible refine (holtlaw0_Num.calls 302 t106 _ A11.out).mono ?_); rintro e w' ⟨rfl, ⟨nd, rfl⟩⟩) | (go_at_call 38; (with_reducible refine (holtlaw0_Num.calls 400 t107 _ A13.out).mono ?_); rintro e w' ⟨rfl, ⟨nd, rfl⟩⟩) | (go_at_call 38; (with_reducible refine (holtlaw0_Num.calls 401 t108 _ A15.out).mono ?_); rintro e w' ⟨rfl, ⟨nd, rfl⟩⟩))
                  go_ret
                  exact ⟨by first | rfl | (simp; done) | (simp [*]; done), by repeat (first | exact Drawn0.refl _ | apply Drawn0.step)⟩
              · rw [if_neg c14] at H
                have c14b0 : (t107 == 400) = false := beq_eq_false_iff_ne.mpr c14
                have c14b1 : (t107 != 400) = true := bne_iff_ne.mpr c14
                obtain rfl := Option.some.inj H
                go_enter Try.func15, Try.ntmps15
                go_wp2_with (first | ((with_reducible refine gate_callee (f := 38) rfl ?_); refine goesL_ (some 1) rfl rfl Try.func38 (by kernel_rfl) rfl #[.int .i64 0] rfl (by (try simp only [List.map_toArray, List.map_cons, List.map_nil]); first | done | rfl | (simp only [List.length_drop, List.length_take]; rfl)) ?_; (with_reducible refine (holtlaw0_Num.calls 0 t101 _ A1.out).mono ?_); rintro e w' ⟨rfl, ⟨nd, rfl⟩⟩; refine ⟨_, rfl, ?_⟩) | (go_at_call 38; (with_reducible refine (holtlaw0_Num.calls 1 t102 _ A3.out).mono ?_); rintro e w' ⟨rfl, ⟨nd, rfl⟩⟩) | (go_at_call 38; (with_reducible refine (holtlaw0_Num.calls 100 t103 _ A5.out).mono ?_); rintro e w' ⟨rfl, ⟨nd, rfl⟩⟩) | (go_at_call 38; (with_reducible refine (holtlaw0_Num.calls 300 t104 _ A7.out).mono ?_); rintro e w' ⟨rfl, ⟨nd, rfl⟩⟩) | (go_at_call 38; (with_reducible refine (holtlaw0_Num.calls 301 t105 _ A9.out).mono ?_); rintro e w' ⟨rfl, ⟨nd, rfl⟩⟩) | (go_at_call 38; (with_reducible refine (holtlaw0_Num.calls 302 t106 _ A11.out).mono ?_); rintro e w' ⟨rfl, ⟨nd, rfl⟩⟩) | (go_at_call 38; (with_reducible refine (holtlaw0_Num.calls 400 t107 _ A13.out).mono ?_); rintro e w' ⟨rfl, ⟨nd, rfl⟩⟩))
                go_ret
                exact ⟨by first | rfl | (simp; done) | (simp [*]; done), by repeat (first | exact Drawn0.refl _ | apply Drawn0.step)⟩
            · rw [if_neg c12] at H
              have c12b0 : (t106 == 302) = false := beq_eq_false_iff_ne.mpr c12
              have c12b1 : (t106 != 302) = true := bne_iff_ne.mpr c12
              obtain rfl := Option.some.inj H
              go_enter Try.func15, Try.ntmps15
              go_wp2_with (first | ((with_reducible refine gate_callee (f := 38) rfl ?_); refine goesL_ (some 1) rfl rfl Try.func38 (by kernel_rfl) rfl #[.int .i64 0] rfl (by (try simp only [List.map_toArray, List.map_cons, List.map_nil]); first | done | rfl | (simp only [List.length_drop, List.length_take]; rfl)) ?_; (with_reducible refine (holtlaw0_Num.calls 0 t101 _ A1.out).mono ?_); rintro e w' ⟨rfl, ⟨nd, rfl⟩⟩; refine ⟨_, rfl, ?_⟩) | (go_at_call 38; (with_reducible refine (holtlaw0_Num.calls 1 t102 _ A3.out).mono ?_); rintro e w' ⟨rfl, ⟨nd, rfl⟩⟩) | (go_at_call 38; (with_reducible refine (holtlaw0_Num.calls 100 t103 _ A5.out).mono ?_); rintro e w' ⟨rfl, ⟨nd, rfl⟩⟩) | (go_at_call 38; (with_reducible refine (holtlaw0_Num.calls 300 t104 _ A7.out).mono ?_); rintro e w' ⟨rfl, ⟨nd, rfl⟩⟩) | (go_at_call 38; (with_reducible refine (holtlaw0_Num.calls 301 t105 _ A9.out).mono ?_); rintro e w' ⟨rfl, ⟨nd, rfl⟩⟩) | (go_at_call 38; (with_reducible refine (holtlaw0_Num.calls 302 t106 _ A11.out).mono ?_); rintro e w' ⟨rfl, ⟨nd, rfl⟩⟩))
              go_ret
              exact ⟨by first | rfl | (simp; done) | (simp [*]; done), by repeat (first | exact Drawn0.refl _ | apply Drawn0.step)⟩
          · rw [if_neg c10] at H
            have c10b0 : (t105 == 301) = false := beq_eq_false_iff_ne.mpr c10
            have c10b1 : (t105 != 301) = true := bne_iff_ne.mpr c10
            obtain rfl := Option.some.inj H
            go_enter Try.func15, Try.ntmps15
            go_wp2_with (first | ((with_reducible refine gate_callee (f := 38) rfl ?_); refine goesL_ (some 1) rfl rfl Try.func38 (by kernel_rfl) rfl #[.int .i64 0] rfl (by (try simp only [List.map_toArray, List.map_cons, List.map_nil]); first | done | rfl | (simp only [List.length_drop, List.length_take]; rfl)) ?_; (with_reducible refine (holtlaw0_Num.calls 0 t101 _ A1.out).mono ?_); rintro e w' ⟨rfl, ⟨nd, rfl⟩⟩; refine ⟨_, rfl, ?_⟩) | (go_at_call 38; (with_reducible refine (holtlaw0_Num.calls 1 t102 _ A3.out).mono ?_); rintro e w' ⟨rfl, ⟨nd, rfl⟩⟩) | (go_at_call 38; (with_reducible refine (holtlaw0_Num.calls 100 t103 _ A5.out).mono ?_); rintro e w' ⟨rfl, ⟨nd, rfl⟩⟩) | (go_at_call 38; (with_reducible refine (holtlaw0_Num.calls 300 t104 _ A7.out).mono ?_); rintro e w' ⟨rfl, ⟨nd, rfl⟩⟩) | (go_at_call 38; (with_reducible refine (holtlaw0_Num.calls 301 t105 _ A9.out).mono ?_); rintro e w' ⟨rfl, ⟨nd, rfl⟩⟩))
            go_ret
            exact ⟨by first | rfl | (simp; done) | (simp [*]; done), by repeat (first | exact Drawn0.refl _ | apply Drawn0.step)⟩
        · rw [if_neg c8] at H
          have c8b0 : (t104 == 300) = false := beq_eq_false_iff_ne.mpr c8
          have c8b1 : (t104 != 300) = true := bne_iff_ne.mpr c8
          obtain rfl := Option.some.inj H
          go_enter Try.func15, Try.ntmps15
          go_wp2_with (first | ((with_reducible refine gate_callee (f := 38) rfl ?_); refine goesL_ (some 1) rfl rfl Try.func38 (by kernel_rfl) rfl #[.int .i64 0] rfl (by (try simp only [List.map_toArray, List.map_cons, List.map_nil]); first | done | rfl | (simp only [List.length_drop, List.length_take]; rfl)) ?_; (with_reducible refine (holtlaw0_Num.calls 0 t101 _ A1.out).mono ?_); rintro e w' ⟨rfl, ⟨nd, rfl⟩⟩; refine ⟨_, rfl, ?_⟩) | (go_at_call 38; (with_reducible refine (holtlaw0_Num.calls 1 t102 _ A3.out).mono ?_); rintro e w' ⟨rfl, ⟨nd, rfl⟩⟩) | (go_at_call 38; (with_reducible refine (holtlaw0_Num.calls 100 t103 _ A5.out).mono ?_); rintro e w' ⟨rfl, ⟨nd, rfl⟩⟩) | (go_at_call 38; (with_reducible refine (holtlaw0_Num.calls 300 t104 _ A7.out).mono ?_); rintro e w' ⟨rfl, ⟨nd, rfl⟩⟩))
          go_ret
          exact ⟨by first | rfl | (simp; done) | (simp [*]; done), by repeat (first | exact Drawn0.refl _ | apply Drawn0.step)⟩
      · rw [if_neg c6] at H
        have c6b0 : (t103 == 100) = false := beq_eq_false_iff_ne.mpr c6
        have c6b1 : (t103 != 100) = true := bne_iff_ne.mpr c6
        obtain rfl := Option.some.inj H
        go_enter Try.func15, Try.ntmps15
        go_wp2_with (first | ((with_reducible refine gate_callee (f := 38) rfl ?_); refine goesL_ (some 1) rfl rfl Try.func38 (by kernel_rfl) rfl #[.int .i64 0] rfl (by (try simp only [List.map_toArray, List.map_cons, List.map_nil]); first | done | rfl | (simp only [List.length_drop, List.length_take]; rfl)) ?_; (with_reducible refine (holtlaw0_Num.calls 0 t101 _ A1.out).mono ?_); rintro e w' ⟨rfl, ⟨nd, rfl⟩⟩; refine ⟨_, rfl, ?_⟩) | (go_at_call 38; (with_reducible refine (holtlaw0_Num.calls 1 t102 _ A3.out).mono ?_); rintro e w' ⟨rfl, ⟨nd, rfl⟩⟩) | (go_at_call 38; (with_reducible refine (holtlaw0_Num.calls 100 t103 _ A5.out).mono ?_); rintro e w' ⟨rfl, ⟨nd, rfl⟩⟩))
        go_ret
        exact ⟨by first | rfl | (simp; done) | (simp [*]; done), by repeat (first | exact Drawn0.refl _ | apply Drawn0.step)⟩
    · rw [if_neg c4] at H
      have c4b0 : (t102 == 1) = false := beq_eq_false_iff_ne.mpr c4
      have c4b1 : (t102 != 1) = true := bne_iff_ne.mpr c4
      obtain rfl := Option.some.inj H
      go_enter Try.func15, Try.ntmps15
      go_wp2_with (first | ((with_reducible refine gate_callee (f := 38) rfl ?_); refine goesL_ (some 1) rfl rfl Try.func38 (by kernel_rfl) rfl #[.int .i64 0] rfl (by (try simp only [List.map_toArray, List.map_cons, List.map_nil]); first | done | rfl | (simp only [List.length_drop, List.length_take]; rfl)) ?_; (with_reducible refine (holtlaw0_Num.calls 0 t101 _ A1.out).mono ?_); rintro e w' ⟨rfl, ⟨nd, rfl⟩⟩; refine ⟨_, rfl, ?_⟩) | (go_at_call 38; (with_reducible refine (holtlaw0_Num.calls 1 t102 _ A3.out).mono ?_); rintro e w' ⟨rfl, ⟨nd, rfl⟩⟩))
      go_ret
      exact ⟨by first | rfl | (simp; done) | (simp [*]; done), by repeat (first | exact Drawn0.refl _ | apply Drawn0.step)⟩
  · rw [if_neg c2] at H
    have c2b0 : (t101 == 0) = false := beq_eq_false_iff_ne.mpr c2
    have c2b1 : (t101 != 0) = true := bne_iff_ne.mpr c2
    obtain rfl := Option.some.inj H
    go_enter Try.func15, Try.ntmps15
    go_wp2_with (first | ((with_reducible refine gate_callee (f := 38) rfl ?_); refine goesL_ (some 1) rfl rfl Try.func38 (by kernel_rfl) rfl #[.int .i64 0] rfl (by (try simp only [List.map_toArray, List.map_cons, List.map_nil]); first | done | rfl | (simp only [List.length_drop, List.length_take]; rfl)) ?_; (with_reducible refine (holtlaw0_Num.calls 0 t101 _ A1.out).mono ?_); rintro e w' ⟨rfl, ⟨nd, rfl⟩⟩; refine ⟨_, rfl, ?_⟩))
    go_ret
    exact ⟨by first | rfl | (simp; done) | (simp [*]; done), by repeat (first | exact Drawn0.refl _ | apply Drawn0.step)⟩

/-! ### holtlaw0_errors2: function 16 -/
def holtlaw0_errors2.f  : Option (Bool) := (holtlaw0_Num.f 601).bind fun t115 => (if t115 = 601 then ((holtlaw0_Num.f 602).bind fun t116 => (if t116 = 602 then ((holtlaw0_Num.f 700).bind fun t117 => (if t117 = 700 then ((holtlaw0_Num.f 701).bind fun t118 => (if t118 = 701 then ((holtlaw0_Num.f 702).bind fun t119 => (if t119 = 702 then ((holtlaw0_Num.f 703).bind fun t120 => (if t120 = 703 then ((holtlaw0_Num.f 704).bind fun t121 => (if t121 = 704 then ((holtlaw0_Num.f 800).bind fun t122 => (if t122 = 800 then ((holtlaw0_Num.f 801).bind fun t123 => (if t123 = 801 then ((holtlaw0_Num.f 802).bind fun t124 => (if t124 = 802 then ((holtlaw0_Num.f 803).bind fun t125 => (if t125 = 803 then ((holtlaw0_Num.f 900).bind fun t126 => (if t126 = 900 then ((holtlaw0_Num.f 901).bind fun t127 => (if t127 = 901 then ((holtlaw0_Num.f 902).bind fun t128 => (some (t128 == 902))) else (some false))) else (some false))) else (some false))) else (some false))) else (some false))) else (some false))) else (some false))) else (some false))) else (some false))) else (some false))) else (some false))) else (some false))) else (some false))
set_option maxHeartbeats 8000000 in
set_option maxRecDepth 100000 in
theorem holtlaw0_errors2.calls  (r : Bool) (w : World) (h : holtlaw0_errors2.f  = some r) :
    Calls Try.prog 16 #[] w fun e w' => e = .returned (.bool r) ∧ Drawn0 w w' := by
  have H : ((holtlaw0_Num.f 601).bind fun t115 => (if t115 = 601 then ((holtlaw0_Num.f 602).bind fun t116 => (if t116 = 602 then ((holtlaw0_Num.f 700).bind fun t117 => (if t117 = 700 then ((holtlaw0_Num.f 701).bind fun t118 => (if t118 = 701 then ((holtlaw0_Num.f 702).bind fun t119 => (if t119 = 702 then ((holtlaw0_Num.f 703).bind fun t120 => (if t120 = 703 then ((holtlaw0_Num.f 704).bind fun t121 => (if t121 = 704 then ((holtlaw0_Num.f 800).bind fun t122 => (if t122 = 800 then ((holtlaw0_Num.f 801).bind fun t123 => (if t123 = 801 then ((holtlaw0_Num.f 802).bind fun t124 => (if t124 = 802 then ((holtlaw0_Num.f 803).bind fun t125 => (if t125 = 803 then ((holtlaw0_Num.f 900).bind fun t126 => (if t126 = 900 then ((holtlaw0_Num.f 901).bind fun t127 => (if t127 = 901 then ((holtlaw0_Num.f 902).bind fun t128 => (some (t128 == 902))) else (some false))) else (some false))) else (some false))) else (some false))) else (some false))) else (some false))) else (some false))) else (some false))) else (some false))) else (some false))) else (some false))) else (some false))) else (some false))) = some r := h
  clear h
  replace H := Option.bind_eq_some_iff.mp H
  obtain ⟨t115, A10, H⟩ := H
  replace H : (if t115 = 601 then ((holtlaw0_Num.f 602).bind fun t116 => (if t116 = 602 then ((holtlaw0_Num.f 700).bind fun t117 => (if t117 = 700 then ((holtlaw0_Num.f 701).bind fun t118 => (if t118 = 701 then ((holtlaw0_Num.f 702).bind fun t119 => (if t119 = 702 then ((holtlaw0_Num.f 703).bind fun t120 => (if t120 = 703 then ((holtlaw0_Num.f 704).bind fun t121 => (if t121 = 704 then ((holtlaw0_Num.f 800).bind fun t122 => (if t122 = 800 then ((holtlaw0_Num.f 801).bind fun t123 => (if t123 = 801 then ((holtlaw0_Num.f 802).bind fun t124 => (if t124 = 802 then ((holtlaw0_Num.f 803).bind fun t125 => (if t125 = 803 then ((holtlaw0_Num.f 900).bind fun t126 => (if t126 = 900 then ((holtlaw0_Num.f 901).bind fun t127 => (if t127 = 901 then ((holtlaw0_Num.f 902).bind fun t128 => (some (t128 == 902))) else (some false))) else (some false))) else (some false))) else (some false))) else (some false))) else (some false))) else (some false))) else (some false))) else (some false))) else (some false))) else (some false))) else (some false))) else (some false)) = some r := H
  have A1 := Aside0.mk A10
  clear A10
  by_cases c2 : t115 = 601
  · rw [if_pos c2] at H
    have c2b0 : (t115 == 601) = true := beq_iff_eq.mpr c2
    have c2b1 : (t115 != 601) = false := bne_eq_false_iff_eq.mpr c2
    clear c2
    replace H := Option.bind_eq_some_iff.mp H
    obtain ⟨t116, A30, H⟩ := H
    replace H : (if t116 = 602 then ((holtlaw0_Num.f 700).bind fun t117 => (if t117 = 700 then ((holtlaw0_Num.f 701).bind fun t118 => (if t118 = 701 then ((holtlaw0_Num.f 702).bind fun t119 => (if t119 = 702 then ((holtlaw0_Num.f 703).bind fun t120 => (if t120 = 703 then ((holtlaw0_Num.f 704).bind fun t121 => (if t121 = 704 then ((holtlaw0_Num.f 800).bind fun t122 => (if t122 = 800 then ((holtlaw0_Num.f 801).bind fun t123 => (if t123 = 801 then ((holtlaw0_Num.f 802).bind fun t124 => (if t124 = 802 then ((holtlaw0_Num.f 803).bind fun t125 => (if t125 = 803 then ((holtlaw0_Num.f 900).bind fun t126 => (if t126 = 900 then ((holtlaw0_Num.f 901).bind fun t127 => (if t127 = 901 then ((holtlaw0_Num.f 902).bind fun t128 => (some (t128 == 902))) else (some false))) else (some false))) else (some false))) else (some false))) else (some false))) else (some false))) else (some false))) else (some false))) else (some false))) else (some false))) else (some false))) else (some false)) = some r := H
    have A3 := Aside0.mk A30
    clear A30
    by_cases c4 : t116 = 602
    · rw [if_pos c4] at H
      have c4b0 : (t116 == 602) = true := beq_iff_eq.mpr c4
      have c4b1 : (t116 != 602) = false := bne_eq_false_iff_eq.mpr c4
      clear c4
      replace H := Option.bind_eq_some_iff.mp H
      obtain ⟨t117, A50, H⟩ := H
      replace H : (if t117 = 700 then ((holtlaw0_Num.f 701).bind fun t118 => (if t118 = 701 then ((holtlaw0_Num.f 702).bind fun t119 => (if t119 = 702 then ((holtlaw0_Num.f 703).bind fun t120 => (if t120 = 703 then ((holtlaw0_Num.f 704).bind fun t121 => (if t121 = 704 then ((holtlaw0_Num.f 800).bind fun t122 => (if t122 = 800 then ((holtlaw0_Num.f 801).bind fun t123 => (if t123 = 801 then ((holtlaw0_Num.f 802).bind fun t124 => (if t124 = 802 then ((holtlaw0_Num.f 803).bind fun t125 => (if t125 = 803 then ((holtlaw0_Num.f 900).bind fun t126 => (if t126 = 900 then ((holtlaw0_Num.f 901).bind fun t127 => (if t127 = 901 then ((holtlaw0_Num.f 902).bind fun t128 => (some (t128 == 902))) else (some false))) else (some false))) else (some false))) else (some false))) else (some false))) else (some false))) else (some false))) else (some false))) else (some false))) else (some false))) else (some false)) = some r := H
      have A5 := Aside0.mk A50
      clear A50
      by_cases c6 : t117 = 700
      · rw [if_pos c6] at H
        have c6b0 : (t117 == 700) = true := beq_iff_eq.mpr c6
        have c6b1 : (t117 != 700) = false := bne_eq_false_iff_eq.mpr c6
        clear c6
        replace H := Option.bind_eq_some_iff.mp H
        obtain ⟨t118, A70, H⟩ := H
        replace H : (if t118 = 701 then ((holtlaw0_Num.f 702).bind fun t119 => (if t119 = 702 then ((holtlaw0_Num.f 703).bind fun t120 => (if t120 = 703 then ((holtlaw0_Num.f 704).bind fun t121 => (if t121 = 704 then ((holtlaw0_Num.f 800).bind fun t122 => (if t122 = 800 then ((holtlaw0_Num.f 801).bind fun t123 => (if t123 = 801 then ((holtlaw0_Num.f 802).bind fun t124 => (if t124 = 802 then ((holtlaw0_Num.f 803).bind fun t125 => (if t125 = 803 then ((holtlaw0_Num.f 900).bind fun t126 => (if t126 = 900 then ((holtlaw0_Num.f 901).bind fun t127 => (if t127 = 901 then ((holtlaw0_Num.f 902).bind fun t128 => (some (t128 == 902))) else (some false))) else (some false))) else (some false))) else (some false))) else (some false))) else (some false))) else (some false))) else (some false))) else (some false))) else (some false)) = some r := H
        have A7 := Aside0.mk A70
        clear A70
        by_cases c8 : t118 = 701
        · rw [if_pos c8] at H
          have c8b0 : (t118 == 701) = true := beq_iff_eq.mpr c8
          have c8b1 : (t118 != 701) = false := bne_eq_false_iff_eq.mpr c8
          clear c8
          replace H := Option.bind_eq_some_iff.mp H
          obtain ⟨t119, A90, H⟩ := H
          replace H : (if t119 = 702 then ((holtlaw0_Num.f 703).bind fun t120 => (if t120 = 703 then ((holtlaw0_Num.f 704).bind fun t121 => (if t121 = 704 then ((holtlaw0_Num.f 800).bind fun t122 => (if t122 = 800 then ((holtlaw0_Num.f 801).bind fun t123 => (if t123 = 801 then ((holtlaw0_Num.f 802).bind fun t124 => (if t124 = 802 then ((holtlaw0_Num.f 803).bind fun t125 => (if t125 = 803 then ((holtlaw0_Num.f 900).bind fun t126 => (if t126 = 900 then ((holtlaw0_Num.f 901).bind fun t127 => (if t127 = 901 then ((holtlaw0_Num.f 902).bind fun t128 => (some (t128 == 902))) else (some false))) else (some false))) else (some false))) else (some false))) else (some false))) else (some false))) else (some false))) else (some false))) else (some false)) = some r := H
          have A9 := Aside0.mk A90
          clear A90
          by_cases c10 : t119 = 702
          · rw [if_pos c10] at H
            have c10b0 : (t119 == 702) = true := beq_iff_eq.mpr c10
            have c10b1 : (t119 != 702) = false := bne_eq_false_iff_eq.mpr c10
            clear c10
            replace H := Option.bind_eq_some_iff.mp H
            obtain ⟨t120, A110, H⟩ := H
            replace H : (if t120 = 703 then ((holtlaw0_Num.f 704).bind fun t121 => (if t121 = 704 then ((holtlaw0_Num.f 800).bind fun t122 => (if t122 = 800 then ((holtlaw0_Num.f 801).bind fun t123 => (if t123 = 801 then ((holtlaw0_Num.f 802).bind fun t124 => (if t124 = 802 then ((holtlaw0_Num.f 803).bind fun t125 => (if t125 = 803 then ((holtlaw0_Num.f 900).bind fun t126 => (if t126 = 900 then ((holtlaw0_Num.f 901).bind fun t127 => (if t127 = 901 then ((holtlaw0_Num.f 902).bind fun t128 => (some (t128 == 902))) else (some false))) else (some false))) else (some false))) else (some false))) else (some false))) else (some false))) else (some false))) else (some false)) = some r := H
            have A11 := Aside0.mk A110
            clear A110
            by_cases c12 : t120 = 703
            · rw [if_pos c12] at H
              have c12b0 : (t120 == 703) = true := beq_iff_eq.mpr c12
              have c12b1 : (t120 != 703) = false := bne_eq_false_iff_eq.mpr c12
              clear c12
              replace H := Option.bind_eq_some_iff.mp H
              obtain ⟨t121, A130, H⟩ := H
              replace H : (if t121 = 704 then ((holtlaw0_Num.f 800).bind fun t122 => (if t122 = 800 then ((holtlaw0_Num.f 801).bind fun t123 => (if t123 = 801 then ((holtlaw0_Num.f 802).bind fun t124 => (if t124 = 802 then ((holtlaw0_Num.f 803).bind fun t125 => (if t125 = 803 then ((holtlaw0_Num.f 900).bind fun t126 => (if t126 = 900 then ((holtlaw0_Num.f 901).bind fun t127 => (if t127 = 901 then ((holtlaw0_Num.f 902).bind fun t128 => (some (t128 == 902))) else (some false))) else (some false))) else (some false))) else (some false))) else (some false))) else (some false))) else (some false)) = some r := H
              have A13 := Aside0.mk A130
              clear A130
              by_cases c14 : t121 = 704
              · rw [if_pos c14] at H
                have c14b0 : (t121 == 704) = true := beq_iff_eq.mpr c14
                have c14b1 : (t121 != 704) = false := bne_eq_false_iff_eq.mpr c14
                clear c14
                replace H := Option.bind_eq_some_iff.mp H
                obtain ⟨t122, A150, H⟩ := H
                replace H : (if t122 = 800 then ((holtlaw0_Num.f 801).bind fun t123 => (if t123 = 801 then ((holtlaw0_Num.f 802).bind fun t124 => (if t124 = 802 then ((holtlaw0_Num.f 803).bind fun t125 => (if t125 = 803 then ((holtlaw0_Num.f 900).bind fun t126 => (if t126 = 900 then ((holtlaw0_Num.f 901).bind fun t127 => (if t127 = 901 then ((holtlaw0_Num.f 902).bind fun t128 => (some (t128 == 902))) else (some false))) else (some false))) else (some false))) else (some false))) else (some false))) else (some false)) = some r := H
                have A15 := Aside0.mk A150
                clear A150
                by_cases c16 : t122 = 800
                · rw [if_pos c16] at H
                  have c16b0 : (t122 == 800) = true := beq_iff_eq.mpr c16
                  have c16b1 : (t122 != 800) = false := bne_eq_false_iff_eq.mpr c16
                  clear c16
                  replace H := Option.bind_eq_some_iff.mp H
                  obtain ⟨t123, A170, H⟩ := H
                  replace H : (if t123 = 801 then ((holtlaw0_Num.f 802).bind fun t124 => (if t124 = 802 then ((holtlaw0_Num.f 803).bind fun t125 => (if t125 = 803 then ((holtlaw0_Num.f 900).bind fun t126 => (if t126 = 900 then ((holtlaw0_Num.f 901).bind fun t127 => (if t127 = 901 then ((holtlaw0_Num.f 902).bind fun t128 => (some (t128 == 902))) else (some false))) else (some false))) else (some false))) else (some false))) else (some false)) = some r := H
                  have A17 := Aside0.mk A170
                  clear A170
                  by_cases c18 : t123 = 801
                  · rw [if_pos c18] at H
                    have c18b0 : (t123 == 801) = true := beq_iff_eq.mpr c18
                    have c18b1 : (t123 != 801) = false := bne_eq_false_iff_eq.mpr c18
                    clear c18
                    replace H := Option.bind_eq_some_iff.mp H
                    obtain ⟨t124, A190, H⟩ := H
                    replace H : (if t124 = 802 then ((holtlaw0_Num.f 803).bind fun t125 => (if t125 = 803 then ((holtlaw0_Num.f 900).bind fun t126 => (if t126 = 900 then ((holtlaw0_Num.f 901).bind fun t127 => (if t127 = 901 then ((holtlaw0_Num.f 902).bind fun t128 => (some (t128 == 902))) else (some false))) else (some false))) else (some false))) else (some false)) = some r := H
                    have A19 := Aside0.mk A190
                    clear A190
                    by_cases c20 : t124 = 802
                    · rw [if_pos c20] at H
                      have c20b0 : (t124 == 802) = true := beq_iff_eq.mpr c20
                      have c20b1 : (t124 != 802) = false := bne_eq_false_iff_eq.mpr c20
                      clear c20
                      replace H := Option.bind_eq_some_iff.mp H
                      obtain ⟨t125, A210, H⟩ := H
                      replace H : (if t125 = 803 then ((holtlaw0_Num.f 900).bind fun t126 => (if t126 = 900 then ((holtlaw0_Num.f 901).bind fun t127 => (if t127 = 901 then ((holtlaw0_Num.f 902).bind fun t128 => (some (t128 == 902))) else (some false))) else (some false))) else (some false)) = some r := H
                      have A21 := Aside0.mk A210
                      clear A210
                      by_cases c22 : t125 = 803
                      · rw [if_pos c22] at H
                        have c22b0 : (t125 == 803) = true := beq_iff_eq.mpr c22
                        have c22b1 : (t125 != 803) = false := bne_eq_false_iff_eq.mpr c22
                        clear c22
                        replace H := Option.bind_eq_some_iff.mp H
                        obtain ⟨t126, A230, H⟩ := H
                        replace H : (if t126 = 900 then ((holtlaw0_Num.f 901).bind fun t127 => (if t127 = 901 then ((holtlaw0_Num.f 902).bind fun t128 => (some (t128 == 902))) else (some false))) else (some false)) = some r := H
                        have A23 := Aside0.mk A230
                        clear A230
                        by_cases c24 : t126 = 900
                        · rw [if_pos c24] at H
                          have c24b0 : (t126 == 900) = true := beq_iff_eq.mpr c24
                          have c24b1 : (t126 != 900) = false := bne_eq_false_iff_eq.mpr c24
                          clear c24
                          replace H := Option.bind_eq_some_iff.mp H
                          obtain ⟨t127, A250, H⟩ := H
                          replace H : (if t127 = 901 then ((holtlaw0_Num.f 902).bind fun t128 => (some (t128 == 902))) else (some false)) = some r := H
                          have A25 := Aside0.mk A250
                          clear A250
                          by_cases c26 : t127 = 901
                          · rw [if_pos c26] at H
                            have c26b0 : (t127 == 901) = true := beq_iff_eq.mpr c26
                            have c26b1 : (t127 != 901) = false := bne_eq_false_iff_eq.mpr c26
                            clear c26
                            replace H := Option.bind_eq_some_iff.mp H
                            obtain ⟨t128, A270, H⟩ := H
                            replace H : (some (t128 == 902)) = some r := H
                            have A27 := Aside0.mk A270
                            clear A270
                            obtain rfl := Option.some.inj H
                            go_enter Try.func16, Try.ntmps16
                            go_wp2_with (first | ((with_reducible refine gate_callee (f := 38) rfl ?_); refine goesL_ (some 1) rfl rfl Try.func38 (by kernel_rfl) rfl #[.int .i64 601] rfl (by (try simp only [List.map_toArray, List.map_cons, List.map_nil]); first | done | rfl | (simp only [List.length_drop, List.length_take]; rfl)) ?_; (with_reducible refine (holtlaw0_Num.calls 601 t115 _ A1.out).mono ?_); rintro e w' ⟨rfl, ⟨nd, rfl⟩⟩; refine ⟨_, rfl, ?_⟩) | (go_at_call 38; (with_reducible refine (holtlaw0_Num.calls 602 t116 _ A3.out).mono ?_); rintro e w' ⟨rfl, ⟨nd, rfl⟩⟩) | (go_at_call 38; (with_reducible refine (holtlaw0_Num.calls 700 t117 _ A5.out).mono ?_); rintro e w' ⟨rfl, ⟨nd, rfl⟩⟩) | (go_at_call 38; (with_reducible refine (holtlaw0_Num.calls 701 t118 _ A7.out).mono ?_); rintro e w' ⟨rfl, ⟨nd, rfl⟩⟩) | (go_at_call 38; (with_reducible refine (holtlaw0_Num.calls 702 t119 _ A9.out).mono ?_); rintro e w' ⟨rfl, ⟨nd, rfl⟩⟩) | (go_at_call 38; (with_reducible refine (holtlaw0_Num.calls 703 t120 _ A11.out).mono ?_); rintro e w' ⟨rfl, ⟨nd, rfl⟩⟩) | (go_at_call 38; (with_reducible refine (holtlaw0_Num.calls 704 t121 _ A13.out).mono ?_); rintro e w' ⟨rfl, ⟨nd, rfl⟩⟩) | (go_at_call 38; (with_reducible refine (holtlaw0_Num.calls 800 t122 _ A15.out).mono ?_); rintro e w' ⟨rfl, ⟨nd, rfl⟩⟩) | (go_at_call 38; (with_reducible refine (holtlaw0_Num.calls 801 t123 _ A17.out).mono ?_); rintro e w' ⟨rfl, ⟨nd, rfl⟩⟩) | (go_at_call 38; (with_reducible refine (holtlaw0_Num.calls 802 t124 _ A19.out).mono ?_); rintro e w' ⟨rfl, ⟨nd, rfl⟩⟩) | (go_at_call 38; (with_reducible refine (holtlaw0_Num.calls 803 t125 _ A21.out).mono ?_); rintro e w' ⟨rfl, ⟨nd, rfl⟩⟩) | (go_at_call 38; (with_reducible refine (holtlaw0_Num.calls 900 t126 _ A23.out).mono ?_); rintro e w' ⟨rfl, ⟨nd, rfl⟩⟩) | (go_at_call 38; (with_reducible refine (holtlaw0_Num.calls 901 t127 _ A25.out).mono ?_); rintro e w' ⟨rfl, ⟨nd, rfl⟩⟩) | (go_at_call 38; (with_reducible refine (holtlaw0_Num.calls 902 t128 _ A27.out).mono ?_); rintro e w' ⟨rfl, ⟨nd, rfl⟩⟩))
                            go_ret
                            exact ⟨by first | rfl | (simp; done) | (simp [*]; done), by repeat (first | exact Drawn0.refl _ | apply Drawn0.step)⟩
                          · rw [if_neg c26] at H
                            have c26b0 : (t127 == 901) = false := beq_eq_false_iff_ne.mpr c26
                            have c26b1 : (t127 != 901) = true := bne_iff_ne.mpr c26
                            obtain rfl := Option.some.inj H
                            go_enter Try.func16, Try.ntmps16
                            go_wp2_with (first | ((with_reducible refine gate_callee (f := 38) rfl ?_); refine goesL_ (some 1) rfl rfl Try.func38 (by kernel_rfl) rfl #[.int .i64 601] rfl (by (try simp only [List.map_toArray, List.map_cons, List.map_nil]); first | done | rfl | (simp only [List.length_drop, List.length_take]; rfl)) ?_; (with_reducible refine (holtlaw0_Num.calls 601 t115 _ A1.out).mono ?_); rintro e w' ⟨rfl, ⟨nd, rfl⟩⟩; refine ⟨_, rfl, ?_⟩) | (go_at_call 38; (with_reducible refine (holtlaw0_Num.calls 602 t116 _ A3.out).mono ?_); rintro e w' ⟨rfl, ⟨nd, rfl⟩⟩) | (go_at_call 38; (with_reducible refine (holtlaw0_Num.calls 700 t117 _ A5.out).mono ?_); rintro e w' ⟨rfl, ⟨nd, rfl⟩⟩) | (go_at_call 38; (with_reducible refine (holtlaw0_Num.calls 701 t118 _ A7.out).mono ?_); rintro e w' ⟨rfl, ⟨nd, rfl⟩⟩) | (go_at_call 38; (with_reducible refine (holtlaw0_Num.calls 702 t119 _ A9.out).mono ?_); rintro e w' ⟨rfl, ⟨nd, rfl⟩⟩) | (go_at_call 38; (with_reducible refine (holtlaw0_Num.calls 703 t120 _ A11.out).mono ?_); rintro e w' ⟨rfl, ⟨nd, rfl⟩⟩) | (go_at_call 38; (with_reducible refine (holtlaw0_Num.calls 704 t121 _ A13.out).mono ?_); rintro e w' ⟨rfl, ⟨nd, rfl⟩⟩) | (go_at_call 38; (with_reducible refine (holtlaw0_Num.calls 800 t122 _ A15.out).mono ?_); rintro e w' ⟨rfl, ⟨nd, rfl⟩⟩) | (go_at_call 38; (with_reducible refine (holtlaw0_Num.calls 801 t123 _ A17.out).mono ?_); rintro e w' ⟨rfl, ⟨nd, rfl⟩⟩) | (go_at_call 38; (with_reducible refine (holtlaw0_Num.calls 802 t124 _ A19.out).mono ?_); rintro e w' ⟨rfl, ⟨nd, rfl⟩⟩) | (go_at_call 38; (with_reducible refine (holtlaw0_Num.calls 803 t125 _ A21.out).mono ?_); rintro e w' ⟨rfl, ⟨nd, rfl⟩⟩) | (go_at_call 38; (with_reducible refine (holtlaw0_Num.calls 900 t126 _ A23.out).mono ?_); rintro e w' ⟨rfl, ⟨nd, rfl⟩⟩) | (go_at_call 38; (with_reducible refine (holtlaw0_Num.calls 901 t127 _ A25.out).mono ?_); rintro e w' ⟨rfl, ⟨nd, rfl⟩⟩))
                            go_ret
                            exact ⟨by first | rfl | (simp; done) | (simp [*]; done), by repeat (first | exact Drawn0.refl _ | apply Drawn0.step)⟩
                        · rw [if_neg c24] at H
                          have c24b0 : (t126 == 900) = false := beq_eq_false_iff_ne.mpr c24
                          have c24b1 : (t126 != 900) = true := bne_iff_ne.mpr c24
                          obtain rfl := Option.some.inj H
                          go_enter Try.func16, Try.ntmps16
                          go_wp2_with (first | ((with_reducible refine gate_callee (f := 38) rfl ?_); refine goesL_ (some 1) rfl rfl Try.func38 (by kernel_rfl) rfl #[.int .i64 601] rfl (by (try simp only [List.map_toArray, List.map_cons, List.map_nil]); first | done | rfl | (simp only [List.length_drop, List.length_take]; rfl)) ?_; (with_reducible refine (holtlaw0_Num.calls 601 t115 _ A1.out).mono ?_); rintro e w' ⟨rfl, ⟨nd, rfl⟩⟩; refine ⟨_, rfl, ?_⟩) | (go_at_call 38; (with_reducible refine (holtlaw0_Num.calls 602 t116 _ A3.out).mono ?_); rintro e w' ⟨rfl, ⟨nd, rfl⟩⟩) | (go_at_call 38; (with_reducible refine (holtlaw0_Num.calls 700 t117 _ A5.out).mono ?_); rintro e w' ⟨rfl, ⟨nd, rfl⟩⟩) | (go_at_call 38; (with_reducible refine (holtlaw0_Num.calls 701 t118 _ A7.out).mono ?_); rintro e w' ⟨rfl, ⟨nd, rfl⟩⟩) | (go_at_call 38; (with_reducible refine (holtlaw0_Num.calls 702 t119 _ A9.out).mono ?_); rintro e w' ⟨rfl, ⟨nd, rfl⟩⟩) | (go_at_call 38; (with_reducible refine (holtlaw0_Num.calls 703 t120 _ A11.out).mono ?_); rintro e w' ⟨rfl, ⟨nd, rfl⟩⟩) | (go_at_call 38; (with_reducible refine (holtlaw0_Num.calls 704 t121 _ A13.out).mono ?_); rintro e w' ⟨rfl, ⟨nd, rfl⟩⟩) | (go_at_call 38; (with_reducible refine (holtlaw0_Num.calls 800 t122 _ A15.out).mono ?_); rintro e w' ⟨rfl, ⟨nd, rfl⟩⟩) | (go_at_call 38; (with_reducible refine (holtlaw0_Num.calls 801 t123 _ A17.out).mono ?_); rintro e w' ⟨rfl, ⟨nd, rfl⟩⟩) | (go_at_call 38; (with_reducible refine (holtlaw0_Num.calls 802 t124 _ A19.out).mono ?_); rintro e w' ⟨rfl, ⟨nd, rfl⟩⟩) | (go_at_call 38; (with_reducible refine (holtlaw0_Num.calls 803 t125 _ A21.out).mono ?_); rintro e w' ⟨rfl, ⟨nd, rfl⟩⟩) | (go_at_call 38; (with_reducible refine (holtlaw0_Num.calls 900 t126 _ A23.out).mono ?_); rintro e w' ⟨rfl, ⟨nd, rfl⟩⟩))
                          go_ret
                          exact ⟨by first | rfl | (simp; done) | (simp [*]; done), by repeat (first | exact Drawn0.refl _ | apply Drawn0.step)⟩
                      · rw [if_neg c22] at H
                        have c22b0 : (t125 == 803) = false := beq_eq_false_iff_ne.mpr c22
                        have c22b1 : (t125 != 803) = true := bne_iff_ne.mpr c22
                        obtain rfl := Option.some.inj H
                        go_enter Try.func16, Try.ntmps16
                        go_wp2_with (first | ((with_reducible refine gate_callee (f := 38) rfl ?_); refine goesL_ (some 1) rfl rfl Try.func38 (by kernel_rfl) rfl #[.int .i64 601] rfl (by (try simp only [List.map_toArray, List.map_cons, List.map_nil]); first | done | rfl | (simp only [List.length_drop, List.length_take]; rfl)) ?_; (with_reducible refine (holtlaw0_Num.calls 601 t115 _ A1.out).mono ?_); rintro e w' ⟨rfl, ⟨nd, rfl⟩⟩; refine ⟨_, rfl, ?_⟩) | (go_at_call 38; (with_reducible refine (holtlaw0_Num.calls 602 t116 _ A3.out).mono ?_); rintro e w' ⟨rfl, ⟨nd, rfl⟩⟩) | (go_at_call 38; (with_reducible refine (holtlaw0_Num.calls 700 t117 _ A5.out).mono ?_); rintro e w' ⟨rfl, ⟨nd, rfl⟩⟩) | (go_at_call 38; (with_reducible refine (holtlaw0_Num.calls 701 t118 _ A7.out).mono ?_); rintro e w' ⟨rfl, ⟨nd, rfl⟩⟩) | (go_at_call 38; (with_reducible refine (holtlaw0_Num.calls 702 t119 _ A9.out).mono ?_); rintro e w' ⟨rfl, ⟨nd, rfl⟩⟩) | (go_at_call 38; (with_reducible refine (holtlaw0_Num.calls 703 t120 _ A11.out).mono ?_); rintro e w' ⟨rfl, ⟨nd, rfl⟩⟩) | (go_at_call 38; (with_reducible refine (holtlaw0_Num.calls 704 t121 _ A13.out).mono ?_); rintro e w' ⟨rfl, ⟨nd, rfl⟩⟩) | (go_at_call 38; (with_reducible refine (holtlaw0_Num.calls 800 t122 _ A15.out).mono ?_); rintro e w' ⟨rfl, ⟨nd, rfl⟩⟩) | (go_at_call 38; (with_reducible refine (holtlaw0_Num.calls 801 t123 _ A17.out).mono ?_); rintro e w' ⟨rfl, ⟨nd, rfl⟩⟩) | (go_at_call 38; (with_reducible refine (holtlaw0_Num.calls 802 t124 _ A19.out).mono ?_); rintro e w' ⟨rfl, ⟨nd, rfl⟩⟩) | (go_at_call 38; (with_reducible refine (holtlaw0_Num.calls 803 t125 _ A21.out).mono ?_); rintro e w' ⟨rfl, ⟨nd, rfl⟩⟩))
                        go_ret
                        exact ⟨by first | rfl | (simp; done) | (simp [*]; done), by repeat (first | exact Drawn0.refl _ | apply Drawn0.step)⟩
                    · rw [if_neg c20] at H
                      have c20b0 : (t124 == 802) = false := beq_eq_false_iff_ne.mpr c20
                      have c20b1 : (t124 != 802) = true := bne_iff_ne.mpr c20
                      obtain rfl := Option.some.inj H
                      go_enter Try.func16, Try.ntmps16
                      go_wp2_with (first | ((with_reducible refine gate_callee (f := 38) rfl ?_); refine goesL_ (some 1) rfl rfl Try.func38 (by kernel_rfl) rfl #[.int .i64 601] rfl (by (try simp only [List.map_toArray, List.map_cons, List.map_nil]); first | done | rfl | (simp only [List.length_drop, List.length_take]; rfl)) ?_; (with_reducible refine (holtlaw0_Num.calls 601 t115 _ A1.out).mono ?_); rintro e w' ⟨rfl, ⟨nd, rfl⟩⟩; refine ⟨_, rfl, ?_⟩) | (go_at_call 38; (with_reducible refine (holtlaw0_Num.calls 602 t116 _ A3.out).mono ?_); rintro e w' ⟨rfl, ⟨nd, rfl⟩⟩) | (go_at_call 38; (with_reducible refine (holtlaw0_Num.calls 700 t117 _ A5.out).mono ?_); rintro e w' ⟨rfl, ⟨nd, rfl⟩⟩) | (go_at_call 38; (with_reducible refine (holtlaw0_Num.calls 701 t118 _ A7.out).mono ?_); rintro e w' ⟨rfl, ⟨nd, rfl⟩⟩) | (go_at_call 38; (with_reducible refine (holtlaw0_Num.calls 702 t119 _ A9.out).mono ?_); rintro e w' ⟨rfl, ⟨nd, rfl⟩⟩) | (go_at_call 38; (with_reducible refine (holtlaw0_Num.calls 703 t120 _ A11.out).mono ?_); rintro e w' ⟨rfl, ⟨nd, rfl⟩⟩) | (go_at_call 38; (with_reducible refine (holtlaw0_Num.calls 704 t121 _ A13.out).mono ?_); rintro e w' ⟨rfl, ⟨nd, rfl⟩⟩) | (go_at_call 38; (with_reducible refine (holtlaw0_Num.calls 800 t122 _ A15.out).mono ?_); rintro e w' ⟨rfl, ⟨nd, rfl⟩⟩) | (go_at_call 38; (with_reducible refine (holtlaw0_Num.calls 801 t123 _ A17.out).mono ?_); rintro e w' ⟨rfl, ⟨nd, rfl⟩⟩) | (go_at_call 38; (with_reducible refine (holtlaw0_Num.calls 802 t124 _ A19.out).mono ?_); rintro e w' ⟨rfl, ⟨nd, rfl⟩⟩))
                      go_ret
                      exact ⟨by first | rfl | (simp; done) | (simp [*]; done), by repeat (first | exact Drawn0.refl _ | apply Drawn0.step)⟩
                  · rw [if_neg c18] at H
                    have c18b0 : (t123 == 801) = false := beq_eq_false_iff_ne.mpr c18
                    have c18b1 : (t123 != 801) = true := bne_iff_ne.mpr c18
                    obtain rfl := Option.some.inj H
                    go_enter Try.func16, Try.ntmps16
                    go_wp2_with (first | ((with_reducible refine gate_callee (f := 38) rfl ?_); refine goesL_ (some 1) rfl rfl Try.func38 (by kernel_rfl) rfl #[.int .i64 601] rfl (by (try simp only [List.map_toArray, List.map_cons, List.map_nil]); first | done | rfl | (simp only [List.length_drop, List.length_take]; rfl)) ?_; (with_reducible refine (holtlaw0_Num.calls 601 t115 _ A1.out).mono ?_); rintro e w' ⟨rfl, ⟨nd, rfl⟩⟩; refine ⟨_, rfl, ?_⟩) | (go_at_call 38; (with_reducible refine (holtlaw0_Num.calls 602 t116 _ A3.out).mono ?_); rintro e w' ⟨rfl, ⟨nd, rfl⟩⟩) | (go_at_call 38; (with_reducible refine (holtlaw0_Num.calls 700 t117 _ A5.out).mono ?_); rintro e w' ⟨rfl, ⟨nd, rfl⟩⟩) | (go_at_call 38; (with_reducible refine (holtlaw0_Num.calls 701 t118 _ A7.out).mono ?_); rintro e w' ⟨rfl, ⟨nd, rfl⟩⟩) | (go_at_call 38; (with_reducible refine (holtlaw0_Num.calls 702 t119 _ A9.out).mono ?_); rintro e w' ⟨rfl, ⟨nd, rfl⟩⟩) | (go_at_call 38; (with_reducible refine (holtlaw0_Num.calls 703 t120 _ A11.out).mono ?_); rintro e w' ⟨rfl, ⟨nd, rfl⟩⟩) | (go_at_call 38; (with_reducible refine (holtlaw0_Num.calls 704 t121 _ A13.out).mono ?_); rintro e w' ⟨rfl, ⟨nd, rfl⟩⟩) | (go_at_call 38; (with_reducible refine (holtlaw0_Num.calls 800 t122 _ A15.out).mono ?_); rintro e w' ⟨rfl, ⟨nd, rfl⟩⟩) | (go_at_call 38; (with_reducible refine (holtlaw0_Num.calls 801 t123 _ A17.out).mono ?_); rintro e w' ⟨rfl, ⟨nd, rfl⟩⟩))
                    go_ret
                    exact ⟨by first | rfl | (simp; done) | (simp [*]; done), by repeat (first | exact Drawn0.refl _ | apply Drawn0.step)⟩
                · rw [if_neg c16] at H
                  have c16b0 : (t122 == 800) = false := beq_eq_false_iff_ne.mpr c16
                  have c16b1 : (t122 != 800) = true := bne_iff_ne.mpr c16
                  obtain rfl := Option.some.inj H
                  go_enter Try.func16, Try.ntmps16
                  go_wp2_with (first | ((with_reducible refine gate_callee (f := 38) rfl ?_); refine goesL_ (some 1) rfl rfl Try.func38 (by kernel_rfl) rfl #[.int .i64 601] rfl (by (try simp only [List.map_toArray, List.map_cons, List.map_nil]); first | done | rfl | (simp only [List.length_drop, List.length_take]; rfl)) ?_; (with_reducible refine (holtlaw0_Num.calls 601 t115 _ A1.out).mono ?_); rintro e w' ⟨rfl, ⟨nd, rfl⟩⟩; refine ⟨_, rfl, ?_⟩) | (go_at_call 38; (with_reducible refine (holtlaw0_Num.calls 602 t116 _ A3.out).mono ?_); rintro e w' ⟨rfl, ⟨nd, rfl⟩⟩) | (go_at_call 38; (with_reducible refine (holtlaw0_Num.calls 700 t117 _ A5.out).mono ?_); rintro e w' ⟨rfl, ⟨nd, rfl⟩⟩) | (go_at_call 38; (with_reducible refine (holtlaw0_Num.calls 701 t118 _ A7.out).mono ?_); rintro e w' ⟨rfl, ⟨nd, rfl⟩⟩) | (go_at_call 38; (with_reducible refine (holtlaw0_Num.calls 702 t119 _ A9.out).mono ?_); rintro e w' ⟨rfl, ⟨nd, rfl⟩⟩) | (go_at_call 38; (with_reducible refine (holtlaw0_Num.calls 703 t120 _ A11.out).mono ?_); rintro e w' ⟨rfl, ⟨nd, rfl⟩⟩) | (go_at_call 38; (with_reducible refine (holtlaw0_Num.calls 704 t121 _ A13.out).mono ?_); rintro e w' ⟨rfl, ⟨nd, rfl⟩⟩) | (go_at_call 38; (with_reducible refine (holtlaw0_Num.calls 800 t122 _ A15.out).mono ?_); rintro e w' ⟨rfl, ⟨nd, rfl⟩⟩))
                  go_ret
                  exact ⟨by first | rfl | (simp; done) | (simp [*]; done), by repeat (first | exact Drawn0.refl _ | apply Drawn0.step)⟩
              · rw [if_neg c14] at H
                have c14b0 : (t121 == 704) = false := beq_eq_false_iff_ne.mpr c14
                have c14b1 : (t121 != 704) = true := bne_iff_ne.mpr c14
                obtain rfl := Option.some.inj H
                go_enter Try.func16, Try.ntmps16
                go_wp2_with (first | ((with_reducible refine gate_callee (f := 38) rfl ?_); refine goesL_ (some 1) rfl rfl Try.func38 (by kernel_rfl) rfl #[.int .i64 601] rfl (by (try simp only [List.map_toArray, List.map_cons, List.map_nil]); first | done | rfl | (simp only [List.length_drop, List.length_take]; rfl)) ?_; (with_reducible refine (holtlaw0_Num.calls 601 t115 _ A1.out).mono ?_); rintro e w' ⟨rfl, ⟨nd, rfl⟩⟩; refine ⟨_, rfl, ?_⟩) | (go_at_call 38; (with_reducible refine (holtlaw0_Num.calls 602 t116 _ A3.out).mono ?_); rintro e w' ⟨rfl, ⟨nd, rfl⟩⟩) | (go_at_call 38; (with_reducible refine (holtlaw0_Num.calls 700 t117 _ A5.out).mono ?_); rintro e w' ⟨rfl, ⟨nd, rfl⟩⟩) | (go_at_call 38; (with_reducible refine (holtlaw0_Num.calls 701 t118 _ A7.out).mono ?_); rintro e w' ⟨rfl, ⟨nd, rfl⟩⟩) | (go_at_call 38; (with_reducible refine (holtlaw0_Num.calls 702 t119 _ A9.out).mono ?_); rintro e w' ⟨rfl, ⟨nd, rfl⟩⟩) | (go_at_call 38; (with_reducible refine (holtlaw0_Num.calls 703 t120 _ A11.out).mono ?_); rintro e w' ⟨rfl, ⟨nd, rfl⟩⟩) | (go_at_call 38; (with_reducible refine (holtlaw0_Num.calls 704 t121 _ A13.out).mono ?_); rintro e w' ⟨rfl, ⟨nd, rfl⟩⟩))
                go_ret
                exact ⟨by first | rfl | (simp; done) | (simp [*]; done), by repeat (first | exact Drawn0.refl _ | apply Drawn0.step)⟩
            · rw [if_neg c12] at H
              have c12b0 : (t120 == 703) = false := beq_eq_false_iff_ne.mpr c12
              have c12b1 : (t120 != 703) = true := bne_iff_ne.mpr c12
              obtain rfl := Option.some.inj H
              go_enter Try.func16, Try.ntmps16
              go_wp2_with (first | ((with_reducible refine gate_callee (f := 38) rfl ?_); refine goesL_ (some 1) rfl rfl Try.func38 (by kernel_rfl) rfl #[.int .i64 601] rfl (by (try simp only [List.map_toArray, List.map_cons, List.map_nil]); first | done | rfl | (simp only [List.length_drop, List.length_take]; rfl)) ?_; (with_reducible refine (holtlaw0_Num.calls 601 t115 _ A1.out).mono ?_); rintro e w' ⟨rfl, ⟨nd, rfl⟩⟩; refine ⟨_, rfl, ?_⟩) | (go_at_call 38; (with_reducible refine (holtlaw0_Num.calls 602 t116 _ A3.out).mono ?_); rintro e w' ⟨rfl, ⟨nd, rfl⟩⟩) | (go_at_call 38; (with_reducible refine (holtlaw0_Num.calls 700 t117 _ A5.out).mono ?_); rintro e w' ⟨rfl, ⟨nd, rfl⟩⟩) | (go_at_call 38; (with_reducible refine (holtlaw0_Num.calls 701 t118 _ A7.out).mono ?_); rintro e w' ⟨rfl, ⟨nd, rfl⟩⟩) | (go_at_call 38; (with_reducible refine (holtlaw0_Num.calls 702 t119 _ A9.out).mono ?_); rintro e w' ⟨rfl, ⟨nd, rfl⟩⟩) | (go_at_call 38; (with_reducible refine (holtlaw0_Num.calls 703 t120 _ A11.out).mono ?_); rintro e w' ⟨rfl, ⟨nd, rfl⟩⟩))
              go_ret
              exact ⟨by first | rfl | (simp; done) | (simp [*]; done), by repeat (first | exact Drawn0.refl _ | apply Drawn0.step)⟩
          · rw [if_neg c10] at H
            have c10b0 : (t119 == 702) = false := beq_eq_false_iff_ne.mpr c10
            have c10b1 : (t119 != 702) = true := bne_iff_ne.mpr c10
            obtain rfl := Option.some.inj H
            go_enter Try.func16, Try.ntmps16
            go_wp2_with (first | ((with_reducible refine gate_callee (f := 38) rfl ?_); refine goesL_ (some 1) rfl rfl Try.func38 (by kernel_rfl) rfl #[.int .i64 601] rfl (by (try simp only [List.map_toArray, List.map_cons, List.map_nil]); first | done | rfl | (simp only [List.length_drop, List.length_take]; rfl)) ?_; (with_reducible refine (holtlaw0_Num.calls 601 t115 _ A1.out).mono ?_); rintro e w' ⟨rfl, ⟨nd, rfl⟩⟩; refine ⟨_, rfl, ?_⟩) | (go_at_call 38; (with_reducible refine (holtlaw0_Num.calls 602 t116 _ A3.out).mono ?_); rintro e w' ⟨rfl, ⟨nd, rfl⟩⟩) | (go_at_call 38; (with_reducible refine (holtlaw0_Num.calls 700 t117 _ A5.out).mono ?_); rintro e w' ⟨rfl, ⟨nd, rfl⟩⟩) | (go_at_call 38; (with_reducible refine (holtlaw0_Num.calls 701 t118 _ A7.out).mono ?_); rintro e w' ⟨rfl, ⟨nd, rfl⟩⟩) | (go_at_call 38; (with_reducible refine (holtlaw0_Num.calls 702 t119 _ A9.out).mono ?_); rintro e w' ⟨rfl, ⟨nd, rfl⟩⟩))
            go_ret
            exact ⟨by first | rfl | (simp; done) | (simp [*]; done), by repeat (first | exact Drawn0.refl _ | apply Drawn0.step)⟩
        · rw [if_neg c8] at H
          have c8b0 : (t118 == 701) = false := beq_eq_false_iff_ne.mpr c8
          have c8b1 : (t118 != 701) = true := bne_iff_ne.mpr c8
          obtain rfl := Option.some.inj H
          go_enter Try.func16, Try.ntmps16
          go_wp2_with (first | ((with_reducible refine gate_callee (f := 38) rfl ?_); refine goesL_ (some 1) rfl rfl Try.func38 (by kernel_rfl) rfl #[.int .i64 601] rfl (by (try simp only [List.map_toArray, List.map_cons, List.map_nil]); first | done | rfl | (simp only [List.length_drop, List.length_take]; rfl)) ?_; (with_reducible refine (holtlaw0_Num.calls 601 t115 _ A1.out).mono ?_); rintro e w' ⟨rfl, ⟨nd, rfl⟩⟩; refine ⟨_, rfl, ?_⟩) | (go_at_call 38; (with_reducible refine (holtlaw0_Num.calls 602 t116 _ A3.out).mono ?_); rintro e w' ⟨rfl, ⟨nd, rfl⟩⟩) | (go_at_call 38; (with_reducible refine (holtlaw0_Num.calls 700 t117 _ A5.out).mono ?_); rintro e w' ⟨rfl, ⟨nd, rfl⟩⟩) | (go_at_call 38; (with_reducible refine (holtlaw0_Num.calls 701 t118 _ A7.out).mono ?_); rintro e w' ⟨rfl, ⟨nd, rfl⟩⟩))
          go_ret
          exact ⟨by first | rfl | (simp; done) | (simp [*]; done), by repeat (first | exact Drawn0.refl _ | apply Drawn0.step)⟩
      · rw [if_neg c6] at H
        have c6b0 : (t117 == 700) = false := beq_eq_false_iff_ne.mpr c6
        have c6b1 : (t117 != 700) = true := bne_iff_ne.mpr c6
        obtain rfl := Option.some.inj H
        go_enter Try.func16, Try.ntmps16
        go_wp2_with (first | ((with_reducible refine gate_callee (f := 38) rfl ?_); refine goesL_ (some 1) rfl rfl Try.func38 (by kernel_rfl) rfl #[.int .i64 601] rfl (by (try simp only [List.map_toArray, List.map_cons, List.map_nil]); first | done | rfl | (simp only [List.length_drop, List.length_take]; rfl)) ?_; (with_reducible refine (holtlaw0_Num.calls 601 t115 _ A1.out).mono ?_); rintro e w' ⟨rfl, ⟨nd, rfl⟩⟩; refine ⟨_, rfl, ?_⟩) | (go_at_call 38; (with_reducible refine (holtlaw0_Num.calls 602 t116 _ A3.out).mono ?_); rintro e w' ⟨rfl, ⟨nd, rfl⟩⟩) | (go_at_call 38; (with_reducible refine (holtlaw0_Num.calls 700 t117 _ A5.out).mono ?_); rintro e w' ⟨rfl, ⟨nd, rfl⟩⟩))
        go_ret
        exact ⟨by first | rfl | (simp; done) | (simp [*]; done), by repeat (first | exact Drawn0.refl _ | apply Drawn0.step)⟩
    · rw [if_neg c4] at H
      have c4b0 : (t116 == 602) = false := beq_eq_false_iff_ne.mpr c4
      have c4b1 : (t116 != 602) = true := bne_iff_ne.mpr c4
      obtain rfl := Option.some.inj H
      go_enter Try.func16, Try.ntmps16
      go_wp2_with (first | ((with_reducible refine gate_callee (f := 38) rfl ?_); refine goesL_ (some 1) rfl rfl Try.func38 (by kernel_rfl) rfl #[.int .i64 601] rfl (by (try simp only [List.map_toArray, List.map_cons, List.map_nil]); first | done | rfl | (simp only [List.length_drop, List.length_take]; rfl)) ?_; (with_reducible refine (holtlaw0_Num.calls 601 t115 _ A1.out).mono ?_); rintro e w' ⟨rfl, ⟨nd, rfl⟩⟩; refine ⟨_, rfl, ?_⟩) | (go_at_call 38; (with_reducible refine (holtlaw0_Num.calls 602 t116 _ A3.out).mono ?_); rintro e w' ⟨rfl, ⟨nd, rfl⟩⟩))
      go_ret
      exact ⟨by first | rfl | (simp; done) | (simp [*]; done), by repeat (first | exact Drawn0.refl _ | apply Drawn0.step)⟩
  · rw [if_neg c2] at H
    have c2b0 : (t115 == 601) = false := beq_eq_false_iff_ne.mpr c2
    have c2b1 : (t115 != 601) = true := bne_iff_ne.mpr c2
    obtain rfl := Option.some.inj H
    go_enter Try.func16, Try.ntmps16
    go_wp2_with (first | ((with_reducible refine gate_callee (f := 38) rfl ?_); refine goesL_ (some 1) rfl rfl Try.func38 (by kernel_rfl) rfl #[.int .i64 601] rfl (by (try simp only [List.map_toArray, List.map_cons, List.map_nil]); first | done | rfl | (simp only [List.length_drop, List.length_take]; rfl)) ?_; (with_reducible refine (holtlaw0_Num.calls 601 t115 _ A1.out).mono ?_); rintro e w' ⟨rfl, ⟨nd, rfl⟩⟩; refine ⟨_, rfl, ?_⟩))
    go_ret
    exact ⟨by first | rfl | (simp; done) | (simp [*]; done), by repeat (first | exact Drawn0.refl _ | apply Drawn0.step)⟩

/-! ### holtlaw0_errors3: function 17 -/
def holtlaw0_errors3.f  : Option (Bool) := (holtlaw0_Num.f 903).bind fun t129 => (if t129 = 903 then ((holtlaw0_Num.f 1000).bind fun t130 => (if t130 = 1000 then ((holtlaw0_Num.f 1001).bind fun t131 => (if t131 = 1001 then ((holtlaw0_Num.f 1002).bind fun t132 => (if t132 = 1002 then ((holtlaw0_Num.f 1003).bind fun t133 => (if t133 = 1003 then ((holtlaw0_Num.f 1004).bind fun t134 => (if t134 = 1004 then ((holtlaw0_Num.f 1100).bind fun t135 => (if t135 = 1100 then ((holtlaw0_Num.f 1200).bind fun t136 => (if t136 = 1200 then ((holtlaw0_Num.f 1300).bind fun t137 => (if t137 = 1300 then ((holtlaw0_Num.f 1301).bind fun t138 => (if t138 = 1301 then ((holtlaw0_Num.f 1302).bind fun t139 => (if t139 = 1302 then ((holtlaw0_Num.f 1303).bind fun t140 => (if t140 = 1303 then ((holtlaw0_Num.f 1304).bind fun t141 => (if t141 = 1304 then ((holtlaw0_Num.f 1600).bind fun t142 => (some (t142 == 1600))) else (some false))) else (some false))) else (some false))) else (some false))) else (some false))) else (some false))) else (some false))) else (some false))) else (some false))) else (some false))) else (some false))) else (some false))) else (some false))
set_option maxHeartbeats 8000000 in
set_option maxRecDepth 100000 in
theorem holtlaw0_errors3.calls  (r : Bool) (w : World) (h : holtlaw0_errors3.f  = some r) :
    Calls Try.prog 17 #[] w fun e w' => e = .returned (.bool r) ∧ Drawn0 w w' := by
  have H : ((holtlaw0_Num.f 903).bind fun t129 => (if t129 = 903 then ((holtlaw0_Num.f 1000).bind fun t130 => (if t130 = 1000 then ((holtlaw0_Num.f 1001).bind fun t131 => (if t131 = 1001 then ((holtlaw0_Num.f 1002).bind fun t132 => (if t132 = 1002 then ((holtlaw0_Num.f 1003).bind fun t133 => (if t133 = 1003 then ((holtlaw0_Num.f 1004).bind fun t134 => (if t134 = 1004 then ((holtlaw0_Num.f 1100).bind fun t135 => (if t135 = 1100 then ((holtlaw0_Num.f 1200).bind fun t136 => (if t136 = 1200 then ((holtlaw0_Num.f 1300).bind fun t137 => (if t137 = 1300 then ((holtlaw0_Num.f 1301).bind fun t138 => (if t138 = 1301 then ((holtlaw0_Num.f 1302).bind fun t139 => (if t139 = 1302 then ((holtlaw0_Num.f 1303).bind fun t140 => (if t140 = 1303 then ((holtlaw0_Num.f 1304).bind fun t141 => (if t141 = 1304 then ((holtlaw0_Num.f 1600).bind fun t142 => (some (t142 == 1600))) else (some false))) else (some false))) else (some false))) else (some false))) else (some false))) else (some false))) else (some false))) else (some false))) else (some false))) else (some false))) else (some false))) else (some false))) else (some false))) = some r := h
  clear h
  replace H := Option.bind_eq_some_iff.mp H
  obtain ⟨t129, A10, H⟩ := H
  replace H : (if t129 = 903 then ((holtlaw0_Num.f 1000).bind fun t130 => (if t130 = 1000 then ((holtlaw0_Num.f 1001).bind fun t131 => (if t131 = 1001 then ((holtlaw0_Num.f 1002).bind fun t132 => (if t132 = 1002 then ((holtlaw0_Num.f 1003).bind fun t133 => (if t133 = 1003 then ((holtlaw0_Num.f 1004).bind fun t134 => (if t134 = 1004 then ((holtlaw0_Num.f 1100).bind fun t135 => (if t135 = 1100 then ((holtlaw0_Num.f 1200).bind fun t136 => (if t136 = 1200 then ((holtlaw0_Num.f 1300).bind fun t137 => (if t137 = 1300 then ((holtlaw0_Num.f 1301).bind fun t138 => (if t138 = 1301 then ((holtlaw0_Num.f 1302).bind fun t139 => (if t139 = 1302 then ((holtlaw0_Num.f 1303).bind fun t140 => (if t140 = 1303 then ((holtlaw0_Num.f 1304).bind fun t141 => (if t141 = 1304 then ((holtlaw0_Num.f 1600).bind fun t142 => (some (t142 == 1600))) else (some false))) else (some false))) else (some false))) else (some false))) else (some false))) else (some false))) else (some false))) else (some false))) else (some false))) else (some false))) else (some false))) else (some false))) else (some false)) = some r := H
  have A1 := Aside0.mk A10
  clear A10
  by_cases c2 : t129 = 903
  · rw [if_pos c2] at H
    have c2b0 : (t129 == 903) = true := beq_iff_eq.mpr c2
    have c2b1 : (t129 != 903) = false := bne_eq_false_iff_eq.mpr c2
    clear c2
    replace H := Option.bind_eq_some_iff.mp H
    obtain ⟨t130, A30, H⟩ := H
    replace H : (if t130 = 1000 then ((holtlaw0_Num.f 1001).bind fun t131 => (if t131 = 1001 then ((holtlaw0_Num.f 1002).bind fun t132 => (if t132 = 1002 then ((holtlaw0_Num.f 1003).bind fun t133 => (if t133 = 1003 then ((holtlaw0_Num.f 1004).bind fun t134 => (if t134 = 1004 then ((holtlaw0_Num.f 1100).bind fun t135 => (if t135 = 1100 then ((holtlaw0_Num.f 1200).bind fun t136 => (if t136 = 1200 then ((holtlaw0_Num.f 1300).bind fun t137 => (if t137 = 1300 then ((holtlaw0_Num.f 1301).bind fun t138 => (if t138 = 1301 then ((holtlaw0_Num.f 1302).bind fun t139 => (if t139 = 1302 then ((holtlaw0_Num.f 1303).bind fun t140 => (if t140 = 1303 then ((holtlaw0_Num.f 1304).bind fun t141 => (if t141 = 1304 then ((holtlaw0_Num.f 1600).bind fun t142 => (some (t142 == 1600))) else (some false))) else (some false))) else (some false))) else (some false))) else (some false))) else (some false))) else (some false))) else (some false))) else (some false))) else (some false))) else (some false))) else (some false)) = some r := H
    have A3 := Aside0.mk A30
    clear A30
    by_cases c4 : t130 = 1000
    · rw [if_pos c4] at H
      have c4b0 : (t130 == 1000) = true := beq_iff_eq.mpr c4
      have c4b1 : (t130 != 1000) = false := bne_eq_false_iff_eq.mpr c4
      clear c4
      replace H := Option.bind_eq_some_iff.mp H
      obtain ⟨t131, A50, H⟩ := H
      replace H : (if t131 = 1001 then ((holtlaw0_Num.f 1002).bind fun t132 => (if t132 = 1002 then ((holtlaw0_Num.f 1003).bind fun t133 => (if t133 = 1003 then ((holtlaw0_Num.f 1004).bind fun t134 => (if t134 = 1004 then ((holtlaw0_Num.f 1100).bind fun t135 => (if t135 = 1100 then ((holtlaw0_Num.f 1200).bind fun t136 => (if t136 = 1200 then ((holtlaw0_Num.f 1300).bind fun t137 => (if t137 = 1300 then ((holtlaw0_Num.f 1301).bind fun t138 => (if t138 = 1301 then ((holtlaw0_Num.f 1302).bind fun t139 => (if t139 = 1302 then ((holtlaw0_Num.f 1303).bind fun t140 => (if t140 = 1303 then ((holtlaw0_Num.f 1304).bind fun t141 => (if t141 = 1304 then ((holtlaw0_Num.f 1600).bind fun t142 => (some (t142 == 1600))) else (some false))) else (some false))) else (some false))) else (some false))) else (some false))) else (some false))) else (some false))) else (some false))) else (some false))) else (some false))) else (some false)) = some r := H
      have A5 := Aside0.mk A50
      clear A50
      by_cases c6 : t131 = 1001
      · rw [if_pos c6] at H
        have c6b0 : (t131 == 1001) = true := beq_iff_eq.mpr c6
        have c6b1 : (t131 != 1001) = false := bne_eq_false_iff_eq.mpr c6
        clear c6
        replace H := Option.bind_eq_some_iff.mp H
        obtain ⟨t132, A70, H⟩ := H
        replace H : (if t132 = 1002 then ((holtlaw0_Num.f 1003).bind fun t133 => (if t133 = 1003 then ((holtlaw0_Num.f 1004).bind fun t134 => (if t134 = 1004 then ((holtlaw0_Num.f 1100).bind fun t135 => (if t135 = 1100 then ((holtlaw0_Num.f 1200).bind fun t136 => (if t136 = 1200 then ((holtlaw0_Num.f 1300).bind fun t137 => (if t137 = 1300 then ((holtlaw0_Num.f 1301).bind fun t138 => (if t138 = 1301 then ((holtlaw0_Num.f 1302).bind fun t139 => (if t139 = 1302 then ((holtlaw0_Num.f 1303).bind fun t140 => (if t140 = 1303 then ((holtlaw0_Num.f 1304).bind fun t141 => (if t141 = 1304 then ((holtlaw0_Num.f 1600).bind fun t142 => (some (t142 == 1600))) else (some false))) else (some false))) else (some false))) else (some false))) else (some false))) else (some false))) else (some false))) else (some false))) else (some false))) else (some false)) = some r := H
        have A7 := Aside0.mk A70
        clear A70
        by_cases c8 : t132 = 1002
        · rw [if_pos c8] at H
          have c8b0 : (t132 == 1002) = true := beq_iff_eq.mpr c8
          have c8b1 : (t132 != 1002) = false := bne_eq_false_iff_eq.mpr c8
          clear c8
          replace H := Option.bind_eq_some_iff.mp H
          obtain ⟨t133, A90, H⟩ := H
          replace H : (if t133 = 1003 then ((holtlaw0_Num.f 1004).bind fun t134 => (if t134 = 1004 then ((holtlaw0_Num.f 1100).bind fun t135 => (if t135 = 1100 then ((holtlaw0_Num.f 1200).bind fun t136 => (if t136 = 1200 then ((holtlaw0_Num.f 1300).bind fun t137 => (if t137 = 1300 then ((holtlaw0_Num.f 1301).bind fun t138 => (if t138 = 1301 then ((holtlaw0_Num.f 1302).bind fun t139 => (if t139 = 1302 then ((holtlaw0_Num.f 1303).bind fun t140 => (if t140 = 1303 then ((holtlaw0_Num.f 1304).bind fun t141 => (if t141 = 1304 then ((holtlaw0_Num.f 1600).bind fun t142 => (some (t142 == 1600))) else (some false))) else (some false))) else (some false))) else (some false))) else (some false))) else (some false))) else (some false))) else (some false))) else (some false)) = some r := H
          have A9 := Aside0.mk A90
          clear A90
          by_cases c10 : t133 = 1003
          · rw [if_pos c10] at H
            have c10b0 : (t133 == 1003) = true := beq_iff_eq.mpr c10
            have c10b1 : (t133 != 1003) = false := bne_eq_false_iff_eq.mpr c10
            clear c10
            replace H := Option.bind_eq_some_iff.mp H
            obtain ⟨t134, A110, H⟩ := H
            replace H : (if t134 = 1004 then ((holtlaw0_Num.f 1100).bind fun t135 => (if t135 = 1100 then ((holtlaw0_Num.f 1200).bind fun t136 => (if t136 = 1200 then ((holtlaw0_Num.f 1300).bind fun t137 => (if t137 = 1300 then ((holtlaw0_Num.f 1301).bind fun t138 => (if t138 = 1301 then ((holtlaw0_Num.f 1302).bind fun t139 => (if t139 = 1302 then ((holtlaw0_Num.f 1303).bind fun t140 => (if t140 = 1303 then ((holtlaw0_Num.f 1304).bind fun t141 => (if t141 = 1304 then ((holtlaw0_Num.f 1600).bind fun t142 => (some (t142 == 1600))) else (some false))) else (some false))) else (some false))) else (some false))) else (some false))) else (some false))) else (some false))) else (some false)) = some r := H
            have A11 := Aside0.mk A110
            clear A110
            by_cases c12 : t134 = 1004
            · rw [if_pos c12] at H
              have c12b0 : (t134 == 1004) = true := beq_iff_eq.mpr c12
              have c12b1 : (t134 != 1004) = false := bne_eq_false_iff_eq.mpr c12
              clear c12
              replace H := Option.bind_eq_some_iff.mp H
              obtain ⟨t135, A130, H⟩ := H
              replace H : (if t135 = 1100 then ((holtlaw0_Num.f 1200).bind fun t136 => (if t136 = 1200 then ((holtlaw0_Num.f 1300).bind fun t137 => (if t137 = 1300 then ((holtlaw0_Num.f 1301).bind fun t138 => (if t138 = 1301 then ((holtlaw0_Num.f 1302).bind fun t139 => (if t139 = 1302 then ((holtlaw0_Num.f 1303).bind fun t140 => (if t140 = 1303 then ((holtlaw0_Num.f 1304).bind fun t141 => (if t141 = 1304 then ((holtlaw0_Num.f 1600).bind fun t142 => (some (t142 == 1600))) else (some false))) else (some false))) else (some false))) else (some false))) else (some false))) else (some false))) else (some false)) = some r := H
              have A13 := Aside0.mk A130
              clear A130
              by_cases c14 : t135 = 1100
              · rw [if_pos c14] at H
                have c14b0 : (t135 == 1100) = true := beq_iff_eq.mpr c14
                have c14b1 : (t135 != 1100) = false := bne_eq_false_iff_eq.mpr c14
                clear c14
                replace H := Option.bind_eq_some_iff.mp H
                obtain ⟨t136, A150, H⟩ := H
                replace H : (if t136 = 1200 then ((holtlaw0_Num.f 1300).bind fun t137 => (if t137 = 1300 then ((holtlaw0_Num.f 1301).bind fun t138 => (if t138 = 1301 then ((holtlaw0_Num.f 1302).bind fun t139 => (if t139 = 1302 then ((holtlaw0_Num.f 1303).bind fun t140 => (if t140 = 1303 then ((holtlaw0_Num.f 1304).bind fun t141 => (if t141 = 1304 then ((holtlaw0_Num.f 1600).bind fun t142 => (some (t142 == 1600))) else (some false))) else (some false))) else (some false))) else (some false))) else (some false))) else (some false)) = some r := H
                have A15 := Aside0.mk A150
                clear A150
                by_cases c16 : t136 = 1200
                · rw [if_pos c16] at H
                  have c16b0 : (t136 == 1200) = true := beq_iff_eq.mpr c16
                  have c16b1 : (t136 != 1200) = false := bne_eq_false_iff_eq.mpr c16
                  clear c16
                  replace H := Option.bind_eq_some_iff.mp H
                  obtain ⟨t137, A170, H⟩ := H
                  replace H : (if t137 = 1300 then ((holtlaw0_Num.f 1301).bind fun t138 => (if t138 = 1301 then ((holtlaw0_Num.f 1302).bind fun t139 => (if t139 = 1302 then ((holtlaw0_Num.f 1303).bind fun t140 => (if t140 = 1303 then ((holtlaw0_Num.f 1304).bind fun t141 => (if t141 = 1304 then ((holtlaw0_Num.f 1600).bind fun t142 => (some (t142 == 1600))) else (some false))) else (some false))) else (some false))) else (some false))) else (some false)) = some r := H
                  have A17 := Aside0.mk A170
                  clear A170
                  by_cases c18 : t137 = 1300
                  · rw [if_pos c18] at H
                    have c18b0 : (t137 == 1300) = true := beq_iff_eq.mpr c18
                    have c18b1 : (t137 != 1300) = false := bne_eq_false_iff_eq.mpr c18
                    clear c18
                    replace H := Option.bind_eq_some_iff.mp H
                    obtain ⟨t138, A190, H⟩ := H
                    replace H : (if t138 = 1301 then ((holtlaw0_Num.f 1302).bind fun t139 => (if t139 = 1302 then ((holtlaw0_Num.f 1303).bind fun t140 => (if t140 = 1303 then ((holtlaw0_Num.f 1304).bind fun t141 => (if t141 = 1304 then ((holtlaw0_Num.f 1600).bind fun t142 => (some (t142 == 1600))) else (some false))) else (some false))) else (some false))) else (some false)) = some r := H
                    have A19 := Aside0.mk A190
                    clear A190
                    by_cases c20 : t138 = 1301
                    · rw [if_pos c20] at H
                      have c20b0 : (t138 == 1301) = true := beq_iff_eq.mpr c20
                      have c20b1 : (t138 != 1301) = false := bne_eq_false_iff_eq.mpr c20
                      clear c20
                      replace H := Option.bind_eq_some_iff.mp H
                      obtain ⟨t139, A210, H⟩ := H
                      replace H : (if t139 = 1302 then ((holtlaw0_Num.f 1303).bind fun t140 => (if t140 = 1303 then ((holtlaw0_Num.f 1304).bind fun t141 => (if t141 = 1304 then ((holtlaw0_Num.f 1600).bind fun t142 => (some (t142 == 1600))) else (some false))) else (some false))) else (some false)) = some r := H
                      have A21 := Aside0.mk A210
                      clear A210
                      by_cases c22 : t139 = 1302
                      · rw [if_pos c22] at H
                        have c22b0 : (t139 == 1302) = true := beq_iff_eq.mpr c22
                        have c22b1 : (t139 != 1302) = false := bne_eq_false_iff_eq.mpr c22
                        clear c22
                        replace H := Option.bind_eq_some_iff.mp H
                        obtain ⟨t140, A230, H⟩ := H
                        replace H : (if t140 = 1303 then ((holtlaw0_Num.f 1304).bind fun t141 => (if t141 = 1304 then ((holtlaw0_Num.f 1600).bind fun t142 => (some (t142 == 1600))) else (some false))) else (some false)) = some r := H
                        have A23 := Aside0.mk A230
                        clear A230
                        by_cases c24 : t140 = 1303
                        · rw [if_pos c24] at H
                          have c24b0 : (t140 == 1303) = true := beq_iff_eq.mpr c24
                          have c24b1 : (t140 != 1303) = false := bne_eq_false_iff_eq.mpr c24
                          clear c24
                          replace H := Option.bind_eq_some_iff.mp H
                          obtain ⟨t141, A250, H⟩ := H
                          replace H : (if t141 = 1304 then ((holtlaw0_Num.f 1600).bind fun t142 => (some (t142 == 1600))) else (some false)) = some r := H
                          have A25 := Aside0.mk A250
                          clear A250
                          by_cases c26 : t141 = 1304
                          · rw [if_pos c26] at H
                            have c26b0 : (t141 == 1304) = true := beq_iff_eq.mpr c26
                            have c26b1 : (t141 != 1304) = false := bne_eq_false_iff_eq.mpr c26
                            clear c26
                            replace H := Option.bind_eq_some_iff.mp H
                            obtain ⟨t142, A270, H⟩ := H
                            replace H : (some (t142 == 1600)) = some r := H
                            have A27 := Aside0.mk A270
                            clear A270
                            obtain rfl := Option.some.inj H
                            go_enter Try.func17, Try.ntmps17
                            go_wp2_with (first | ((with_reducible refine gate_callee (f := 38) rfl ?_); refine goesL_ (some 1) rfl rfl Try.func38 (by kernel_rfl) rfl #[.int .i64 903] rfl (by (try simp only [List.map_toArray, List.map_cons, List.map_nil]); first | done | rfl | (simp only [List.length_drop, List.length_take]; rfl)) ?_; (with_reducible refine (holtlaw0_Num.calls 903 t129 _ A1.out).mono ?_); rintro e w' ⟨rfl, ⟨nd, rfl⟩⟩; refine ⟨_, rfl, ?_⟩) | (go_at_call 38; (with_reducible refine (holtlaw0_Num.calls 1000 t130 _ A3.out).mono ?_); rintro e w' ⟨rfl, ⟨nd, rfl⟩⟩) | (go_at_call 38; (with_reducible refine (holtlaw0_Num.calls 1001 t131 _ A5.out).mono ?_); rintro e w' ⟨rfl, ⟨nd, rfl⟩⟩) | (go_at_call 38; (with_reducible refine (holtlaw0_Num.calls 1002 t132 _ A7.out).mono ?_); rintro e w' ⟨rfl, ⟨nd, rfl⟩⟩) | (go_at_call 38; (with_reducible refine (holtlaw0_Num.calls 1003 t133 _ A9.out).mono ?_); rintro e w' ⟨rfl, ⟨nd, rfl⟩⟩) | (go_at_call 38; (with_reducible refine (holtlaw0_Num.calls 1004 t134 _ A11.out).mono ?_); rintro e w' ⟨rfl, ⟨nd, rfl⟩⟩) | (go_at_call 38; (with_reducible refine (holtlaw0_Num.calls 1100 t135 _ A13.out).mono ?_); rintro e w' ⟨rfl, ⟨nd, rfl⟩⟩) | (go_at_call 38; (with_reducible refine (holtlaw0_Num.calls 1200 t136 _ A15.out).mono ?_); rintro e w' ⟨rfl, ⟨nd, rfl⟩⟩) | (go_at_call 38; (with_reducible refine (holtlaw0_Num.calls 1300 t137 _ A17.out).mono ?_); rintro e w' ⟨rfl, ⟨nd, rfl⟩⟩) | (go_at_call 38; (with_reducible refine (holtlaw0_Num.calls 1301 t138 _ A19.out).mono ?_); rintro e w' ⟨rfl, ⟨nd, rfl⟩⟩) | (go_at_call 38; (with_reducible refine (holtlaw0_Num.calls 1302 t139 _ A21.out).mono ?_); rintro e w' ⟨rfl, ⟨nd, rfl⟩⟩) | (go_at_call 38; (with_reducible refine (holtlaw0_Num.calls 1303 t140 _ A23.out).mono ?_); rintro e w' ⟨rfl, ⟨nd, rfl⟩⟩) | (go_at_call 38; (with_reducible refine (holtlaw0_Num.calls 1304 t141 _ A25.out).mono ?_); rintro e w' ⟨rfl, ⟨nd, rfl⟩⟩) | (go_at_call 38; (with_reducible refine (holtlaw0_Num.calls 1600 t142 _ A27.out).mono ?_); rintro e w' ⟨rfl, ⟨nd, rfl⟩⟩))
                            go_ret
                            exact ⟨by first | rfl | (simp; done) | (simp [*]; done), by repeat (first | exact Drawn0.refl _ | apply Drawn0.step)⟩
                          · rw [if_neg c26] at H
                            have c26b0 : (t141 == 1304) = false := beq_eq_false_iff_ne.mpr c26
                            have c26b1 : (t141 != 1304) = true := bne_iff_ne.mpr c26
                            obtain rfl := Option.some.inj H
                            go_enter Try.func17, Try.ntmps17
                            go_wp2_with (first | ((with_reducible refine gate_callee (f := 38) rfl ?_); refine goesL_ (some 1) rfl rfl Try.func38 (by kernel_rfl) rfl #[.int .i64 903] rfl (by (try simp only [List.map_toArray, List.map_cons, List.map_nil]); first | done | rfl | (simp only [List.length_drop, List.length_take]; rfl)) ?_; (with_reducible refine (holtlaw0_Num.calls 903 t129 _ A1.out).mono ?_); rintro e w' ⟨rfl, ⟨nd, rfl⟩⟩; refine ⟨_, rfl, ?_⟩) | (go_at_call 38; (with_reducible refine (holtlaw0_Num.calls 1000 t130 _ A3.out).mono ?_); rintro e w' ⟨rfl, ⟨nd, rfl⟩⟩) | (go_at_call 38; (with_reducible refine (holtlaw0_Num.calls 1001 t131 _ A5.out).mono ?_); rintro e w' ⟨rfl, ⟨nd, rfl⟩⟩) | (go_at_call 38; (with_reducible refine (holtlaw0_Num.calls 1002 t132 _ A7.out).mono ?_); rintro e w' ⟨rfl, ⟨nd, rfl⟩⟩) | (go_at_call 38; (with_reducible refine (holtlaw0_Num.calls 1003 t133 _ A9.out).mono ?_); rintro e w' ⟨rfl, ⟨nd, rfl⟩⟩) | (go_at_call 38; (with_reducible refine (holtlaw0_Num.calls 1004 t134 _ A11.out).mono ?_); rintro e w' ⟨rfl, ⟨nd, rfl⟩⟩) | (go_at_call 38; (with_reducible refine (holtlaw0_Num.calls 1100 t135 _ A13.out).mono ?_); rintro e w' ⟨rfl, ⟨nd, rfl⟩⟩) | (go_at_call 38; (with_reducible refine (holtlaw0_Num.calls 1200 t136 _ A15.out).mono ?_); rintro e w' ⟨rfl, ⟨nd, rfl⟩⟩) | (go_at_call 38; (with_reducible refine (holtlaw0_Num.calls 1300 t137 _ A17.out).mono ?_); rintro e w' ⟨rfl, ⟨nd, rfl⟩⟩) | (go_at_call 38; (with_reducible refine (holtlaw0_Num.calls 1301 t138 _ A19.out).mono ?_); rintro e w' ⟨rfl, ⟨nd, rfl⟩⟩) | (go_at_call 38; (with_reducible refine (holtlaw0_Num.calls 1302 t139 _ A21.out).mono ?_); rintro e w' ⟨rfl, ⟨nd, rfl⟩⟩) | (go_at_call 38; (with_reducible refine (holtlaw0_Num.calls 1303 t140 _ A23.out).mono ?_); rintro e w' ⟨rfl, ⟨nd, rfl⟩⟩) | (go_at_call 38; (with_reducible refine (holtlaw0_Num.calls 1304 t141 _ A25.out).mono ?_); rintro e w' ⟨rfl, ⟨nd, rfl⟩⟩))
                            go_ret
                            exact ⟨by first | rfl | (simp; done) | (simp [*]; done), by repeat (first | exact Drawn0.refl _ | apply Drawn0.step)⟩
                        · rw [if_neg c24] at H
                          have c24b0 : (t140 == 1303) = false := beq_eq_false_iff_ne.mpr c24
                          have c24b1 : (t140 != 1303) = true := bne_iff_ne.mpr c24
                          obtain rfl := Option.some.inj H
                          go_enter Try.func17, Try.ntmps17
                          go_wp2_with (first | ((with_reducible refine gate_callee (f := 38) rfl ?_); refine goesL_ (some 1) rfl rfl Try.func38 (by kernel_rfl) rfl #[.int .i64 903] rfl (by (try simp only [List.map_toArray, List.map_cons, List.map_nil]); first | done | rfl | (simp only [List.length_drop, List.length_take]; rfl)) ?_; (with_reducible refine (holtlaw0_Num.calls 903 t129 _ A1.out).mono ?_); rintro e w' ⟨rfl, ⟨nd, rfl⟩⟩; refine ⟨_, rfl, ?_⟩) | (go_at_call 38; (with_reducible refine (holtlaw0_Num.calls 1000 t130 _ A3.out).mono ?_); rintro e w' ⟨rfl, ⟨nd, rfl⟩⟩) | (go_at_call 38; (with_reducible refine (holtlaw0_Num.calls 1001 t131 _ A5.out).mono ?_); rintro e w' ⟨rfl, ⟨nd, rfl⟩⟩) | (go_at_call 38; (with_reducible refine (holtlaw0_Num.calls 1002 t132 _ A7.out).mono ?_); rintro e w' ⟨rfl, ⟨nd, rfl⟩⟩) | (go_at_call 38; (with_reducible refine (holtlaw0_Num.calls 1003 t133 _ A9.out).mono ?_); rintro e w' ⟨rfl, ⟨nd, rfl⟩⟩) | (go_at_call 38; (with_reducible refine (holtlaw0_Num.calls 1004 t134 _ A11.out).mono ?_); rintro e w' ⟨rfl, ⟨nd, rfl⟩⟩) | (go_at_call 38; (with_reducible refine (holtlaw0_Num.calls 1100 t135 _ A13.out).mono ?_); rintro e w' ⟨rfl, ⟨nd, rfl⟩⟩) | (go_at_call 38; (with_reducible refine (holtlaw0_Num.calls 1200 t136 _ A15.out).mono ?_); rintro e w' ⟨rfl, ⟨nd, rfl⟩⟩) | (go_at_call 38; (with_reducible refine (holtlaw0_Num.calls 1300 t137 _ A17.out).mono ?_); rintro e w' ⟨rfl, ⟨nd, rfl⟩⟩) | (go_at_call 38; (with_reducible refine (holtlaw0_Num.calls 1301 t138 _ A19.out).mono ?_); rintro e w' ⟨rfl, ⟨nd, rfl⟩⟩) | (go_at_call 38; (with_reducible refine (holtlaw0_Num.calls 1302 t139 _ A21.out).mono ?_); rintro e w' ⟨rfl, ⟨nd, rfl⟩⟩) | (go_at_call 38; (with_reducible refine (holtlaw0_Num.calls 1303 t140 _ A23.out).mono ?_); rintro e w' ⟨rfl, ⟨nd, rfl⟩⟩))
                          go_ret
                          exact ⟨by first | rfl | (simp; done) | (simp [*]; done), by repeat (first | exact Drawn0.refl _ | apply Drawn0.step)⟩
                      · rw [if_neg c22] at H
                        have c22b0 : (t139 == 1302) = false := beq_eq_false_iff_ne.mpr c22
                        have c22b1 : (t139 != 1302) = true := bne_iff_ne.mpr c22
                        obtain rfl := Option.some.inj H
                        go_enter Try.func17, Try.ntmps17
                        go_wp2_with (first | ((with_reducible refine gate_callee (f := 38) rfl ?_); refine goesL_ (some 1) rfl rfl Try.func38 (by kernel_rfl) rfl #[.int .i64 903] rfl (by (try simp only [List.map_toArray, List.map_cons, List.map_nil]); first | done | rfl | (simp only [List.length_drop, List.length_take]; rfl)) ?_; (with_reducible refine (holtlaw0_Num.calls 903 t129 _ A1.out).mono ?_); rintro e w' ⟨rfl, ⟨nd, rfl⟩⟩; refine ⟨_, rfl, ?_⟩) | (go_at_call 38; (with_reducible refine (holtlaw0_Num.calls 1000 t130 _ A3.out).mono ?_); rintro e w' ⟨rfl, ⟨nd, rfl⟩⟩) | (go_at_call 38; (with_reducible refine (holtlaw0_Num.calls 1001 t131 _ A5.out).mono ?_); rintro e w' ⟨rfl, ⟨nd, rfl⟩⟩) | (go_at_call 38; (with_reducible refine (holtlaw0_Num.calls 1002 t132 _ A7.out).mono ?_); rintro e w' ⟨rfl, ⟨nd, rfl⟩⟩) | (go_at_call 38; (with_reducible refine (holtlaw0_Num.calls 1003 t133 _ A9.out).mono ?_); rintro e w' ⟨rfl, ⟨nd, rfl⟩⟩) | (go_at_call 38; (with_reducible refine (holtlaw0_Num.calls 1004 t134 _ A11.out).mono ?_); rintro e w' ⟨rfl, ⟨nd, rfl⟩⟩) | (go_at_call 38; (with_reducible refine (holtlaw0_Num.calls 1100 t135 _ A13.out).mono ?_); rintro e w' ⟨rfl, ⟨nd, rfl⟩⟩) | (go_at_call 38; (with_reducible refine (holtlaw0_Num.calls 1200 t136 _ A15.out).mono ?_); rintro e w' ⟨rfl, ⟨nd, rfl⟩⟩) | (go_at_call 38; (with_reducible refine (holtlaw0_Num.calls 1300 t137 _ A17.out).mono ?_); rintro e w' ⟨rfl, ⟨nd, rfl⟩⟩) | (go_at_call 38; (with_reducible refine (holtlaw0_Num.calls 1301 t138 _ A19.out).mono ?_); rintro e w' ⟨rfl, ⟨nd, rfl⟩⟩) | (go_at_call 38; (with_reducible refine (holtlaw0_Num.calls 1302 t139 _ A21.out).mono ?_); rintro e w' ⟨rfl, ⟨nd, rfl⟩⟩))
                        go_ret
                        exact ⟨by first | rfl | (simp; done) | (simp [*]; done), by repeat (first | exact Drawn0.refl _ | apply Drawn0.step)⟩
                    · rw [if_neg c20] at H
                      have c20b0 : (t138 == 1301) = false := beq_eq_false_iff_ne.mpr c20
                      have c20b1 : (t138 != 1301) = true := bne_iff_ne.mpr c20
                      obtain rfl := Option.some.inj H
                      go_enter Try.func17, Try.ntmps17
                      go_wp2_with (first | ((with_reducible refine gate_callee (f := 38) rfl ?_); refine goesL_ (some 1) rfl rfl Try.func38 (by kernel_rfl) rfl #[.int .i64 903] rfl (by (try simp only [List.map_toArray, List.map_cons, List.map_nil]); first | done | rfl | (simp only [List.length_drop, List.length_take]; rfl)) ?_; (with_reducible refine (holtlaw0_Num.calls 903 t129 _ A1.out).mono ?_); rintro e w' ⟨rfl, ⟨nd, rfl⟩⟩; refine ⟨_, rfl, ?_⟩) | (go_at_call 38; (with_reducible refine (holtlaw0_Num.calls 1000 t130 _ A3.out).mono ?_); rintro e w' ⟨rfl, ⟨nd, rfl⟩⟩) | (go_at_call 38; (with_reducible refine (holtlaw0_Num.calls 1001 t131 _ A5.out).mono ?_); rintro e w' ⟨rfl, ⟨nd, rfl⟩⟩) | (go_at_call 38; (with_reducible refine (holtlaw0_Num.calls 1002 t132 _ A7.out).mono ?_); rintro e w' ⟨rfl, ⟨nd, rfl⟩⟩) | (go_at_call 38; (with_reducible refine (holtlaw0_Num.calls 1003 t133 _ A9.out).mono ?_); rintro e w' ⟨rfl, ⟨nd, rfl⟩⟩) | (go_at_call 38; (with_reducible refine (holtlaw0_Num.calls 1004 t134 _ A11.out).mono ?_); rintro e w' ⟨rfl, ⟨nd, rfl⟩⟩) | (go_at_call 38; (with_reducible refine (holtlaw0_Num.calls 1100 t135 _ A13.out).mono ?_); rintro e w' ⟨rfl, ⟨nd, rfl⟩⟩) | (go_at_call 38; (with_reducible refine (holtlaw0_Num.calls 1200 t136 _ A15.out).mono ?_); rintro e w' ⟨rfl, ⟨nd, rfl⟩⟩) | (go_at_call 38; (with_reducible refine (holtlaw0_Num.calls 1300 t137 _ A17.out).mono ?_); rintro e w' ⟨rfl, ⟨nd, rfl⟩⟩) | (go_at_call 38; (with_reducible refine (holtlaw0_Num.calls 1301 t138 _ A19.out).mono ?_); rintro e w' ⟨rfl, ⟨nd, rfl⟩⟩))
                      go_ret
                      exact ⟨by first | rfl | (simp; done) | (simp [*]; done), by repeat (first | exact Drawn0.refl _ | apply Drawn0.step)⟩
                  · rw [if_neg c18] at H
                    have c18b0 : (t137 == 1300) = false := beq_eq_false_iff_ne.mpr c18
                    have c18b1 : (t137 != 1300) = true := bne_iff_ne.mpr c18
                    obtain rfl := Option.some.inj H
                    go_enter Try.func17, Try.ntmps17
                    go_wp2_with (first | ((with_reducible refine gate_callee (f := 38) rfl ?_); refine goesL_ (some 1) rfl rfl Try.func38 (by kernel_rfl) rfl #[.int .i64 903] rfl (by (try simp only [List.map_toArray, List.map_cons, List.map_nil]); first | done | rfl | (simp only [List.length_drop, List.length_take]; rfl)) ?_; (with_reducible refine (holtlaw0_Num.calls 903 t129 _ A1.out).mono ?_); rintro e w' ⟨rfl, ⟨nd, rfl⟩⟩; refine ⟨_, rfl, ?_⟩) | (go_at_call 38; (with_reducible refine (holtlaw0_Num.calls 1000 t130 _ A3.out).mono ?_); rintro e w' ⟨rfl, ⟨nd, rfl⟩⟩) | (go_at_call 38; (with_reducible refine (holtlaw0_Num.calls 1001 t131 _ A5.out).mono ?_); rintro e w' ⟨rfl, ⟨nd, rfl⟩⟩) | (go_at_call 38; (with_reducible refine (holtlaw0_Num.calls 1002 t132 _ A7.out).mono ?_); rintro e w' ⟨rfl, ⟨nd, rfl⟩⟩) | (go_at_call 38; (with_reducible refine (holtlaw0_Num.calls 1003 t133 _ A9.out).mono ?_); rintro e w' ⟨rfl, ⟨nd, rfl⟩⟩) | (go_at_call 38; (with_reducible refine (holtlaw0_Num.calls 1004 t134 _ A11.out).mono ?_); rintro e w' ⟨rfl, ⟨nd, rfl⟩⟩) | (go_at_call 38; (with_reducible refine (holtlaw0_Num.calls 1100 t135 _ A13.out).mono ?_); rintro e w' ⟨rfl, ⟨nd, rfl⟩⟩) | (go_at_call 38; (with_reducible refine (holtlaw0_Num.calls 1200 t136 _ A15.out).mono ?_); rintro e w' ⟨rfl, ⟨nd, rfl⟩⟩) | (go_at_call 38; (with_reducible refine (holtlaw0_Num.calls 1300 t137 _ A17.out).mono ?_); rintro e w' ⟨rfl, ⟨nd, rfl⟩⟩))
                    go_ret
                    exact ⟨by first | rfl | (simp; done) | (simp [*]; done), by repeat (first | exact Drawn0.refl _ | apply Drawn0.step)⟩
                · rw [if_neg c16] at H
                  have c16b0 : (t136 == 1200) = false := beq_eq_false_iff_ne.mpr c16
                  have c16b1 : (t136 != 1200) = true := bne_iff_ne.mpr c16
                  obtain rfl := Option.some.inj H
                  go_enter Try.func17, Try.ntmps17
                  go_wp2_with (first | ((with_reducible refine gate_callee (f := 38) rfl ?_); refine goesL_ (some 1) rfl rfl Try.func38 (by kernel_rfl) rfl #[.int .i64 903] rfl (by (try simp only [List.map_toArray, List.map_cons, List.map_nil]); first | done | rfl | (simp only [List.length_drop, List.length_take]; rfl)) ?_; (with_reducible refine (holtlaw0_Num.calls 903 t129 _ A1.out).mono ?_); rintro e w' ⟨rfl, ⟨nd, rfl⟩⟩; refine ⟨_, rfl, ?_⟩) | (go_at_call 38; (with_reducible refine (holtlaw0_Num.calls 1000 t130 _ A3.out).mono ?_); rintro e w' ⟨rfl, ⟨nd, rfl⟩⟩) | (go_at_call 38; (with_reducible refine (holtlaw0_Num.calls 1001 t131 _ A5.out).mono ?_); rintro e w' ⟨rfl, ⟨nd, rfl⟩⟩) | (go_at_call 38; (with_reducible refine (holtlaw0_Num.calls 1002 t132 _ A7.out).mono ?_); rintro e w' ⟨rfl, ⟨nd, rfl⟩⟩) | (go_at_call 38; (with_reducible refine (holtlaw0_Num.calls 1003 t133 _ A9.out).mono ?_); rintro e w' ⟨rfl, ⟨nd, rfl⟩⟩) | (go_at_call 38; (with_reducible refine (holtlaw0_Num.calls 1004 t134 _ A11.out).mono ?_); rintro e w' ⟨rfl, ⟨nd, rfl⟩⟩) | (go_at_call 38; (with_reducible refine (holtlaw0_Num.calls 1100 t135 _ A13.out).mono ?_); rintro e w' ⟨rfl, ⟨nd, rfl⟩⟩) | (go_at_call 38; (with_reducible refine (holtlaw0_Num.calls 1200 t136 _ A15.out).mono ?_); rintro e w' ⟨rfl, ⟨nd, rfl⟩⟩))
                  go_ret
                  exact ⟨by first | rfl | (simp; done) | (simp [*]; done), by repeat (first | exact Drawn0.refl _ | apply Drawn0.step)⟩
              · rw [if_neg c14] at H
                have c14b0 : (t135 == 1100) = false := beq_eq_false_iff_ne.mpr c14
                have c14b1 : (t135 != 1100) = true := bne_iff_ne.mpr c14
                obtain rfl := Option.some.inj H
                go_enter Try.func17, Try.ntmps17
                go_wp2_with (first | ((with_reducible refine gate_callee (f := 38) rfl ?_); refine goesL_ (some 1) rfl rfl Try.func38 (by kernel_rfl) rfl #[.int .i64 903] rfl (by (try simp only [List.map_toArray, List.map_cons, List.map_nil]); first | done | rfl | (simp only [List.length_drop, List.length_take]; rfl)) ?_; (with_reducible refine (holtlaw0_Num.calls 903 t129 _ A1.out).mono ?_); rintro e w' ⟨rfl, ⟨nd, rfl⟩⟩; refine ⟨_, rfl, ?_⟩) | (go_at_call 38; (with_reducible refine (holtlaw0_Num.calls 1000 t130 _ A3.out).mono ?_); rintro e w' ⟨rfl, ⟨nd, rfl⟩⟩) | (go_at_call 38; (with_reducible refine (holtlaw0_Num.calls 1001 t131 _ A5.out).mono ?_); rintro e w' ⟨rfl, ⟨nd, rfl⟩⟩) | (go_at_call 38; (with_reducible refine (holtlaw0_Num.calls 1002 t132 _ A7.out).mono ?_); rintro e w' ⟨rfl, ⟨nd, rfl⟩⟩) | (go_at_call 38; (with_reducible refine (holtlaw0_Num.calls 1003 t133 _ A9.out).mono ?_); rintro e w' ⟨rfl, ⟨nd, rfl⟩⟩) | (go_at_call 38; (with_reducible refine (holtlaw0_Num.calls 1004 t134 _ A11.out).mono ?_); rintro e w' ⟨rfl, ⟨nd, rfl⟩⟩) | (go_at_call 38; (with_reducible refine (holtlaw0_Num.calls 1100 t135 _ A13.out).mono ?_); rintro e w' ⟨rfl, ⟨nd, rfl⟩⟩))
                go_ret
                exact ⟨by first | rfl | (simp; done) | (simp [*]; done), by repeat (first | exact Drawn0.refl _ | apply Drawn0.step)⟩
            · rw [if_neg c12] at H
              have c12b0 : (t134 == 1004) = false := beq_eq_false_iff_ne.mpr c12
              have c12b1 : (t134 != 1004) = true := bne_iff_ne.mpr c12
              obtain rfl := Option.some.inj H
              go_enter Try.func17, Try.ntmps17
              go_wp2_with (first | ((with_reducible refine gate_callee (f := 38) rfl ?_); refine goesL_ (some 1) rfl rfl Try.func38 (by kernel_rfl) rfl #[.int .i64 903] rfl (by (try simp only [List.map_toArray, List.map_cons, List.map_nil]); first | done | rfl | (simp only [List.length_drop, List.length_take]; rfl)) ?_; (with_reducible refine (holtlaw0_Num.calls 903 t129 _ A1.out).mono ?_); rintro e w' ⟨rfl, ⟨nd, rfl⟩⟩; refine ⟨_, rfl, ?_⟩) | (go_at_call 38; (with_reducible refine (holtlaw0_Num.calls 1000 t130 _ A3.out).mono ?_); rintro e w' ⟨rfl, ⟨nd, rfl⟩⟩) | (go_at_call 38; (with_reducible refine (holtlaw0_Num.calls 1001 t131 _ A5.out).mono ?_); rintro e w' ⟨rfl, ⟨nd, rfl⟩⟩) | (go_at_call 38; (with_reducible refine (holtlaw0_Num.calls 1002 t132 _ A7.out).mono ?_); rintro e w' ⟨rfl, ⟨nd, rfl⟩⟩) | (go_at_call 38; (with_reducible refine (holtlaw0_Num.calls 1003 t133 _ A9.out).mono ?_); rintro e w' ⟨rfl, ⟨nd, rfl⟩⟩) | (go_at_call 38; (with_reducible refine (holtlaw0_Num.calls 1004 t134 _ A11.out).mono ?_); rintro e w' ⟨rfl, ⟨nd, rfl⟩⟩))
              go_ret
              exact ⟨by first | rfl | (simp; done) | (simp [*]; done), by repeat (first | exact Drawn0.refl _ | apply Drawn0.step)⟩
          · rw [if_neg c10] at H
            have c10b0 : (t133 == 1003) = false := beq_eq_false_iff_ne.mpr c10
            have c10b1 : (t133 != 1003) = true := bne_iff_ne.mpr c10
            obtain rfl := Option.some.inj H
            go_enter Try.func17, Try.ntmps17
            go_wp2_with (first | ((with_reducible refine gate_callee (f := 38) rfl ?_); refine goesL_ (some 1) rfl rfl Try.func38 (by kernel_rfl) rfl #[.int .i64 903] rfl (by (try simp only [List.map_toArray, List.map_cons, List.map_nil]); first | done | rfl | (simp only [List.length_drop, List.length_take]; rfl)) ?_; (with_reducible refine (holtlaw0_Num.calls 903 t129 _ A1.out).mono ?_); rintro e w' ⟨rfl, ⟨nd, rfl⟩⟩; refine ⟨_, rfl, ?_⟩) | (go_at_call 38; (with_reducible refine (holtlaw0_Num.calls 1000 t130 _ A3.out).mono ?_); rintro e w' ⟨rfl, ⟨nd, rfl⟩⟩) | (go_at_call 38; (with_reducible refine (holtlaw0_Num.calls 1001 t131 _ A5.out).mono ?_); rintro e w' ⟨rfl, ⟨nd, rfl⟩⟩) | (go_at_call 38; (with_reducible refine (holtlaw0_Num.calls 1002 t132 _ A7.out).mono ?_); rintro e w' ⟨rfl, ⟨nd, rfl⟩⟩) | (go_at_call 38; (with_reducible refine (holtlaw0_Num.calls 1003 t133 _ A9.out).mono ?_); rintro e w' ⟨rfl, ⟨nd, rfl⟩⟩))
            go_ret
            exact ⟨by first | rfl | (simp; done) | (simp [*]; done), by repeat (first | exact Drawn0.refl _ | apply Drawn0.step)⟩
        · rw [if_neg c8] at H
          have c8b0 : (t132 == 1002) = false := beq_eq_false_iff_ne.mpr c8
          have c8b1 : (t132 != 1002) = true := bne_iff_ne.mpr c8
          obtain rfl := Option.some.inj H
          go_enter Try.func17, Try.ntmps17
          go_wp2_with (first | ((with_reducible refine gate_callee (f := 38) rfl ?_); refine goesL_ (some 1) rfl rfl Try.func38 (by kernel_rfl) rfl #[.int .i64 903] rfl (by (try simp only [List.map_toArray, List.map_cons, List.map_nil]); first | done | rfl | (simp only [List.length_drop, List.length_take]; rfl)) ?_; (with_reducible refine (holtlaw0_Num.calls 903 t129 _ A1.out).mono ?_); rintro e w' ⟨rfl, ⟨nd, rfl⟩⟩; refine ⟨_, rfl, ?_⟩) | (go_at_call 38; (with_reducible refine (holtlaw0_Num.calls 1000 t130 _ A3.out).mono ?_); rintro e w' ⟨rfl, ⟨nd, rfl⟩⟩) | (go_at_call 38; (with_reducible refine (holtlaw0_Num.calls 1001 t131 _ A5.out).mono ?_); rintro e w' ⟨rfl, ⟨nd, rfl⟩⟩) | (go_at_call 38; (with_reducible refine (holtlaw0_Num.calls 1002 t132 _ A7.out).mono ?_); rintro e w' ⟨rfl, ⟨nd, rfl⟩⟩))
          go_ret
          exact ⟨by first | rfl | (simp; done) | (simp [*]; done), by repeat (first | exact Drawn0.refl _ | apply Drawn0.step)⟩
      · rw [if_neg c6] at H
        have c6b0 : (t131 == 1001) = false := beq_eq_false_iff_ne.mpr c6
        have c6b1 : (t131 != 1001) = true := bne_iff_ne.mpr c6
        obtain rfl := Option.some.inj H
        go_enter Try.func17, Try.ntmps17
        go_wp2_with (first | ((with_reducible refine gate_callee (f := 38) rfl ?_); refine goesL_ (some 1) rfl rfl Try.func38 (by kernel_rfl) rfl #[.int .i64 903] rfl (by (try simp only [List.map_toArray, List.map_cons, List.map_nil]); first | done | rfl | (simp only [List.length_drop, List.length_take]; rfl)) ?_; (with_reducible refine (holtlaw0_Num.calls 903 t129 _ A1.out).mono ?_); rintro e w' ⟨rfl, ⟨nd, rfl⟩⟩; refine ⟨_, rfl, ?_⟩) | (go_at_call 38; (with_reducible refine (holtlaw0_Num.calls 1000 t130 _ A3.out).mono ?_); rintro e w' ⟨rfl, ⟨nd, rfl⟩⟩) | (go_at_call 38; (with_reducible refine (holtlaw0_Num.calls 1001 t131 _ A5.out).mono ?_); rintro e w' ⟨rfl, ⟨nd, rfl⟩⟩))
        go_ret
        exact ⟨by first | rfl | (simp; done) | (simp [*]; done), by repeat (first | exact Drawn0.refl _ | apply Drawn0.step)⟩
    · rw [if_neg c4] at H
      have c4b0 : (t130 == 1000) = false := beq_eq_false_iff_ne.mpr c4
      have c4b1 : (t130 != 1000) = true := bne_iff_ne.mpr c4
      obtain rfl := Option.some.inj H
      go_enter Try.func17, Try.ntmps17
      go_wp2_with (first | ((with_reducible refine gate_callee (f := 38) rfl ?_); refine goesL_ (some 1) rfl rfl Try.func38 (by kernel_rfl) rfl #[.int .i64 903] rfl (by (try simp only [List.map_toArray, List.map_cons, List.map_nil]); first | done | rfl | (simp only [List.length_drop, List.length_take]; rfl)) ?_; (with_reducible refine (holtlaw0_Num.calls 903 t129 _ A1.out).mono ?_); rintro e w' ⟨rfl, ⟨nd, rfl⟩⟩; refine ⟨_, rfl, ?_⟩) | (go_at_call 38; (with_reducible refine (holtlaw0_Num.calls 1000 t130 _ A3.out).mono ?_); rintro e w' ⟨rfl, ⟨nd, rfl⟩⟩))
      go_ret
      exact ⟨by first | rfl | (simp; done) | (simp [*]; done), by repeat (first | exact Drawn0.refl _ | apply Drawn0.step)⟩
  · rw [if_neg c2] at H
    have c2b0 : (t129 == 903) = false := beq_eq_false_iff_ne.mpr c2
    have c2b1 : (t129 != 903) = true := bne_iff_ne.mpr c2
    obtain rfl := Option.some.inj H
    go_enter Try.func17, Try.ntmps17
    go_wp2_with (first | ((with_reducible refine gate_callee (f := 38) rfl ?_); refine goesL_ (some 1) rfl rfl Try.func38 (by kernel_rfl) rfl #[.int .i64 903] rfl (by (try simp only [List.map_toArray, List.map_cons, List.map_nil]); first | done | rfl | (simp only [List.length_drop, List.length_take]; rfl)) ?_; (with_reducible refine (holtlaw0_Num.calls 903 t129 _ A1.out).mono ?_); rintro e w' ⟨rfl, ⟨nd, rfl⟩⟩; refine ⟨_, rfl, ?_⟩))
    go_ret
    exact ⟨by first | rfl | (simp; done) | (simp [*]; done), by repeat (first | exact Drawn0.refl _ | apply Drawn0.step)⟩

end Go.Proofs.Ytkcnmlggaggjlaa.Hn

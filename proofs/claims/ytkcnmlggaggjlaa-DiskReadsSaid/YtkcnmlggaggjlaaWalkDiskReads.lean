/- DiskReads: what is read is what was written last: the walk. Conditions: as in the statements. -/
import Derived.Test.YtkcnmlggaggjlaaDiskR
import Derived.WalkKit
import Derived.ProofKit
import Derived.OpenShut
import Derived.ShutString
import Derived.ChangeOld
import Derived.Below
import Derived.SizedLaws
import Derived.Carry
import Derived.LoopTactic
import Derived.Laws.BitsAllLaws
set_option linter.unusedVariables false
set_option linter.unusedSimpArgs false
namespace Go.Proofs.Ytkcnmlggaggjlaa.Walk
open Go Go.ChangeShapes Go.WideShapes Go.ChangeAt Go.RowKit Go.Maps Go.Lib Go.Proofs.Ytkcnmlggaggjlaa.Sep Go.Proofs.Ytkcnmlggaggjlaa.Dk Go.Proofs.YtkcnmlggaggjlaaW.PrintWords Go.Proofs.YtkcnmlggaggjlaaW.PrintLast
theorem and_small (x : Int) (m : Nat) (hm : m < 4294967296) : ∃ a : Nat, a ≤ m ∧ bits BinOp.and .i64 x (m : Int) = (a : Int) := by
  refine ⟨(BitVec.ofInt 64 x &&& BitVec.ofInt 64 (m : Int)).toNat, ?_, ?_⟩
  · rw [BitVec.toNat_and]
    refine Nat.le_trans Nat.and_le_right ?_
    rw [BitVec.ofInt_natCast, BitVec.toNat_ofNat]; exact Nat.mod_le _ _
  · show IntKind.i64.wrap ((BitVec.ofInt 64 x &&& BitVec.ofInt 64 (m : Int)).toNat : Int) = _
    have h : (BitVec.ofInt 64 x &&& BitVec.ofInt 64 (m : Int)).toNat ≤ m := by
      rw [BitVec.toNat_and]
      refine Nat.le_trans Nat.and_le_right ?_
      rw [BitVec.ofInt_natCast, BitVec.toNat_ofNat]; exact Nat.mod_le _ _
    rw [IntKind.wrap_i64]; omega
set_option maxHeartbeats 4000000 in
set_option maxRecDepth 100000 in
theorem DiskReads {H : Type} {enc : TypeId × Value → H} (W : World) (base : Nat) (v0 : Value) (d0 : DataW H) (p0 : List MemPlace) (v1 : Value) (d1 : DataW H) (p1 : List MemPlace)
    (h0 : DataW.Trod enc Try.prog W 0 (fun _ => true) true 53 v0 d0 p0) (o0 : Value.okWide Try.prog W .any base 53 v0)
    (h1 : DataW.Trod enc Try.prog W 0 (fun _ => true) true 3 v1 d1 p1) (o1 : Value.okWide Try.prog W .any base 3 v1)
    (hsz : (DataW.weightsEach Try.prog [53, 3] [d0, d1]).all (· ≤ reachBytes) = true) :
    Calls Try.prog 13 #[v0, v1] W fun e w' => e = .returned (.bool true) ∧ Below W.heap.size W w' := by
  obtain ⟨A0, l, c, xs, rfl, hxl, hmax, hxw, hat⟩ := open_nums Try.underlying53 Try.underlying3 (by kernel_rfl) h0 o0
  obtain ⟨y, rfl, rfl, rfl, w1⟩ := open_int Try.underlying3 o1 h1
  clear h0 h1 o0 o1 hsz
  obtain ⟨k, hk, ek⟩ := and_small y 7 (by decide)
  rw [show ((7 : Nat) : Int) = 7 from rfl] at ek
  have HA := awake_ok W
  have hmax : l ≤ 9223372036854775807 := hmax
  go_enter Try.func13, Try.ntmps13
  go_wp2_with (go_at_call 55; refine HA.mono ?_; rintro e w1 ⟨rfl, hb1⟩)
  clear HA
  have HN := on_new 8 hb1 (by decide) (by decide)
  rw [zeros_of 8 512 rfl] at HN
  refine HN.mono ?_
  rintro e w2 ⟨g, rfl, hd2⟩
  clear HN hb1
  have hmm := @run_makeMap Try.prog
  go_wp2
  have hM : Mp (w2.alloc (.map #[] 0)) w2.heap.size 0 (fun _ => 0) := ⟨.map [], World.ownsMap_made w2 _ _ _, fun b _ => ⟨Int.le_refl _, (by decide : (0 : Int) < 256), rfl⟩⟩
  have hR : Rd W (w2.alloc (.map #[] 0)) w2.heap.size g (fun _ => 0) 0 := by
    have hbl : Below w2.heap.size w2 (w2.alloc (.map #[] 0)) := below_alloc (Below.refl w2.heap.size w2) _
    refine ⟨zeros 512, [], (hd2.1.mono (fun i hi h => ⟨h, by omega⟩)).later hbl, zeros_length _, Nat.le_refl _, ?_, bel_of hd2.2 hbl, hd2.2.size, by simp⟩
    intro b hb
    rw [readOf_nil]
    show strOfNums _ = strOfNums _
    congr 1
    have e : ∀ b : Fin 8, sec (zeros 512) b = secNums 0 := by decide +kernel
    exact e ⟨b, hb⟩
  have hlt := hR.mb_lt
  generalize w2.heap.size = mb at hM hR hlt ⊢
  generalize w2.alloc (.map #[] 0) = w3 at hM hR hlt ⊢
  clear hd2 hmm
  go_loopw [8] (fun v8 w' => ∃ (i : Nat) (lv : Nat → Int), v8 = .int .i64 (i : Int) ∧ i ≤ l ∧ i ≤ 100 ∧ Rd W w' mb g lv i ∧ Mp w' mb i lv) (fun v8 _ => 100 - (intOf v8).toNat)
  · exact ⟨0, _, rfl, Nat.zero_le _, Nat.zero_le _, hR, hM⟩
  · obtain ⟨i, lv, rfl, hi, hi2, hR, hM⟩ := hrel
    by_cases hgo : i < l ∧ i < 100
    · obtain ⟨hlt1, hlt2⟩ := hgo
      have c1 : decide ((i : Int) < (l : Int)) = true := decide_eq_true (by omega)
      have c2 : decide ((i : Int) < 100) = true := decide_eq_true (by omega)
      obtain ⟨p, rfl, hpb, hpc⟩ := hat i hlt1
      have x1 : wr.cell? (p.add i) = _ := (hR.bel.cell hpb).trans hpc
      obtain ⟨a, ha, ea⟩ := and_small (xs.getD i 0) 7 (by decide)
      rw [show ((7 : Nat) : Int) = 7 from rfl] at ea
      generalize xs.getD i 0 = z at x1 ea hpc
      have k1 : (i : Int) < (l : Int) := by omega
      have hsec := fun w => sector3_ok (1 + (i : Int)) (by omega) (by omega) w
      have ha8 : a < 8 := by omega
      have hm : i < 1000 := by omega
      have E8 : Aside0 (IntKind.u8.wrap (1 + (i : Int)) = 1 + (i : Int)) := ⟨by rw [IntKind.wrap_u8']; omega⟩
      have HR := Aside0.mk hR
      have HM := Aside0.mk hM
      have HAT := Aside0.mk hat
      clear hR hM hat hxw hpb hpc hxl hlt w1 ha
      go_wp2_with (go_at_call 58; (try rw [E8.out]); refine (hsec wr).mono ?_; rintro e w4 ⟨rfl, hb4⟩)
      have hR4 := HR.out.later hb4
      have hM4 := HM.out.later hb4
      clear hb4 HR HM
      have hC := rd_write hR4 a ha8 (1 + (i : Int)) hm
      clear hR4
      refine hC.mono ?_
      rintro e w5 ⟨rfl, hR5, hmb5⟩
      clear hC
      have hM5 := hM4.keep hmb5
      clear hM4 hmb5
      obtain ⟨w6, hrun, hM6, hg6⟩ := mp_put hM5 hm a ha8 (1 + (i : Int)) (by omega) (by omega)
      have hR6 := hR5.map hg6
      clear hM5 hR5 hg6
      have HR6 := Aside0.mk hR6
      have HM6 := Aside0.mk hM6
      clear hR6 hM6
      go_wp2_with (first | (go_at_call 59; refine (rd_flush HR6.out).mono ?_; rintro e w7 ⟨rfl, hR7, hmb7⟩))
      · have hM7 := HM6.out.keep hmb7
        have hr := rd_read hR7 a ha8
        rw [upd_same] at hr
        have HR7 := Aside0.mk hR7
        have HM7 := Aside0.mk hM7
        clear hR7 hM7
        refine hr.mono ?_
        rintro e w8 ⟨rfl, rfl⟩
        clear hr
        have hN := fun w => num_ok 0 (by decide) (by decide) w
        go_wp2_with (first | (go_at_call 38; refine (hN _).mono ?_; rintro e w9 ⟨rfl, rfl⟩) | (go_at_call 58; (try rw [E8.out]); refine (hsec _).mono ?_; rintro e w9 ⟨rfl, hb9⟩))
        go_roundw
        case measure => clear hsec hN; simp [intOf]; omega
        case rel => exact ⟨i + 1, upd lv a (1 + (i : Int)), rfl, hlt1, hlt2, HR7.out.later hb9, HM7.out.later hb9⟩
      · have hM7 := HM6.out
        have hR7 := HR6.out
        have hr := rd_read hR7 a ha8
        rw [upd_same] at hr
        have HR7 := Aside0.mk hR7
        have HM7 := Aside0.mk hM7
        clear hR7 hM7
        refine hr.mono ?_
        rintro e w8 ⟨rfl, rfl⟩
        clear hr
        have hN := fun w => num_ok 0 (by decide) (by decide) w
        go_wp2_with (first | (go_at_call 38; refine (hN _).mono ?_; rintro e w9 ⟨rfl, rfl⟩) | (go_at_call 58; (try rw [E8.out]); refine (hsec _).mono ?_; rintro e w9 ⟨rfl, hb9⟩))
        go_roundw
        case measure => clear hsec hN; simp [intOf]; omega
        case rel => exact ⟨i + 1, upd lv a (1 + (i : Int)), rfl, hlt1, hlt2, HR7.out.later hb9, HM7.out.later hb9⟩
    · have hc : (¬ i < l ∧ decide ((i : Int) < (l : Int)) = false) ∨ (i < l ∧ ¬ i < 100 ∧ decide ((i : Int) < (l : Int)) = true ∧ decide ((i : Int) < 100) = false) := by
        by_cases h1 : i < l
        · exact .inr ⟨h1, fun h2 => hgo ⟨h1, h2⟩, decide_eq_true (by omega), decide_eq_false (by omega)⟩
        · exact .inl ⟨h1, decide_eq_false (by omega)⟩
      rcases hc with ⟨n1, c1⟩ | ⟨n1, n2, c1, c2⟩
      all_goals
        have HR := Aside0.mk hR
        have HM := Aside0.mk hM
        clear hR hM hat hxw hlt w1 hgo
        go_wp2
        go_loopw [13] (fun v13 w' => ∃ j : Nat, v13 = .int .i64 (j : Int) ∧ j ≤ 8 ∧ Rd W w' mb g lv i ∧ Mp w' mb i lv) (fun v13 _ => 8 - (intOf v13).toNat)
        · exact ⟨0, rfl, Nat.zero_le _, HR.out, HM.out⟩
        · obtain ⟨j, rfl, hj, hR, hM⟩ := hrel
          have hN := fun w => num_ok 0 (by decide) (by decide) w
          by_cases hlt : j < 8
          · have c3 : decide ((j : Int) < 8) = true := decide_eq_true (by omega)
            obtain ⟨r0, r1⟩ := mp_rng hM j hlt
            have hsec := fun w => sector3_ok (lv j) r0 r1 w
            have hl := mp_look hM j hlt
            have HD := Aside0.mk (rd_read hR j hlt)
            have HR2 := Aside0.mk hR
            have HM2 := Aside0.mk hM
            clear hR hM
            go_wp2_with (first | (go_at_call 62; refine HD.out.mono ?_; rintro e w9 ⟨rfl, rfl⟩) | (go_at_call 58; refine (hsec _).mono ?_; rintro e w9 ⟨rfl, hb9⟩))
            go_roundw
            case measure => clear hsec hN; simp [intOf]; omega
            case rel => exact ⟨j + 1, rfl, hlt, HR2.out.later hb9, HM2.out.later hb9⟩
          · have c3 : decide ((j : Int) < 8) = false := decide_eq_false (by omega)
            have HB := Aside0.mk hR.bel
            clear hR hM
            go_wp2_with (go_at_call 38; refine (hN _).mono ?_; rintro e w9 ⟨rfl, rfl⟩)
            go_ret
            exact ⟨rfl, HB.out⟩
end Go.Proofs.Ytkcnmlggaggjlaa.Walk

/- DiskKeeps: what was flushed stays, whatever crashes: the walk, where the lists are no longer than 2^30. Conditions: as in the statements. -/
import Derived.Test.YtikekepiimaccaaDiskM
import Derived.Test.YtikekepiimaccaaRows
import Derived.Test.YtikekepiimaccaaOpenF
import Derived.WalkKit
import Derived.ProofKit
import Derived.OpenShut
import Derived.ShutString
import Derived.ChangeOld
import Derived.Below
import Derived.SizedLaws
import Derived.Carry
import Derived.LoopTactic
import Derived.Laws.BitsAllLaws
import Derived.Deep.RegionHeld3
import Derived.Deep.QuietTactic
import Derived.BigQuiet
import Derived.IntWalk
set_option linter.unusedVariables false
set_option linter.unusedSimpArgs false
namespace Go.Proofs.Ytikekepiimaccaa.Walk
open Go Go.ChangeShapes Go.WideShapes Go.ChangeAt Go.RowKit Go.Maps Go.Lib Go.Proofs.Ytikekepiimaccaa.Sep Go.Proofs.Ytikekepiimaccaa.Dk Go.Proofs.YtikekepiimaccaaW.PrintWords Go.Proofs.YtikekepiimaccaaW.PrintLast
theorem and_small (x : Int) (m : Nat) (hm : m < 4294967296) : ∃ a : Nat, a ≤ m ∧ bits BinOp.and .i64 x (m : Int) = (a : Int) := by
  refine ⟨(BitVec.ofInt 64 x &&& BitVec.ofInt 64 (m : Int)).toNat, ?_, ?_⟩
  · rw [BitVec.toNat_and]
    refine Nat.le_trans Nat.and_le_right ?_
    rw [BitVec.ofInt_natCast, BitVec.toNat_ofNat]; exact Nat.mod_le _ _
  · show IntKind.i64.wrap ((BitVec.ofInt 64 x &&& BitVec.ofInt 64 (m : Int)).toNat : Int) = _
    have h : (BitVec.ofInt 64 x &&& BitVec.ofInt 64 (m : Int)).toNat ≤ m := by
      rw [BitVec.toNat_and]
      refine Nat.le_trans Nat.and_le_right ?_
      rw [BitVec.ofInt_natCast, BitVec.toNat_ofNat]; exact Nat.mod_le _ _
    rw [IntKind.wrap_i64]; omega
theorem u8_rng (x : Int) : 0 ≤ IntKind.u8.wrap x ∧ IntKind.u8.wrap x < 256 := by rw [IntKind.wrap_u8']; omega
set_option maxHeartbeats 4000000 in
set_option maxRecDepth 100000 in
theorem keepsWalk (W : World) (A0 B0 : Option Addr) (l c m k : Nat) (xs ys : List Int) (pick torn cut : Int) (h0 : 0 ≤ pick) (hl : l ≤ 1073741824) (hm : m ≤ 1073741824)
    (hat : ∀ i, i < l → ∃ a, A0 = some a ∧ (a.add i).block < W.heap.size ∧ W.cell? (a.add i) = some (.int .i64 (xs.getD i 0)))
    (hbt : ∀ i, i < m → ∃ a, B0 = some a ∧ (a.add i).block < W.heap.size ∧ W.cell? (a.add i) = some (.int .i64 (ys.getD i 0))) :
    Calls Try.prog 7 #[.slice A0 l c, .slice B0 m k, .agg #[.int .u64 pick, .int .i64 torn, .int .i64 cut]] W fun e w' => e = .returned (.bool true) ∧ Below W.heap.size W w' := by
  have hb0 : Below W.heap.size W (W.alloc (.cells #[.int .u64 pick, .int .i64 torn, .int .i64 cut] 65)) := below_alloc (Below.refl W.heap.size W) _
  have hfa := blk_new W (.cells #[.int .u64 pick, .int .i64 torn, .int .i64 cut] 65)
  have hw0 : (W.alloc (.cells #[.int .u64 pick, .int .i64 torn, .int .i64 cut] 65)).heap.size = W.heap.size + 1 := by simp
  have HA := awake_ok (W.alloc (.cells #[.int .u64 pick, .int .i64 torn, .int .i64 cut] 65))
  go_enter Try.func7, Try.ntmps7
  go_wp2_with (go_at_call 36; refine HA.mono ?_; rintro e w1 ⟨rfl, hb1⟩)
  clear HA
  have hF : W.heap.size < (W.alloc (.cells #[.int .u64 pick, .int .i64 torn, .int .i64 cut] 65)).heap.size := by omega
  generalize W.alloc (.cells #[.int .u64 pick, .int .i64 torn, .int .i64 cut] 65) = w0 at *
  have HN := on_new 16 hb1 (by decide) (by decide)
  rw [zeros_of 16 1024 rfl] at HN
  refine HN.mono ?_
  rintro e w2 ⟨g, rfl, hd2⟩
  clear HN hb1
  have hmm := @run_makeMap Try.prog
  go_wp2
  have hbl : Below w2.heap.size w2 (w2.alloc (.map #[] 0)) := below_alloc (Below.refl w2.heap.size w2) _
  have hM : M8 (w2.alloc (.map #[] 0)) w2.heap.size 0 (fun _ => 0) := ⟨.map [], World.ownsMap_made w2 _ _ _, fun b _ => ⟨Int.le_refl _, (by decide : (0 : Int) < 256), rfl⟩⟩
  have hD0 : Dv w0 w2 g (fun _ => False) (zeros 1024) [] := ⟨hd2.1.mono fun i hi a => ⟨a, fun e => e⟩, hd2.2, fun k e => e.elim⟩
  obtain ⟨ex, hD, hex⟩ : ∃ ex : Nat → Prop, Dv w0 (w2.alloc (.map #[] 0)) g ex (zeros 1024) [] ∧ ex w2.heap.size := ⟨_, hD0.beside hbl (by simp), .inr rfl⟩
  have hmb : w0.heap.size ≤ w2.heap.size := hd2.2.size
  generalize w2.heap.size = mb at hM hmb hex ⊢
  generalize w2.alloc (.map #[] 0) = w3 at hM hD ⊢
  clear hd2 hmm hbl hD0
  go_loopw [10] (fun v10 w' => ∃ (i : Nat) (lv : Nat → Int) (cache : List (Int × ByteArray)), v10 = .int .i64 (i : Int) ∧ i ≤ l ∧ cache.length = i ∧ Dv w0 w' g ex (zeros 1024) cache ∧ M8 w' mb i lv ∧ ∀ b, b < 16 → readOf (zeros 1024) cache b = secStr (lv b)) (fun v10 _ => l - (intOf v10).toNat)
  · refine ⟨0, _, [], rfl, Nat.zero_le _, rfl, hD, hM, ?_⟩
    intro b hb
    rw [readOf_nil]
    show strOfNums _ = strOfNums _
    congr 1
    have e : ∀ b : Fin 16, sec (zeros 1024) b = secNums 0 := by decide +kernel
    exact e ⟨b, hb⟩
  · obtain ⟨i, lv, cache, rfl, hi, hcl, hD, hM, hrd⟩ := hrel
    by_cases hlt : i < l
    · have c1 : decide ((i : Int) < (l : Int)) = true := decide_eq_true (by omega)
      obtain ⟨p, rfl, hpb, hpc⟩ := hat i hlt
      have x1 : wr.cell? (p.add i) = some (.int .i64 (xs.getD i 0)) := ((hD.bel.cell (by omega)).trans (hb0.cell hpb)).trans hpc
      obtain ⟨a, ha, ea⟩ := and_small (xs.getD i 0) 15 (by decide)
      rw [show ((15 : Nat) : Int) = 15 from rfl] at ea
      generalize xs.getD i 0 = z at x1 ea hpc
      obtain ⟨cc, hcc, ec⟩ : ∃ cc : Int, (0 ≤ cc ∧ cc < 256) ∧ cc = 1 + (i : Int) % 100 := ⟨_, by omega, rfl⟩
      have hsec := fun w => sector3_ok (1 + (i : Int) % 100) (by omega) (by omega) w
      have h16 : a < (zeros 1024).length / 64 := by rw [zeros_length]; omega
      have hmm : cache.length < 1099511627776 := by omega
      have k1 : (i : Int) < (l : Int) := by omega
      have HD := Aside0.mk hD
      have HM := Aside0.mk hM
      have HR := Aside0.mk hrd
      clear hD hM hrd hpb hpc hat hbt ec
      go_wp2_with (go_at_call 39; refine (hsec wr).mono ?_; rintro e w4 ⟨rfl, hb4⟩)
      have hD4 := HD.out.later hb4
      have hM4 := HM.out.later hb4
      have hC := dv_write hD4 a h16 (secStr (1 + (i : Int) % 100)) (secStr_size _) hmm
      clear hD4
      refine hC.mono ?_
      rintro e w5 ⟨rfl, hD5, hk5⟩
      clear hC
      have hM5 := hM4.keep (hk5 mb hex)
      clear hM4 hk5
      obtain ⟨w6, hrun, hM6, hg6⟩ := m8_put hM5 (by omega) a (by omega) (1 + (i : Int) % 100) (by omega) (by omega)
      have HD6 := Aside0.mk (hD5.map hex hmb hg6)
      have HM6 := Aside0.mk hM6
      clear hM5 hD5 hg6 hM6
      go_wp2
      go_roundw
      case measure => clear hsec; simp [intOf]; omega
      case rel =>
        refine ⟨i + 1, _, _, rfl, hlt, by simp [hcl], HD6.out, HM6.out, ?_⟩
        intro b hb
        rw [readOf_snoc]
        unfold upd
        by_cases e : a = b
        · rw [if_pos e, if_pos e]
        · rw [if_neg e, if_neg e, HR.out b hb]
    · have c1 : decide ((i : Int) < (l : Int)) = false := decide_eq_false (by omega)
      obtain rfl : l = i := by omega
      clear hat
      have hq := dv_flush hD
      have hfr := flush_reads cache (zeros 1024) hD.ats
      have hfl := flushed_length cache (zeros 1024) hD.ats
      rw [zeros_length] at hfl
      have hrd2 : ∀ b, b < 16 → readOf (flushed cache (zeros 1024)) [] b = secStr (lv b) := fun b hb => (hfr b).trans (hrd b hb)
      clear hfr hrd
      generalize flushed cache (zeros 1024) = img at hq hfl hrd2
      have HM := Aside0.mk hM
      clear hM hD
      go_wp2_with (go_at_call 40; refine hq.mono ?_; rintro e w4 ⟨rfl, hD4, hk4⟩)
      clear hq
      have hM4 := HM.out.keep (hk4 mb hex)
      clear HM hk4
      have hi4 := dv_image hD4
      have HI := Lib.hid (show (strOfNums img).size = 1024 by rw [strOfNums_size, hfl])
      refine hi4.mono ?_
      rintro e w5 ⟨rfl, rfl⟩
      clear hi4
      have hmm := @run_makeMap Try.prog
      have hbl : Below w4.heap.size w4 (w4.alloc (.map #[] 0)) := below_alloc (Below.refl w4.heap.size w4) _
      have hT0 : M1 (w4.alloc (.map #[] 0)) w4.heap.size 0 (fun _ => false) := ⟨.map [], World.ownsMap_made w4 _ _ _, fun b _ => rfl⟩
      obtain ⟨ex2, hD5, hex2, hex3⟩ : ∃ ex2 : Nat → Prop, Dv w0 (w4.alloc (.map #[] 0)) g ex2 img [] ∧ ex2 w4.heap.size ∧ ex2 mb := ⟨_, hD4.beside hbl (by simp), .inr rfl, .inl hex⟩
      have hM5 := hM4.later hbl
      have htb : w0.heap.size ≤ w4.heap.size := hD4.bel.size
      have hne : mb ≠ w4.heap.size := Nat.ne_of_lt (hD4.2.2 mb hex)
      go_wp2
      have hbw4 := Nat.ne_of_lt (Nat.lt_of_lt_of_le hF hD4.bel.size)
      generalize w4.heap.size = tb at hT0 hex2 htb hne ⊢
      generalize w4.alloc (.map #[] 0) = w5 at hT0 hD5 hM5 ⊢
      clear hD4 hM4 hmm hbl c1 hi
      go_loopw [14] (fun v14 w' => ∃ (i : Nat) (tv : Nat → Bool) (cache : List (Int × ByteArray)), v14 = .int .i64 (i : Int) ∧ i ≤ m ∧ cache.length = i ∧ Dv w0 w' g ex2 img cache ∧ M8 w' mb l lv ∧ M1 w' tb i tv ∧ ∀ p ∈ cache, ∃ b : Nat, b < 16 ∧ p.1 = (b : Int) ∧ tv b = true) (fun v14 _ => m - (intOf v14).toNat)
      · exact ⟨0, _, [], rfl, Nat.zero_le _, rfl, hD5, hM5, hT0, by simp⟩
      · obtain ⟨i, tv, cache, rfl, hi, hcl, hD, hM, hT, htv⟩ := hrel
        by_cases hlt : i < m
        · have c1 : decide ((i : Int) < (m : Int)) = true := decide_eq_true (by omega)
          obtain ⟨p, rfl, hpb, hpc⟩ := hbt i hlt
          have x1 : ∀ w' : World, Below w0.heap.size w0 w' → w'.cell? (p.add i) = some (.int .i64 (ys.getD i 0)) := fun w' hb => ((hb.cell (by omega)).trans (hb0.cell hpb)).trans hpc
          obtain ⟨a, ha, ea⟩ := and_small (ys.getD i 0) 15 (by decide)
          rw [show ((15 : Nat) : Int) = 15 from rfl] at ea
          generalize ys.getD i 0 = z at x1 ea hpc
          have h16 : a < img.length / 64 := by rw [hfl]; omega
          have hmm : cache.length < 1099511627776 := by omega
          have k1 : (i : Int) < (m : Int) := by omega
          have HX := Aside0.mk x1
          have HM := Aside0.mk hM
          have HT := Aside0.mk hT
          have HTV := Aside0.mk htv
          have HBT := Aside0.mk hbt
          clear hM hT htv hpb hpc hbt hD5 hM5 hT0
          go_wp2
          go_region_held3 (fun w' => w'.cell? (p.add i) = some (.int .i64 z)) (first | exact x1 _ hD.drew.bel | exact x1 _ hxs.bel | exact x1 _ hx.bel | assumption) (first | (go_at_call 39; refine (sector3_ok _ (by first | exact (u8_rng _).1 | omega) (by first | exact (u8_rng _).2 | omega) _).mono ?_; rintro e w6 ⟨rfl, hb6⟩; have hxs := hD.drew.later hb6) | (go_at_call 38; refine (dv_write hxs a h16 _ (secStr_size _) hmm).mono ?_; rintro e w7 ⟨rfl, hx, hk7⟩))
          have hM7 := ((HM.out.keep (w' := wr.drew) rfl).later hb6).keep (hk7 mb hex3)
          have hT7 := ((HT.out.keep (w' := wr.drew) rfl).later hb6).keep (hk7 tb hex2)
          obtain ⟨w8, hrun, hT8, hg8⟩ := m1_put hT7 (by omega) a (by omega)
          have hM8 := hM7.keep (hg8.block mb (hx.2.2 mb hex3) (fun e => hne (Option.some.inj e)))
          have HD8 := Aside0.mk (hx.map hex2 htb hg8)
          have HM8 := Aside0.mk hM8
          have HT8 := Aside0.mk hT8
          clear hM7 hT7 hT8 hg8 hM8 hk7 hb6 hxs hD x1
          go_wp2
          go_roundw
          case measure => simp [intOf]; omega
          case rel =>
            refine ⟨i + 1, _, _, rfl, hlt, by simp [hcl], HD8.out, HM8.out, HT8.out, ?_⟩
            intro q hq
            rcases List.mem_append.1 hq with hq | hq
            · obtain ⟨b, hb1, hb2, hb3⟩ := HTV.out q hq
              exact ⟨b, hb1, hb2, by show (if a = b then true else tv b) = true; rw [hb3]; split <;> rfl⟩
            · obtain rfl := List.mem_singleton.1 hq
              exact ⟨a, by omega, rfl, if_pos rfl⟩
        · have c1 : decide ((i : Int) < (m : Int)) = false := decide_eq_false (by omega)
          have hf5 := (hD.bel.block _ hF).trans hfa
          have f0 := (cell_of hf5 0).trans rfl
          have f1 := (cell_of hf5 1).trans rfl
          have f2 := (cell_of hf5 2).trans rfl
          have hq := dv_crash hD pick torn cut h0
          have hun : ∀ b, b < 16 → tv b = false → sec (imgAt pick torn cut cache img cache.length) b = sec img b := fun b _ ht => sec_untouched pick torn cut cache img hD.ats b (fun p hp e => by obtain ⟨b', _, e2, e3⟩ := htv p hp; have e4 : b' = b := (by omega); subst e4; rw [ht] at e3; cases e3) _
          have hl2 := imgAt_length pick torn cut cache img hD.ats cache.length
          rw [hfl] at hl2
          generalize imgAt pick torn cut cache img cache.length = img2 at hq hun hl2
          have HM := Aside0.mk hM
          have HT := Aside0.mk hT
          clear hf5 hM hT hD hbt htv hM5 hT0 hD5 hfa
          go_wp2_with (go_at_call 42; refine hq.mono ?_; rintro e w6 ⟨rfl, hD6, hk6⟩)
          clear hq f0 f1 f2
          have hM6 := HM.out.keep (hk6 mb hex3)
          have hT6 := HT.out.keep (hk6 tb hex2)
          clear hk6
          have hi6 := dv_image hD6
          have HI2 := Lib.hid (show (strOfNums img2).size = 1024 by rw [strOfNums_size, hl2])
          refine hi6.mono ?_
          rintro e w7 ⟨rfl, rfl⟩
          clear hi6
          have p1 : ∀ j : Nat, j < 16 → (strOfNums img).extract (j * 64) (j * 64 + 64) = secStr (lv j) := fun j hj => by
            rw [image_part img j (by omega), ← hrd2 j hj]; rfl
          have p2 : ∀ j : Nat, j < 16 → tv j = false → (strOfNums img2).extract (j * 64) (j * 64 + 64) = secStr (lv j) := fun j hj ht => by
            rw [image_part img2 j (by omega), hun j hj ht, ← hrd2 j hj]; rfl
          have q1 := HI.out
          have q2 := HI2.out
          generalize strOfNums img = s1 at p1 q1 ⊢
          generalize strOfNums img2 = s2 at p2 q2 ⊢
          have P1 := Aside0.mk p1
          have P2 := Aside0.mk p2
          have HM := Aside0.mk hM6
          have HT := Aside0.mk hT6
          have hN := fun w => num_ok 0 (by decide) (by decide) w
          clear p1 p2 hun hl2 hrd2 hfl hM6 hT6 HI HI2
          go_wp2_with (first | (go_at_call 28; refine (hN _).mono ?_; rintro e w9 ⟨rfl, rfl⟩) | (go_at_call 43; refine (writes_empty hD6.1).mono ?_; rintro e w9 ⟨⟨A9, k9, rfl⟩, hb9⟩))
          have hB0 := bel_of hD6.bel hb9
          have hM0 := HM.out.later hb9
          have hT0 := HT.out.later hb9
          clear HM HT hb9
          go_loopw [16] (fun v16 w' => ∃ j : Nat, v16 = .int .i64 (j : Int) ∧ j ≤ 16 ∧ Below w0.heap.size w0 w' ∧ M8 w' mb l lv ∧ M1 w' tb i tv) (fun v16 _ => 16 - (intOf v16).toNat)
          · exact ⟨0, rfl, Nat.zero_le _, hB0, hM0, hT0⟩
          · obtain ⟨j, rfl, hj, hB, hM, hT⟩ := hrel
            clear hB0 hM0 hT0 hD6
            by_cases hlt : j < 16
            · have c3 : decide ((j : Int) < 16) = true := decide_eq_true (by omega)
              obtain ⟨r0, r1⟩ : 0 ≤ lv j ∧ lv j < 256 := by
                obtain ⟨D, _, hD⟩ := hM
                exact ⟨(hD j hlt).1, (hD j hlt).2.1⟩
              have hsec := fun w => sector3_ok (lv j) r0 r1 w
              have hl8 := m8_look hM j hlt
              have hl1 := m1_look hT j hlt
              have HM2 := Aside0.mk hM
              have HT2 := Aside0.mk hT
              have HB2 := Aside0.mk hB
              have e1 : IntKind.i64.wrap ((j : Int) * 64) = (j : Int) * 64 := IntWalk.i64_in _ (by omega)
              have e2 : IntKind.i64.wrap ((j : Int) + 1) = (j : Int) + 1 := IntWalk.i64_in _ (by omega)
              have e3 : IntKind.i64.wrap (((j : Int) + 1) * 64) = (((j : Int) + 1) * 64) := IntWalk.i64_in _ (by omega)
              have k1 : (0 : Int) ≤ (j : Int) * 64 := by omega
              have k2 : (j : Int) * 64 ≤ ((j : Int) + 1) * 64 := by omega
              have k3 : ((j : Int) + 1) * 64 ≤ 1024 := by omega
              have k4 : ((j : Int) * 64).toNat = j * 64 := by omega
              have k5 : (((j : Int) + 1) * 64).toNat = j * 64 + 64 := by omega
              clear hM hT hB
              go_wp2
              go_quiet (fail)
              have p1 := P1.out j hlt
              have p2 := P2.out j hlt
              have hM3 := HM2.out.keep (w' := wr.drewN nq) rfl
              have hT3 := HT2.out.keep (w' := wr.drewN nq) rfl
              have hB3 : Below w0.heap.size w0 (wr.drewN nq) := ⟨HB2.out.os, HB2.out.tape, HB2.out.output, HB2.out.size, HB2.out.block⟩
              rw [p1]
              clear hl8 hl1 HM2 HT2 HB2 p1 e1 e2 e3 k1 k2 k3 k4 k5
              generalize s2.extract (j * 64) (j * 64 + 64) = y at p2 ⊢
              generalize wr.drewN nq = wd at hM3 hT3 hB3 ⊢
              have hl8 := m8_look hM3 j hlt
              have HM2 := Aside0.mk hM3
              have HT2 := Aside0.mk hT3
              have HB2 := Aside0.mk hB3
              clear hM3 hT3 hB3
              cases htv : tv j with
              | true =>
                have HV := Aside0.mk htv
                clear htv p2
                go_wp2_with (go_at_call 39; refine (hsec _).mono ?_; rintro e w9 ⟨rfl, hb9⟩; have hl1 := m1_look (HT2.out.later hb9) j hlt; rw [HV.out] at hl1)
                go_roundw
                case measure => clear hsec hN; simp [intOf]; omega
                case rel => exact ⟨j + 1, rfl, hlt, bel_of HB2.out hb9, HM2.out.later hb9, HT2.out.later hb9⟩
              | false =>
                obtain rfl := p2 htv
                have HV := Aside0.mk htv
                clear htv p2
                go_wp2_with (go_at_call 39; refine (hsec _).mono ?_; rintro e w9 ⟨rfl, hb9⟩; have hl1 := m1_look (HT2.out.later hb9) j hlt; rw [HV.out] at hl1)
                go_roundw
                case measure => clear hsec hN; simp [intOf]; omega
                case rel => exact ⟨j + 1, rfl, hlt, bel_of HB2.out hb9, HM2.out.later hb9, HT2.out.later hb9⟩
            · have c3 : decide ((j : Int) < 16) = false := decide_eq_false (by omega)
              have HB2 := Aside0.mk hB
              clear hM hT hB hN
              go_wp2
              go_ret
              exact ⟨rfl, hb0.trans (HB2.out.mono (Nat.le_of_lt hF))⟩
theorem bulk_lits {H : Type} (k : IntKind) : ∀ xs : List Int, xs.length ≤ Rows.uptoBulkAll (lits (H := H) k xs)
  | [] => Nat.zero_le _
  | x :: xs => by
    have := bulk_lits (H := H) k xs
    show xs.length + 1 ≤ Rows.uptoBulk (.lit (.int k x)) + Rows.uptoBulkAll (lits (H := H) k xs)
    unfold Rows.uptoBulk
    omega
theorem open_nums_bulk {H : Type} {enc : TypeId × Value → H} {P : Program} {W : World} {base : Nat} {t e : TypeId} {v : Value} {d : DataW H} {p : List MemPlace} (ht : P.underlying t = some (.slice e)) (he : P.underlying e = some (.int .i64)) (hc : P.cellsOf e = 1)
    (h : DataW.Trod enc P W 0 (fun _ => true) true t v d p) (o : Value.okWide P W .any base t v) :
    ∃ (A : Option Addr) (l c : Nat) (xs : List Int), v = .slice A l c ∧ l ≤ Rows.uptoBulk d ∧ ∀ i, i < l → ∃ a, A = some a ∧ (a.add i).block < W.heap.size ∧ W.cell? (a.add i) = some (.int .i64 (xs.getD i 0)) := by
  obtain ⟨A, l, c, rfl⟩ := okWide_slice ht o
  obtain ⟨fuel, hf⟩ := h
  rcases open_ints ht he hc hf with ⟨hcs, _⟩ | ⟨a, len, cap, zs, hcs, _, hl, hm, hz, hx, hcell, hw⟩
  · simp [Value.cells] at hcs
    obtain ⟨rfl, rfl, rfl⟩ := hcs
    exact ⟨none, 0, 0, [], rfl, Nat.zero_le _, fun i hi => by omega⟩
  · simp [Value.cells] at hcs
    obtain ⟨rfl, rfl, rfl⟩ := hcs
    have hz' : zs.length = c := by simpa using hz
    have hd : d = .slice (lits .i64 (zs.take l)) (lits .i64 (zs.drop l)) := congrArg Prod.fst hx
    refine ⟨some a, l, c, zs.take l, rfl, ?_, fun i hi => ⟨a, rfl, ?_, ?_⟩⟩
    · rw [hd]
      have := bulk_lits (H := H) .i64 (zs.take l)
      rw [List.length_take] at this
      unfold Rows.uptoBulk
      omega
    · exact World.block_lt_of_cell? W _ (hcell i (by omega))
    · rw [hcell i (by omega)]
      congr 2
      simp [List.getD_eq_getElem?_getD, List.getElem?_take, hi]
set_option maxRecDepth 100000 in
theorem DiskKeeps {H : Type} {enc : TypeId × Value → H} (W : World) (base : Nat) (v0 : Value) (d0 : DataW H) (p0 : List MemPlace) (v1 : Value) (d1 : DataW H) (p1 : List MemPlace) (v2 : Value) (d2 : DataW H) (p2 : List MemPlace)
    (h0 : DataW.Trod enc Try.prog W 0 (fun _ => true) true 69 v0 d0 p0) (o0 : Value.okWide Try.prog W .any base 69 v0)
    (h1 : DataW.Trod enc Try.prog W 0 (fun _ => true) true 69 v1 d1 p1) (o1 : Value.okWide Try.prog W .any base 69 v1)
    (h2 : DataW.Trod enc Try.prog W 0 (fun _ => true) true 65 v2 d2 p2) (o2 : Value.okWide Try.prog W .any base 65 v2)
    (hsz : Rows.uptoBulkAll [d0, d1, d2] ≤ 1048576) :
    Calls Try.prog 7 #[v0, v1, v2] W fun e w' => e = .returned (.bool true) ∧ Below W.heap.size W w' := by
  obtain ⟨A0, l, c, xs, rfl, hl, hat⟩ := open_nums_bulk Try.underlying69 Try.underlying3 (by kernel_rfl) h0 o0
  obtain ⟨B0, m, k, ys, rfl, hm, hbt⟩ := open_nums_bulk Try.underlying69 Try.underlying3 (by kernel_rfl) h1 o1
  obtain ⟨pick, torn, cut, rfl, w0, w1, w2⟩ := Open.open65 o2 h2
  have bp := bounds_u64 w0
  have hb : Rows.uptoBulk d0 + (Rows.uptoBulk d1 + (Rows.uptoBulk d2 + 0)) ≤ 1048576 := hsz
  exact keepsWalk W A0 B0 l c m k xs ys pick torn cut (by omega) (by omega) (by omega) hat hbt
end Go.Proofs.Ytikekepiimaccaa.Walk

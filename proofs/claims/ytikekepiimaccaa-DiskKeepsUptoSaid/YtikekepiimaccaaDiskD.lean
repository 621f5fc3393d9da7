/- Package disk: Flush; the law's sector, Num, awake. Conditions: as in the statements. -/
import Derived.Test.YtikekepiimaccaaDiskC
import Derived.LoopTactic
set_option linter.unusedVariables false
set_option linter.unusedSimpArgs false
namespace Go.Proofs.Ytikekepiimaccaa.Dk
open Go Go.RowKit Go.Maps Go.Lib Go.ChangeMaps Go.Proofs.Ytikekepiimaccaa.Sep Go.Proofs.YtikekepiimaccaaW.PrintWords Go.Proofs.YtikekepiimaccaaW.PrintLast
/-- the image when all came -/
def flushed (cache : List (Int × ByteArray)) (img : List Int) : List Int := imgAt 18446744073709551615 (-1) 0 cache img cache.length
set_option maxRecDepth 100000 in
theorem flush_ok {g : Nat} {fp : Nat → Prop} {img : List Int} {cache : List (Int × ByteArray)} {w : World} (h : IsDisk w g fp img cache) :
    Calls Try.prog 40 #[.pointer (some ⟨g, 0, none⟩)] w fun e w' => e = .returned (.int .i64 0) ∧ IsDisk w' g fp (flushed cache img) [] ∧ Turned fp w w' := by
  have HC := Lib.hid (crash_ok h 18446744073709551615 (-1) 0 (by decide))
  clear h
  go_enter Try.func40, Try.ntmps40
  go_wp2_with (go_at_call 42; refine HC.out.mono ?_; rintro e w' ⟨rfl, hb⟩)
  go_ret
  exact ⟨rfl, hb⟩
set_option maxRecDepth 100000 in
theorem num_ok (e : Int) (h : (-9223372036854775808) ≤ e) (h2 : e ≤ 9223372036854775807) (w : World) : Calls Try.prog 28 #[.int .i64 e] w fun x w' => x = .returned (.int .i64 e) ∧ w = w' := by
  go_enter Try.func28, Try.ntmps28
  go_wp2
  go_ret
  exact ⟨rfl, rfl⟩
/-- a sector of one byte -/
def secNums (c : Int) : List Int := List.replicate 64 c
def secStr (c : Int) : ByteArray := strOfNums (secNums c)
theorem secStr_size (c : Int) : (secStr c).size = 64 := by unfold secStr secNums; rw [strOfNums_size]; simp
theorem rep_at (c : Int) : ∀ n q : Nat, q < n → ((List.replicate n c ++ List.replicate (n - n) (0 : Int)).map (Value.int .u8)).toArray[q]? = some (.int .u8 ((List.replicate n c).getD q 0)) := by
  intro n q h
  simp [List.getElem?_append, List.getElem?_replicate, List.getD_eq_getElem?_getD, h]
set_option maxRecDepth 100000 in
theorem sector3_ok (c : Int) (h0 : 0 ≤ c) (h1 : c < 256) (w : World) :
    Calls Try.prog 39 #[.int .u8 c] w fun e w' => e = .returned (.string (secStr c)) ∧ Below w.heap.size w w' := by
  have hmk := print_make (P := Try.prog) 148 5 .u8 1 Try.underlying148 infoU8 (by decide) 64 (by decide)
  rw [show ((64 : Nat) : Int) = 64 from rfl] at hmk
  go_enter Try.func39, Try.ntmps39
  go_wp2
  have hb0 : (w.alloc (.cells (madeCells #[Value.int .u8 0] 64) 5)).heap[w.heap.size]? = some (.cells ((List.replicate 0 c ++ List.replicate 64 0).map (Value.int .u8)).toArray 5 (0, 0)) := by
    refine (blk_new w _).trans ?_
    rw [made_is]; rfl
  have bel0 : Below w.heap.size w (w.alloc (.cells (madeCells #[Value.int .u8 0] 64) 5)) := below_alloc (Below.refl w.heap.size w) _
  clear hmk
  generalize w.alloc (.cells (madeCells #[Value.int .u8 0] 64) 5) = w1 at hb0 bel0 ⊢
  go_loopw [4] (fun v4 w' => ∃ i : Nat, v4 = .int .i64 (i : Int) ∧ i ≤ 64 ∧ w'.heap[w.heap.size]? = some (.cells ((List.replicate i c ++ List.replicate (64 - i) 0).map (Value.int .u8)).toArray 5 (0, 0)) ∧ Below w.heap.size w w') (fun v4 _ => 64 - (intOf v4).toNat)
  · exact ⟨0, rfl, by omega, hb0, bel0⟩
  · obtain ⟨i, rfl, hi, hb, bel⟩ := hrel
    clear hb0 bel0
    by_cases hlt : i < 64
    · have c1 : decide ((i : Int) < 64) = true := decide_eq_true (by omega)
      have x1 : wr.cell? ⟨w.heap.size, i, none⟩ = some (.int .u8 0) := by
        rw [cell_of hb i]
        simp [List.getElem?_append_right, List.getElem?_replicate, hlt, hi]
      have fz := frozen_of hb i
      have hb2 := block_set hb i (.int .u8 c)
      have k1 : (i : Int) < 64 := by omega
      have e2 : (((List.replicate i c ++ List.replicate (64 - i) 0).map (Value.int .u8)).toArray.setIfInBounds i (.int .u8 c)) = ((List.replicate (i + 1) c ++ List.replicate (64 - (i + 1)) 0).map (Value.int .u8)).toArray := by
        apply Array.ext'
        rw [Array.toList_setIfInBounds]
        apply List.ext_getElem?
        intro j
        simp only [List.getElem?_set, List.getElem?_map, List.getElem?_append, List.getElem?_replicate, List.length_map, List.length_append, List.length_replicate]
        by_cases e : i = j
        · subst e
          rw [if_pos rfl, if_pos (by omega), if_pos (by omega), if_pos (by omega)]; rfl
        · rw [if_neg e]
          by_cases e2 : j < i
          · simp [e2, Nat.lt_succ_of_lt e2]
          · have h1 : ¬ j < i + 1 := by omega
            rw [if_neg e2, if_neg h1]
            by_cases e3 : j < 64
            · rw [if_pos (by omega), if_pos (by omega)]
            · rw [if_neg (by omega), if_neg (by omega)]
      rw [e2] at hb2
      have HB := Aside0.mk hb2
      have HL := Aside0.mk hlt
      have HBel := Aside0.mk bel
      clear hb hb2 e2 hlt bel
      go_wp2
      go_roundw
      case measure => have := HL.out; simp [intOf]; omega
      case rel => exact ⟨i + 1, rfl, HL.out, HB.out, HBel.out.setCell (Nat.le_refl _) _⟩
    · obtain rfl : i = 64 := by omega
      have c1 : decide (((64 : Nat) : Int) < 64) = false := by decide
      have hs : (convert 148 9 (.slice (some ⟨w.heap.size, 0, none⟩) 64 64)).run Try.prog wr = .ok (.string (secStr c)) wr := by
        refine string_of_reads (c := 64) Try.underlying148 Try.underlying5 Try.underlying9 ?_
        refine ⟨by simp [secNums], by decide, fun _ => ⟨_, rfl, fun q hq => ?_⟩⟩
        have e : (⟨w.heap.size, 0, none⟩ : Addr).add q = ⟨w.heap.size, q, none⟩ := by unfold Addr.add; split <;> simp_all
        rw [e, cell_of hb q]
        exact rep_at c 64 q hq
      go_wp2
      go_ret
      exact ⟨rfl, bel⟩
theorem IsDisk.mono {w : World} {g : Nat} {fp fp' : Nat → Prop} {img : List Int} {cache : List (Int × ByteArray)} (h : IsDisk w g fp img cache) (hf : ∀ i, i < w.heap.size → fp i → fp' i) : IsDisk w g fp' img cache := by
  obtain ⟨ib, bm, cv, n, D, h, hff⟩ := h
  exact ⟨ib, bm, cv, n, D, h, fun i hi => hf i (h.lt i hi) (hff i hi)⟩
theorem IsDisk.later {w w' : World} {g : Nat} {fp : Nat → Prop} {img : List Int} {cache : List (Int × ByteArray)} (h : IsDisk w g fp img cache) (hb : Below w.heap.size w w') : IsDisk w' g fp img cache :=
  h.keep (Turned.of_below hb fun _ => False) fun _ _ _ h => h
/-- a device that the call itself made -/
def On (W w : World) (g : Nat) (img : List Int) (cache : List (Int × ByteArray)) : Prop := IsDisk w g (fun i => W.heap.size ≤ i) img cache ∧ Below W.heap.size W w
theorem On.later {W w w' : World} {g : Nat} {img : List Int} {cache : List (Int × ByteArray)} (h : On W w g img cache) (hb : Below w.heap.size w w') : On W w' g img cache :=
  ⟨h.1.later hb, h.2.trans ((Turned.of_below hb fun _ => False).below h.2.size (fun _ h => h.elim))⟩
theorem on_new (n : Int) {W w : World} (hW : Below W.heap.size W w) (h1 : 1 ≤ n) (h2 : n ≤ 1048576) :
    Calls Try.prog 34 #[.int .i64 n] w fun e w' => ∃ g, e = .returned (.tuple #[.pointer (some ⟨g, 0, none⟩), .int .i64 0]) ∧ On W w' g (List.replicate (64 * n.toNat) 0) [] := by
  refine (new_ok n w h1 h2).mono ?_
  rintro e w' ⟨g, rfl, hd, hb⟩
  exact ⟨g, rfl, hd.mono fun i _ hi => Nat.le_trans hW.size hi, hW.trans ((Turned.of_below hb fun _ => False).below hW.size (fun _ h => h.elim))⟩
theorem on_write {W w : World} {g : Nat} {img : List Int} {cache : List (Int × ByteArray)} (h : On W w g img cache) (a : Nat) (h1 : a < img.length / 64) (s : ByteArray) (hs : s.size = 64) (hmany : cache.length < 1099511627776) :
    Calls Try.prog 38 #[.pointer (some ⟨g, 0, none⟩), .int .i64 (a : Int), .string s] w fun e w' => e = .returned (.int .i64 0) ∧ On W w' g img (cache ++ [((a : Int), s)]) := by
  refine (write_ok h.1 a h1 s hs hmany).mono ?_
  rintro e w' ⟨rfl, hd, ht⟩
  exact ⟨rfl, hd.mono fun i _ hi => hi.elim id (fun h2 => Nat.le_trans h.2.size h2), h.2.trans (ht.below h.2.size fun _ h => h)⟩
theorem on_flush {W w : World} {g : Nat} {img : List Int} {cache : List (Int × ByteArray)} (h : On W w g img cache) :
    Calls Try.prog 40 #[.pointer (some ⟨g, 0, none⟩)] w fun e w' => e = .returned (.int .i64 0) ∧ On W w' g (flushed cache img) [] := by
  refine (flush_ok h.1).mono ?_
  rintro e w' ⟨rfl, hd, ht⟩
  exact ⟨rfl, hd, h.2.trans (ht.below h.2.size fun _ h => h)⟩
theorem on_crash {W w : World} {g : Nat} {img : List Int} {cache : List (Int × ByteArray)} (h : On W w g img cache) (pick torn cut : Int) (h0 : 0 ≤ pick) :
    Calls Try.prog 42 #[.pointer (some ⟨g, 0, none⟩), .agg #[.int .u64 pick, .int .i64 torn, .int .i64 cut]] w fun e w' => e = .returned (.int .i64 0) ∧ On W w' g (imgAt pick torn cut cache img cache.length) [] := by
  refine (crash_ok h.1 pick torn cut h0).mono ?_
  rintro e w' ⟨rfl, hd, ht⟩
  exact ⟨rfl, hd, h.2.trans (ht.below h.2.size fun _ h => h)⟩
def zeros (n : Nat) : List Int := List.replicate n 0
theorem zeros_length (n : Nat) : (zeros n).length = n := by simp [zeros]
theorem zeros_of (k : Int) (n : Nat) (h : 64 * k.toNat = n) : List.replicate (64 * k.toNat) (0 : Int) = zeros n := by rw [h]; rfl
theorem aw1 : readOf (zeros 128) [((0 : Nat), secStr 97)] 0 = secStr 97 := by
  have : lastIdx [(((0 : Nat) : Int), secStr 97)] ((0 : Nat) : Int) = some 0 := by simp [lastIdx, List.range_succ]
  unfold readOf
  rw [this]; rfl
def torn2 : List Int := imgAt 0 0 2 [(((0 : Nat) : Int), secStr 97)] (zeros 128) 1
theorem torn2_length : torn2.length = 128 := by decide +kernel
theorem torn2_eq : (readOf torn2 [] 0).size = 64 ∧ (readOf torn2 [] 0).extract 0 3 = ⟨#[97, 97, 0]⟩ := by decide +kernel
set_option maxHeartbeats 1000000 in
set_option maxRecDepth 100000 in
theorem awake_ok (w : World) : Calls Try.prog 36 #[] w fun e w' => e = .returned (.bool true) ∧ Below w.heap.size w w' := by
  have HN := on_new 2 (Below.refl w.heap.size w) (by decide) (by decide)
  rw [zeros_of 2 128 rfl] at HN
  go_enter Try.func36, Try.ntmps36
  go_wp2_with (go_at_call 34; refine HN.mono ?_; rintro e w1 ⟨g, rfl, hd1⟩)
  clear HN
  refine (sector3_ok 97 (by decide) (by decide) w1).mono ?_
  rintro e w2 ⟨rfl, hb⟩
  have hd2 := hd1.later hb
  clear hd1 hb
  have h128 : 0 < (zeros 128).length / 64 := by rw [zeros_length]; decide
  go_wp2_with (go_at_call 38; refine (on_write hd2 0 h128 _ (secStr_size 97) (by decide)).mono ?_; rintro e w3 ⟨rfl, hd3⟩)
  clear hd2
  have hr := read_ok hd3.1 0 h128
  rw [List.nil_append, aw1] at hr
  rw [List.nil_append] at hd3
  refine hr.mono ?_
  rintro e w4 ⟨rfl, rfl⟩
  have hc := on_crash hd3 0 0 2 (by decide)
  change Calls _ _ _ _ fun e w' => e = .returned (.int .i64 0) ∧ On w w' g torn2 [] at hc
  have h128 : 0 < torn2.length / 64 := by rw [torn2_length]; decide
  go_wp2_with (go_at_call 42; refine hc.mono ?_; rintro e w5 ⟨rfl, hd5⟩)
  clear hd3 hr hc
  have hr := read_ok hd5.1 0 h128
  obtain ⟨ht1, ht2⟩ := torn2_eq
  generalize readOf torn2 [] 0 = t at hr ht1 ht2
  refine hr.mono ?_
  rintro e w6 ⟨rfl, rfl⟩
  clear hr
  have hN := fun w => num_ok 0 (by decide) (by decide) w
  go_wp2_with (first | (go_at_call 28; refine (hN _).mono ?_; rintro e w6 ⟨rfl, rfl⟩) | (go_at_call 39; refine (sector3_ok 97 (by decide) (by decide) _).mono ?_; rintro e w7 ⟨rfl, hb7⟩))
  have hi := image_ok (hd5.later hb7).1
  have hil : (strOfNums torn2).size = 128 := by rw [strOfNums_size, torn2_length]
  generalize strOfNums torn2 = u at hi hil
  refine hi.mono ?_
  rintro e w8 ⟨rfl, rfl⟩
  clear hi
  go_wp2
  go_ret
  exact ⟨rfl, (hd5.later hb7).2⟩
end Go.Proofs.Ytikekepiimaccaa.Dk

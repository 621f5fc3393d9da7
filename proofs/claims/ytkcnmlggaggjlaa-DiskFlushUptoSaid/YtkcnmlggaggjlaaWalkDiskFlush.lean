/- DiskFlush: a crash of which all writes stay is a flush: the walk, where the list is no longer than 2^30. Conditions: as in the statements. -/
import Derived.Test.YtkcnmlggaggjlaaDiskF
import Derived.Test.YtkcnmlggaggjlaaRows
import Derived.Test.YtkcnmlggaggjlaaOpenF
import Derived.WalkKit
import Derived.ProofKit
import Derived.OpenShut
import Derived.ShutString
import Derived.ChangeOld
import Derived.Below
import Derived.SizedLaws
import Derived.Carry
import Derived.LoopTactic
import Derived.Laws.BitsAllLaws
import Derived.Deep.RegionHeld3
set_option linter.unusedVariables false
set_option linter.unusedSimpArgs false
namespace Go.Proofs.Ytkcnmlggaggjlaa.Walk
open Go Go.ChangeShapes Go.WideShapes Go.ChangeAt Go.RowKit Go.Maps Go.Lib Go.Proofs.Ytkcnmlggaggjlaa.Sep Go.Proofs.Ytkcnmlggaggjlaa.Dk Go.Proofs.YtkcnmlggaggjlaaW.PrintWords Go.Proofs.YtkcnmlggaggjlaaW.PrintLast
theorem and_small (x : Int) (m : Nat) (hm : m < 4294967296) : ∃ a : Nat, a ≤ m ∧ bits BinOp.and .i64 x (m : Int) = (a : Int) := by
  refine ⟨(BitVec.ofInt 64 x &&& BitVec.ofInt 64 (m : Int)).toNat, ?_, ?_⟩
  · rw [BitVec.toNat_and]
    refine Nat.le_trans Nat.and_le_right ?_
    rw [BitVec.ofInt_natCast, BitVec.toNat_ofNat]; exact Nat.mod_le _ _
  · show IntKind.i64.wrap ((BitVec.ofInt 64 x &&& BitVec.ofInt 64 (m : Int)).toNat : Int) = _
    have h : (BitVec.ofInt 64 x &&& BitVec.ofInt 64 (m : Int)).toNat ≤ m := by
      rw [BitVec.toNat_and]
      refine Nat.le_trans Nat.and_le_right ?_
      rw [BitVec.ofInt_natCast, BitVec.toNat_ofNat]; exact Nat.mod_le _ _
    rw [IntKind.wrap_i64]; omega
/-- the writes of the first i numbers -/
def mks (xs : List Int) (i : Nat) : List (Int × ByteArray) := (List.range i).map fun j => (bits BinOp.and .i64 (xs.getD j 0) 15, secStr (IntKind.u8.wrap (j : Int)))
theorem mks_succ (xs : List Int) (i : Nat) : mks xs (i + 1) = mks xs i ++ [(bits BinOp.and .i64 (xs.getD i 0) 15, secStr (IntKind.u8.wrap (i : Int)))] := by simp [mks, List.range_succ]
theorem mks_length (xs : List Int) (i : Nat) : (mks xs i).length = i := by simp [mks]
set_option maxHeartbeats 4000000 in
set_option maxRecDepth 100000 in
theorem flushWalk (W : World) (A0 : Option Addr) (l c : Nat) (xs : List Int) (pick torn cut : Int) (h0 : 0 ≤ pick) (hl : l ≤ 1073741824) (hat : ∀ i, i < l → ∃ a, A0 = some a ∧ (a.add i).block < W.heap.size ∧ W.cell? (a.add i) = some (.int .i64 (xs.getD i 0))) :
    Calls Try.prog 12 #[.slice A0 l c, .agg #[.int .u64 pick, .int .i64 torn, .int .i64 cut]] W fun e w' => e = .returned (.bool true) ∧ Below W.heap.size W w' := by
  have hb0 : Below W.heap.size W (W.alloc (.cells #[.int .u64 pick, .int .i64 torn, .int .i64 cut] 55)) := below_alloc (Below.refl W.heap.size W) _
  have hfa := blk_new W (.cells #[.int .u64 pick, .int .i64 torn, .int .i64 cut] 55)
  have hw0 : (W.alloc (.cells #[.int .u64 pick, .int .i64 torn, .int .i64 cut] 55)).heap.size = W.heap.size + 1 := by simp
  have HA := awake_ok (W.alloc (.cells #[.int .u64 pick, .int .i64 torn, .int .i64 cut] 55))
  go_enter Try.func12, Try.ntmps12
  go_wp2_with (go_at_call 55; refine HA.mono ?_; rintro e w1 ⟨rfl, hb1⟩)
  clear HA
  have hF : W.heap.size < (W.alloc (.cells #[.int .u64 pick, .int .i64 torn, .int .i64 cut] 55)).heap.size := by omega
  generalize W.alloc (.cells #[.int .u64 pick, .int .i64 torn, .int .i64 cut] 55) = w0 at *
  have HN := on_new 16 hb1 (by decide) (by decide)
  rw [zeros_of 16 1024 rfl] at HN
  refine HN.mono ?_
  rintro e w2 ⟨x, rfl, hd2⟩
  clear HN hb1
  have HN := two_new 16 (by decide) (by decide) hd2
  rw [zeros_of 16 1024 rfl] at HN
  go_wp2_with (go_at_call 56; refine HN.mono ?_; rintro e w3 ⟨y, rfl, hT⟩)
  clear HN hd2
  go_loopw [9] (fun v9 w' => ∃ i : Nat, v9 = .int .i64 (i : Int) ∧ i ≤ l ∧ Two w0 w' x y (zeros 1024) (mks xs i) (zeros 1024) (mks xs i)) (fun v9 _ => l - (intOf v9).toNat)
  · exact ⟨0, rfl, Nat.zero_le _, hT⟩
  · obtain ⟨i, rfl, hi, hT⟩ := hrel
    by_cases hlt : i < l
    · have c1 : decide ((i : Int) < (l : Int)) = true := decide_eq_true (by omega)
      obtain ⟨p, rfl, hpb, hpc⟩ := hat i hlt
      have x1 : ∀ w' : World, Below w0.heap.size w0 w' → w'.cell? (p.add i) = some (.int .i64 (xs.getD i 0)) := fun w' hb => ((hb.cell (by omega)).trans (hb0.cell hpb)).trans hpc
      obtain ⟨a, ha, ea⟩ := and_small (xs.getD i 0) 15 (by decide)
      rw [show ((15 : Nat) : Int) = 15 from rfl] at ea
      have em : mks xs (i + 1) = mks xs i ++ [((a : Int), secStr (IntKind.u8.wrap (i : Int)))] := by rw [mks_succ, ea]
      generalize xs.getD i 0 = z at x1 ea hpc
      have hr : 0 ≤ IntKind.u8.wrap (i : Int) ∧ IntKind.u8.wrap (i : Int) < 256 := by rw [IntKind.wrap_u8']; omega
      obtain ⟨r0, r1⟩ := hr
      have hsec := fun w => sector3_ok (IntKind.u8.wrap (i : Int)) r0 r1 w
      have h16 : a < (zeros 1024).length / 64 := by rw [zeros_length]; omega
      have hm : (mks xs i).length < 1099511627776 := by rw [mks_length]; omega
      have k1 : (i : Int) < (l : Int) := by omega
      have HX := Aside0.mk x1
      have HEM := Aside0.mk em
      clear hpb hpc r0 r1 em hat
      go_wp2
      go_region_held3 (fun w' => w'.cell? (p.add i) = some (.int .i64 z)) (first | exact x1 _ hT.drew.bel | exact x1 _ hxs.bel | exact x1 _ hx.bel | assumption) (first | (go_at_call 58; refine (hsec _).mono ?_; rintro e w4 ⟨rfl, hb4⟩; have hxs := hT.drew.later hb4) | (go_at_call 57; refine (two_write hxs a h16 _ (secStr_size _) hm).mono ?_; rintro e w5 ⟨rfl, hx⟩))
      clear hT
      have hy := hx.symm
      go_wp2
      clear hx
      go_region_held3 (fun w' => w'.cell? (p.add i) = some (.int .i64 z)) (first | exact x1 _ hy.drew.bel | exact x1 _ hxs.bel | exact x1 _ hz.bel | assumption) (first | (go_at_call 58; refine (hsec _).mono ?_; rintro e w4 ⟨rfl, hb4⟩; have hxs := hy.drew.later hb4) | (go_at_call 57; refine (two_write hxs a h16 _ (secStr_size _) hm).mono ?_; rintro e w5 ⟨rfl, hz⟩))
      clear hy
      go_wp2
      go_roundw
      case measure => clear hsec x1; simp [intOf]; omega
      case rel => exact ⟨i + 1, rfl, hlt, by rw [HEM.out]; exact hz.symm⟩
    · have c1 : decide ((i : Int) < (l : Int)) = false := decide_eq_false (by omega)
      clear hat
      have hq := two_flush hT
      have hfl : ∀ w', Below w0.heap.size w0 w' → w'.heap[W.heap.size]? = some (.cells #[.int .u64 pick, .int .i64 torn, .int .i64 cut] 55 (0, 0)) := fun w' hb => (hb.block _ hF).trans hfa
      obtain ⟨img, himg⟩ : ∃ img, flushed (mks xs i) (zeros 1024) = img := ⟨_, rfl⟩
      rw [himg] at hq
      clear hfa
      go_wp2_with (go_at_call 59; refine hq.mono ?_; rintro e w4 ⟨rfl, hT4⟩)
      clear hq hT
      have hq := two_crash hT4.symm 18446744073709551615 (-1) 0 (by decide)
      change Calls _ _ _ _ fun e w' => e = .returned (.int .i64 0) ∧ Two w0 w' y x (flushed (mks xs i) (zeros 1024)) [] img [] at hq
      rw [himg] at hq
      clear himg hT4
      go_wp2_with (go_at_call 60; refine hq.mono ?_; rintro e w5 ⟨rfl, hT5⟩)
      clear hq
      have hq := two_image hT5.symm
      refine hq.mono ?_
      rintro e w6 ⟨rfl, rfl⟩
      clear hq
      have hf5 := hfl _ hT5.bel
      have f0 := (cell_of hf5 0).trans rfl
      have f1 := (cell_of hf5 1).trans rfl
      have f2 := (cell_of hf5 2).trans rfl
      clear hf5
      have hq := two_crash hT5.symm pick torn cut h0
      change Calls _ _ _ _ fun e w' => e = .returned (.int .i64 0) ∧ Two w0 w' x y img [] img [] at hq
      go_wp2_with (go_at_call 60; refine hq.mono ?_; rintro e w7 ⟨rfl, hT7⟩)
      clear hq hT5 f0 f1 f2 hfl
      have i1 := two_image hT7
      have i2 := two_image hT7.symm
      have HB := hb0.trans (hT7.bel.mono (Nat.le_of_lt hF))
      generalize strOfNums img = u at i1 i2 ⊢
      refine i2.mono ?_
      rintro e w8 ⟨rfl, rfl⟩
      go_wp2_with (go_at_call 61; refine i1.mono ?_; rintro e w8 ⟨rfl, rfl⟩)
      go_ret
      exact ⟨rfl, HB⟩
theorem bulk_lits {H : Type} (k : IntKind) : ∀ xs : List Int, xs.length ≤ Rows.uptoBulkAll (lits (H := H) k xs)
  | [] => Nat.zero_le _
  | x :: xs => by
    have := bulk_lits (H := H) k xs
    show xs.length + 1 ≤ Rows.uptoBulk (.lit (.int k x)) + Rows.uptoBulkAll (lits (H := H) k xs)
    unfold Rows.uptoBulk
    omega
theorem open_nums_bulk {H : Type} {enc : TypeId × Value → H} {P : Program} {W : World} {base : Nat} {t e : TypeId} {v : Value} {d : DataW H} {p : List MemPlace} (ht : P.underlying t = some (.slice e)) (he : P.underlying e = some (.int .i64)) (hc : P.cellsOf e = 1)
    (h : DataW.Trod enc P W 0 (fun _ => true) true t v d p) (o : Value.okWide P W .any base t v) :
    ∃ (A : Option Addr) (l c : Nat) (xs : List Int), v = .slice A l c ∧ l ≤ Rows.uptoBulk d ∧ ∀ i, i < l → ∃ a, A = some a ∧ (a.add i).block < W.heap.size ∧ W.cell? (a.add i) = some (.int .i64 (xs.getD i 0)) := by
  obtain ⟨A, l, c, rfl⟩ := okWide_slice ht o
  obtain ⟨fuel, hf⟩ := h
  rcases open_ints ht he hc hf with ⟨hcs, _⟩ | ⟨a, len, cap, zs, hcs, _, hl, hm, hz, hx, hcell, hw⟩
  · simp [Value.cells] at hcs
    obtain ⟨rfl, rfl, rfl⟩ := hcs
    exact ⟨none, 0, 0, [], rfl, Nat.zero_le _, fun i hi => by omega⟩
  · simp [Value.cells] at hcs
    obtain ⟨rfl, rfl, rfl⟩ := hcs
    have hz' : zs.length = c := by simpa using hz
    have hd : d = .slice (lits .i64 (zs.take l)) (lits .i64 (zs.drop l)) := congrArg Prod.fst hx
    refine ⟨some a, l, c, zs.take l, rfl, ?_, fun i hi => ⟨a, rfl, ?_, ?_⟩⟩
    · rw [hd]
      have := bulk_lits (H := H) .i64 (zs.take l)
      rw [List.length_take] at this
      unfold Rows.uptoBulk
      omega
    · exact World.block_lt_of_cell? W _ (hcell i (by omega))
    · rw [hcell i (by omega)]
      congr 2
      simp [List.getD_eq_getElem?_getD, List.getElem?_take, hi]
set_option maxRecDepth 100000 in
theorem DiskFlush {H : Type} {enc : TypeId × Value → H} (W : World) (base : Nat) (v0 : Value) (d0 : DataW H) (p0 : List MemPlace) (v1 : Value) (d1 : DataW H) (p1 : List MemPlace)
    (h0 : DataW.Trod enc Try.prog W 0 (fun _ => true) true 53 v0 d0 p0) (o0 : Value.okWide Try.prog W .any base 53 v0)
    (h1 : DataW.Trod enc Try.prog W 0 (fun _ => true) true 55 v1 d1 p1) (o1 : Value.okWide Try.prog W .any base 55 v1)
    (hsz : Rows.uptoBulkAll [d0, d1] ≤ 1048576) :
    Calls Try.prog 12 #[v0, v1] W fun e w' => e = .returned (.bool true) ∧ Below W.heap.size W w' := by
  obtain ⟨A0, l, c, xs, rfl, hl, hat⟩ := open_nums_bulk Try.underlying53 Try.underlying3 (by kernel_rfl) h0 o0
  obtain ⟨pick, torn, cut, rfl, w0, w1, w2⟩ := Open.open55 o1 h1
  have bp := bounds_u64 w0
  have hb : Rows.uptoBulk d0 + (Rows.uptoBulk d1 + 0) ≤ 1048576 := hsz
  exact flushWalk W A0 l c xs pick torn cut (by omega) (by omega) hat
end Go.Proofs.Ytkcnmlggaggjlaa.Walk

/- Printed by hp.py, a program of this session, out of the translation: each Go function as a plain Lean function and the contract of its call. No conditions beyond those in the statements. -/
import Derived.Test.YtikekepiimaccaaKb0
import Derived.Test.YtikekepiimaccaaKb2
import Derived.Test.YtikekepiimaccaaKb4
namespace Go.Proofs.Ytikekepiimaccaa.Kb
open Go.RowKit Go.Proofs.YtikekepiimaccaaW.PrintWords Go.Proofs.YtikekepiimaccaaW.PrintLast Go.Proofs.YtikekepiimaccaaW.PrintMore
attribute [local go_sem] max2_int min2_int max_two min_two max_three min_three max_four min_four   -- for this text's walks alone
set_option linter.unusedVariables false
set_option linter.unusedSimpArgs false

/-! ### key_ToInode: function 23 -/
def key_ToInode.j0 : Nat → ByteArray → Bool → Option (Int × Int × Int × Int × Int × Int × Int × Int)
  | 0, _, _ => none
  | k + 1, x0, x18 => if x18 = true then (some (0, 0, 0, 0, 0, 0, 0, 1200)) else (if 1 ≤ 5 then (if 5 ≤ (x0.size : Int) then ((num_OfLe.f k (x0.extract 1 5)).bind fun bt158 => ((key_Unpack.f k (x0.extract 5 x0.size) 5).bind fun bt160 => (if 0 < (x0.size : Int) then (if 0 < (bt160.1.length : Int) then (if 1 < (bt160.1.length : Int) then (if 2 < (bt160.1.length : Int) then (if 3 < (bt160.1.length : Int) then (if 4 < (bt160.1.length : Int) then (some (wrap64 (bt x0 0), (bt158.1) % 4294967296, rd bt160.1 0, rd bt160.1 1, rd bt160.1 2, rd bt160.1 3, rd bt160.1 4, 0)) else (none)) else (none)) else (none)) else (none)) else (none)) else (none)))) else (none)) else (none))
def key_ToInode.f (k : Nat) (a0 : ByteArray) : Option (Int × Int × Int × Int × Int × Int × Int × Int) := if (a0.size : Int) = 45 then (if 0 < (a0.size : Int) then ((key_kinds.f (wrap64 (bt a0 0))).bind fun t157 => (key_ToInode.j0 k a0 (!t157))) else (none)) else (key_ToInode.j0 k a0 true)
theorem key_ToInode.mono_l : ∀ k, (∀ y0 y1, LeO (key_ToInode.j0 k y0 y1) (key_ToInode.j0 (k + 1) y0 y1))
  | 0 => fun _ _ r h => by simp [key_ToInode.j0] at h
  | k + 1 => by
    have ih0 := key_ToInode.mono_l k
    · intro y0 y1
      unfold key_ToInode.j0
      repeat' first
      | (with_reducible exact ih0 _ _)
      | (with_reducible exact key_Unpack.mono _ _ _)
      | (with_reducible exact num_OfLe.mono _ _)
      | (with_reducible exact LeO.refl _)
      | (with_reducible exact LeO.none _)
      | (with_reducible refine LeO.ite ?_ ?_)
      | (with_reducible refine LeO.bind ?_ (fun _ => ?_))
      | exact ih0 _ _
      | exact key_Unpack.mono _ _ _
      | exact num_OfLe.mono _ _
      | exact LeO.none _
      | refine LeO.ite ?_ ?_
      | refine LeO.bind ?_ (fun _ => ?_)
theorem key_ToInode.mono : ∀ a0 k, LeO (key_ToInode.f k a0) (key_ToInode.f (k + 1) a0) := by
  intro a0 k
  have ih0 := key_ToInode.mono_l k
  unfold key_ToInode.f
  repeat' first
      | (with_reducible exact ih0 _ _)
      | (with_reducible exact key_Unpack.mono _ _ _)
      | (with_reducible exact num_OfLe.mono _ _)
      | (with_reducible exact LeO.refl _)
      | (with_reducible exact LeO.none _)
      | (with_reducible refine LeO.ite ?_ ?_)
      | (with_reducible refine LeO.bind ?_ (fun _ => ?_))
      | exact ih0 _ _
      | exact key_Unpack.mono _ _ _
      | exact num_OfLe.mono _ _
      | exact LeO.none _
      | refine LeO.ite ?_ ?_
      | refine LeO.bind ?_ (fun _ => ?_)
def key_ToInode.T5 : Bool × List (List Nat × List Nat) := (true, [([], []), ([0], [0]), ([1], [1]), ([], []), ([3], [3]), ([], []), ([5], [5]), ([6], [6]), ([], []), ([8], [8]), ([9], [9]), ([2, 4, 7, 10], [2, 4, 7, 10]), ([], []), ([12], [12]), ([13], [13]), ([], []), ([15], [15]), ([16], [16]), ([], []), ([18], [18]), ([19], [19]), ([11, 14, 17, 20], [11, 14, 17, 20]), ([21, 0, 1, 2, 3, 4, 5, 6, 7, 8, 9, 10, 11, 12, 13, 14, 15, 16, 17, 18, 19, 20, 21], [21]), ([22, 0, 1, 2, 3, 4, 5, 6, 7, 8, 9, 10, 11, 12, 13, 14, 15, 16, 17, 18, 19, 20, 21, 22], [])])
def key_ToInode.B5 : List Nat := [0, 1, 3, 0, 8, 0, 32, 96, 0, 256, 768, 2047, 0, 4096, 12288, 0, 32768, 98304, 0, 262144, 786432, 2097151, 4194303, 8388607]
theorem key_ToInode.tab5 : rtab .any (opsOf Try.f23 5) = key_ToInode.T5 := by kernel_rfl
theorem key_ToInode.bits5 : waitsOk key_ToInode.T5.2 key_ToInode.B5 = true := by kernel_rfl
set_option maxHeartbeats 8000000 in
set_option maxRecDepth 100000 in
theorem key_ToInode.calls (k : Nat) (a0 : ByteArray) (r1 : Int) (r2 : Int) (r3 : Int) (r4 : Int) (r5 : Int) (r6 : Int) (r7 : Int) (r8 : Int) (w : World) (h : key_ToInode.f k a0 = some (r1, r2, r3, r4, r5, r6, r7, r8)) :
    Calls Try.prog 23 #[.string a0] w fun e w' => e = .returned (.tuple #[.agg #[.int .i64 r1, .int .u32 r2, .int .u64 r3, .int .u64 r4, .int .u64 r5, .int .u64 r6, .int .u64 r7], .int .i64 r8]) ∧ Below w.heap.size w w' := by
  have hu32 := Try.underlying32
  have hu30 := Try.underlying30
  have HB := Aside0.mk (Below.refl w.heap.size w)
  have H : (if (a0.size : Int) = 45 then (if 0 < (a0.size : Int) then ((key_kinds.f (wrap64 (bt a0 0))).bind fun t157 => (key_ToInode.j0 k a0 (!t157))) else (none)) else (key_ToInode.j0 k a0 true)) = some (r1, r2, r3, r4, r5, r6, r7, r8) := h
  clear h
  have HC2 := Aside0.mk H
  clear H
  go_enter Try.func23, Try.ntmps23
  go_upto_region 1 with (first | ((with_reducible refine gate_dst (N := 2) rfl ?_); refine box_event ?hg (N := 2) ?hd (cs := #[.int .i64 0, .int .u32 0, .int .u64 0, .int .u64 0, .int .u64 0, .int .u64 0, .int .u64 0]) (t := 32) ?hr ?_; (case hd => rfl); (case hg => rfl); (case hr => first | (go_simp; done) | (go_simp; rfl)); intro gb156 hg w3 hbox hb; have n0_ := Aside0.mk (below_step (by repeat (first | (with_reducible first | exact HB.out | apply below_alloc | apply pw_below_drewN | apply below_drew1) | exact HB.out)) hb); have n1_ := Aside0.mk (hbox); have n2_ := Aside0.mk ((by rw [hg]; exact (below_size (by repeat (first | (with_reducible first | exact HB.out | apply below_alloc | apply pw_below_drewN | apply below_drew1) | exact HB.out))) : w.heap.size ≤ gb156)); have n3_ := Aside0.mk ((by rw [hg]; exact (below_size (by repeat (first | (with_reducible first | exact HB.out | apply below_alloc | apply pw_below_drewN | apply below_drew1) | exact HB.out))) : w.heap.size ≤ gb156)); clear HB; have HB := n0_; have BK156 := n1_; have GW156 := n2_; have GE156 := n3_; clear n0_ n1_ n2_ n3_; clear hb hbox hg))
  (try simp only [Act.put, List.setIfInBounds_toArray, List.set_cons_zero, List.set_cons_succ])
  go_cut [18] (fun v18 wc => ∃ (kq : Nat) (x18_1 : Bool), v18 = .bool x18_1 ∧ Aside0 (key_ToInode.j0 kq a0 x18_1 = some (r1, r2, r3, r4, r5, r6, r7, r8)) ∧ Aside0 (kq ≤ k) ∧ Aside0 (wc.heap[gb156]? = some (.cells #[.int .i64 0, .int .u32 0, .int .u64 0, .int .u64 0, .int .u64 0, .int .u64 0, .int .u64 0] 32 (0, 0))) ∧ Aside0 (Below w.heap.size w wc))
  case first =>
    have H := HC2.out
    clear HC2
    by_cases c4 : (a0.size : Int) = 45
    · rw [if_pos c4] at H
      have c4b0 : ((a0.size : Int) == 45) = true := beq_iff_eq.mpr c4
      have c4b1 : ((a0.size : Int) != 45) = false := bne_eq_false_iff_eq.mpr c4
      clear c4
      (first | rw [c4b0] | (simp only [i64_w, i32_w]; rw [c4b0]) | skip)
      by_cases c5 : 0 < (a0.size : Int)
      · rw [if_pos c5] at H
        have c5b0 : decide (0 < (a0.size : Int)) = true := decide_eq_true c5
        have c5b1 : decide (0 < a0.size) = true := decide_eq_true (by omega)
        clear c5
        replace H := Option.bind_eq_some_iff.mp H
        obtain ⟨t157, A70, H⟩ := H
        replace H : (key_ToInode.j0 k a0 (!t157)) = some (r1, r2, r3, r4, r5, r6, r7, r8) := H
        have A7 := Aside0.mk A70
        clear A70
        have H' := Aside0.mk H
        clear H
        have p6 : 0 ≤ (0 : Int) := (by omega)
        have q6 : 0 < a0.size := (by have : (0 : Int) < (a0.size : Int) := of_decide_eq_true (by first | (with_reducible assumption) | assumption); omega)
        have hx6 : ∀ h : 0 < a0.size, ((a0[0]'h).toNat : Int) = bt a0 0 := bt_at a0 0
        clear p6
        have qi6 : (0 < (a0.size : Int)) = True := eq_true (of_decide_eq_true (by first | (with_reducible assumption) | assumption))
        replace q6 := eq_true q6
        go_wp2_with (first | (go_at_call 93; (with_reducible refine (key_kinds.calls (wrap64 (bt a0 0)) t157 _ A7.out).mono ?_); rintro e w' ⟨rfl, ⟨nd, rfl⟩⟩))
        go_meet
        case rel => exact ⟨_, (!t157), (by first | rfl | (simp; done) | (simp [*]; done)), H', ⟨by first | omega | exact Nat.le_refl _⟩, ⟨by (with_reducible repeat (first | refine blk_drewN ?_ _ | refine blk_drew ?_ | refine blk_alloc ?_ _)); exact BK156.out⟩, ⟨by repeat (first | (with_reducible first | exact HB.out | apply below_alloc | apply pw_below_drewN | apply below_drew1 | refine below_set ?_ GE156.out) | exact HB.out)⟩⟩
      · rw [if_neg c5] at H
        exact absurd H (by simp)
    · rw [if_neg c4] at H
      have c4b0 : ((a0.size : Int) == 45) = false := beq_eq_false_iff_ne.mpr c4
      have c4b1 : ((a0.size : Int) != 45) = true := bne_iff_ne.mpr c4
      (first | rw [c4b0] | (simp only [i64_w, i32_w]; rw [c4b0]) | skip)
      have H' := Aside0.mk H
      clear H
      go_wp2
      go_meet
      case rel => exact ⟨_, (true), (by first | rfl | (simp; done) | (simp [*]; done)), H', ⟨by first | omega | exact Nat.le_refl _⟩, ⟨by (with_reducible repeat (first | refine blk_drewN ?_ _ | refine blk_drew ?_ | refine blk_alloc ?_ _)); exact BK156.out⟩, ⟨by repeat (first | (with_reducible first | exact HB.out | apply below_alloc | apply pw_below_drewN | apply below_drew1 | refine below_set ?_ GE156.out) | exact HB.out)⟩⟩
  case rest =>
    clear HC2
    try clear c2
    try clear p2
    try clear c4
    try clear c4b0
    try clear c4b1
    try clear c5
    try clear c5b0
    try clear c5b1
    try clear p6
    try clear q6
    try clear hx6
    try clear qi6
    try clear p6
    try clear q6
    obtain ⟨kq, x18_1, rfl, HA, HJ1, BK156, HB⟩ := hcut
    cases kq with
    | zero => exact absurd HA.out (by simp [key_ToInode.j0])
    | succ kj1 =>
      have H := HA.out
      clear HA
      simp only [key_ToInode.j0] at H
      by_cases c8 : x18_1 = true
      · subst c8
        have H1 : (some (0, 0, 0, 0, 0, 0, 0, 1200)) = some (r1, r2, r3, r4, r5, r6, r7, r8) := by rw [if_pos rfl] at H; exact H
        clear H
        have H := H1
        clear H1
        simp only [Option.some.injEq, Prod.mk.injEq] at H
        obtain ⟨rfl, rfl, rfl, rfl, rfl, rfl, rfl, rfl⟩ := H
        have hcz9_0 : wc.cell? ⟨gb156, 0, none⟩ = some (.int .i64 0) := (blk_cell BK156.out 0).trans rfl
        have hcz9_1 : wc.cell? ⟨gb156, 1, none⟩ = some (.int .u32 0) := (blk_cell BK156.out 1).trans rfl
        have hcz9_2 : wc.cell? ⟨gb156, 2, none⟩ = some (.int .u64 0) := (blk_cell BK156.out 2).trans rfl
        have hcz9_3 : wc.cell? ⟨gb156, 3, none⟩ = some (.int .u64 0) := (blk_cell BK156.out 3).trans rfl
        have hcz9_4 : wc.cell? ⟨gb156, 4, none⟩ = some (.int .u64 0) := (blk_cell BK156.out 4).trans rfl
        have hcz9_5 : wc.cell? ⟨gb156, 5, none⟩ = some (.int .u64 0) := (blk_cell BK156.out 5).trans rfl
        have hcz9_6 : wc.cell? ⟨gb156, 6, none⟩ = some (.int .u64 0) := (blk_cell BK156.out 6).trans rfl
        have hfz9_0 := blk_frozen BK156.out 0
        have hfz9_1 := blk_frozen BK156.out 1
        have hfz9_2 := blk_frozen BK156.out 2
        have hfz9_3 := blk_frozen BK156.out 3
        have hfz9_4 := blk_frozen BK156.out 4
        have hfz9_5 := blk_frozen BK156.out 5
        have hfz9_6 := blk_frozen BK156.out 6
        go_wp2
        refine bodyPost_ret (results_ct rfl _ _ gb156 32 #[.int .i64 0, .int .u32 0, .int .u64 0, .int .u64 0, .int .u64 0, .int .u64 0, .int .u64 0] (0, 0) _ rfl (by (with_reducible repeat (first | refine blk_drewN ?_ _ | refine blk_drew ?_ | refine blk_alloc ?_ _)); refine blk_put (cs := #[.int .i64 0, .int .u32 0, .int .u64 0, .int .u64 0, .int .u64 0, .int .u64 0, .int .u64 0]) ?_ 6 _ rfl; (with_reducible repeat (first | refine blk_drewN ?_ _ | refine blk_drew ?_ | refine blk_alloc ?_ _)); refine blk_put (cs := #[.int .i64 0, .int .u32 0, .int .u64 0, .int .u64 0, .int .u64 0, .int .u64 0, .int .u64 0]) ?_ 5 _ rfl; (with_reducible repeat (first | refine blk_drewN ?_ _ | refine blk_drew ?_ | refine blk_alloc ?_ _)); refine blk_put (cs := #[.int .i64 0, .int .u32 0, .int .u64 0, .int .u64 0, .int .u64 0, .int .u64 0, .int .u64 0]) ?_ 4 _ rfl; (with_reducible repeat (first | refine blk_drewN ?_ _ | refine blk_drew ?_ | refine blk_alloc ?_ _)); refine blk_put (cs := #[.int .i64 0, .int .u32 0, .int .u64 0, .int .u64 0, .int .u64 0, .int .u64 0, .int .u64 0]) ?_ 3 _ rfl; (with_reducible repeat (first | refine blk_drewN ?_ _ | refine blk_drew ?_ | refine blk_alloc ?_ _)); refine blk_put (cs := #[.int .i64 0, .int .u32 0, .int .u64 0, .int .u64 0, .int .u64 0, .int .u64 0, .int .u64 0]) ?_ 2 _ rfl; (with_reducible repeat (first | refine blk_drewN ?_ _ | refine blk_drew ?_ | refine blk_alloc ?_ _)); refine blk_put (cs := #[.int .i64 0, .int .u32 0, .int .u64 0, .int .u64 0, .int .u64 0, .int .u64 0, .int .u64 0]) ?_ 1 _ rfl; (with_reducible repeat (first | refine blk_drewN ?_ _ | refine blk_drew ?_ | refine blk_alloc ?_ _)); refine blk_put (cs := #[.int .i64 0, .int .u32 0, .int .u64 0, .int .u64 0, .int .u64 0, .int .u64 0, .int .u64 0]) ?_ 0 _ rfl; (with_reducible repeat (first | refine blk_drewN ?_ _ | refine blk_drew ?_ | refine blk_alloc ?_ _)); exact BK156.out) Try.underlying32 rfl (by kernel_rfl)) rfl ?_
        exact ⟨by first | rfl | (simp [errW_none, errW_some] <;> rfl) | (simp [*, errW_none, errW_some] <;> rfl), by repeat (first | (with_reducible first | exact HB.out | apply below_alloc | apply pw_below_drewN | apply below_drew1 | refine below_set ?_ GE156.out) | exact HB.out)⟩
      · replace c8 := Bool.eq_false_iff.mpr c8
        subst c8
        have H1 : (if 1 ≤ 5 then (if 5 ≤ (a0.size : Int) then ((num_OfLe.f kj1 (a0.extract 1 5)).bind fun bt158 => ((key_Unpack.f kj1 (a0.extract 5 a0.size) 5).bind fun bt160 => (if 0 < (a0.size : Int) then (if 0 < (bt160.1.length : Int) then (if 1 < (bt160.1.length : Int) then (if 2 < (bt160.1.length : Int) then (if 3 < (bt160.1.length : Int) then (if 4 < (bt160.1.length : Int) then (some (wrap64 (bt a0 0), (bt158.1) % 4294967296, rd bt160.1 0, rd bt160.1 1, rd bt160.1 2, rd bt160.1 3, rd bt160.1 4, 0)) else (none)) else (none)) else (none)) else (none)) else (none)) else (none)))) else (none)) else (none)) = some (r1, r2, r3, r4, r5, r6, r7, r8) := by rw [if_neg (show ¬ (false = true) by decide)] at H; exact H
        clear H
        have H := H1
        clear H1
        by_cases c10 : 1 ≤ 5
        · rw [if_pos c10] at H
          have c10b0 := eq_true c10
          have c10b1 : decide (1 ≤ 5) = true := decide_eq_true c10
          clear c10
          by_cases c11 : 5 ≤ (a0.size : Int)
          · rw [if_pos c11] at H
            have c11b0 := eq_true c11
            have c11b1 : decide (5 ≤ (a0.size : Int)) = true := decide_eq_true c11
            clear c11
            replace H := Option.bind_eq_some_iff.mp H
            obtain ⟨⟨t158, t159⟩, A120, H⟩ := H
            replace H : ((key_Unpack.f kj1 (a0.extract 5 a0.size) 5).bind fun bt160 => (if 0 < (a0.size : Int) then (if 0 < (bt160.1.length : Int) then (if 1 < (bt160.1.length : Int) then (if 2 < (bt160.1.length : Int) then (if 3 < (bt160.1.length : Int) then (if 4 < (bt160.1.length : Int) then (some (wrap64 (bt a0 0), (t158) % 4294967296, rd bt160.1 0, rd bt160.1 1, rd bt160.1 2, rd bt160.1 3, rd bt160.1 4, 0)) else (none)) else (none)) else (none)) else (none)) else (none)) else (none))) = some (r1, r2, r3, r4, r5, r6, r7, r8) := H
            have A12 := Aside0.mk A120
            clear A120
            have c13b0 := eq_true (of_decide_eq_true (by first | (with_reducible assumption) | assumption) : 5 ≤ (a0.size : Int))
            replace H := Option.bind_eq_some_iff.mp H
            obtain ⟨⟨t160, t161, t162⟩, A140, H⟩ := H
            replace H : (if 0 < (a0.size : Int) then (if 0 < (t160.length : Int) then (if 1 < (t160.length : Int) then (if 2 < (t160.length : Int) then (if 3 < (t160.length : Int) then (if 4 < (t160.length : Int) then (some (wrap64 (bt a0 0), (t158) % 4294967296, rd t160 0, rd t160 1, rd t160 2, rd t160 3, rd t160 4, 0)) else (none)) else (none)) else (none)) else (none)) else (none)) else (none)) = some (r1, r2, r3, r4, r5, r6, r7, r8) := H
            have A14 := Aside0.mk A140
            clear A140
            by_cases c15 : 0 < (a0.size : Int)
            · rw [if_pos c15] at H
              have c15b0 : decide (0 < (a0.size : Int)) = true := decide_eq_true c15
              have c15b1 : decide (0 < a0.size) = true := decide_eq_true (by omega)
              clear c15
              by_cases c17 : 0 < (t160.length : Int)
              · rw [if_pos c17] at H
                have c17b0 : decide (0 < (t160.length : Int)) = true := decide_eq_true c17
                have c17b1 : decide (0 < t160.length) = true := decide_eq_true (by omega)
                clear c17
                by_cases c18 : 1 < (t160.length : Int)
                · rw [if_pos c18] at H
                  have c18b0 : decide (1 < (t160.length : Int)) = true := decide_eq_true c18
                  have c18b1 : decide (1 < t160.length) = true := decide_eq_true (by omega)
                  clear c18
                  by_cases c19 : 2 < (t160.length : Int)
                  · rw [if_pos c19] at H
                    have c19b0 : decide (2 < (t160.length : Int)) = true := decide_eq_true c19
                    have c19b1 : decide (2 < t160.length) = true := decide_eq_true (by omega)
                    clear c19
                    by_cases c20 : 3 < (t160.length : Int)
                    · rw [if_pos c20] at H
                      have c20b0 : decide (3 < (t160.length : Int)) = true := decide_eq_true c20
                      have c20b1 : decide (3 < t160.length) = true := decide_eq_true (by omega)
                      clear c20
                      by_cases c21 : 4 < (t160.length : Int)
                      · rw [if_pos c21] at H
                        have c21b0 : decide (4 < (t160.length : Int)) = true := decide_eq_true c21
                        have c21b1 : decide (4 < t160.length) = true := decide_eq_true (by omega)
                        clear c21
                        simp only [Option.some.injEq, Prod.mk.injEq] at H
                        obtain ⟨rfl, rfl, rfl, rfl, rfl, rfl, rfl, rfl⟩ := H
                        try go_wp2_with (first | ((with_reducible refine gate_callee (f := 97) rfl ?_); refine goesL_ (some 23) rfl rfl Try.func97 (by kernel_rfl) rfl #[.string (a0.extract 1 5)] rfl (by (try simp only [List.map_toArray, List.map_cons, List.map_nil]); first | done | rfl | (simp only [List.length_drop, List.length_take]; rfl)) ?_; (with_reducible refine (num_OfLe.calls kj1 (a0.extract 1 5) t158 t159 _ A12.out).mono ?_); rintro e w' ⟨rfl, ⟨nd, rfl⟩⟩; refine ⟨_, rfl, ?_⟩; (try (rw [drewN_self wc]; generalize hq_ : World.drewN wc _ = wc; have n0_ : Aside0 (wc.heap[gb156]? = some (.cells #[.int .i64 0, .int .u32 0, .int .u64 0, .int .u64 0, .int .u64 0, .int .u64 0, .int .u64 0] 32 (0, 0))) := ⟨by rw [← hq_]; exact (by (with_reducible repeat (first | refine blk_drewN ?_ _ | refine blk_drew ?_ | refine blk_alloc ?_ _)); exact BK156.out)⟩; have n1_ : Aside0 (Below w.heap.size w wc) := ⟨by rw [← hq_]; exact (by repeat (first | (with_reducible first | exact HB.out | apply below_alloc | apply pw_below_drewN | apply below_drew1 | refine below_set ?_ GE156.out) | exact HB.out))⟩; clear BK156 HB hq_; have BK156 := n0_; have HB := n1_; clear n0_ n1_))) | ((with_reducible refine gate_callee (f := 30) rfl ?_); refine goesL_ (some 29) rfl rfl Try.func30 (by kernel_rfl) rfl #[.string (a0.extract 5 a0.size), .int .i64 5] rfl (by (try simp only [List.map_toArray, List.map_cons, List.map_nil]); first | done | rfl | (simp only [List.length_drop, List.length_take]; rfl)) ?_; (with_reducible refine (key_Unpack.calls kj1 (a0.extract 5 a0.size) 5 t160 t161 t162 _ A14.out).mono ?_); rintro e w22 ⟨v163, rfl, ho0, hb⟩; refine ⟨_, rfl, ?_⟩; have n0_ := Aside0.mk (Kd.R_lower ho0 (below_size (by repeat (first | (with_reducible first | exact HB.out | apply below_alloc | apply pw_below_drewN | apply below_drew1 | refine below_set ?_ GE156.out) | exact HB.out)))); have n1_ := Aside0.mk (blk_below (g := gb156) (o := .cells #[.int .i64 0, .int .u32 0, .int .u64 0, .int .u64 0, .int .u64 0, .int .u64 0, .int .u64 0] 32 (0, 0)) (by (with_reducible repeat (first | refine blk_drewN ?_ _ | refine blk_drew ?_ | refine blk_alloc ?_ _)); exact BK156.out) hb); have n2_ := Aside0.mk (below_step (by repeat (first | (with_reducible first | exact HB.out | apply below_alloc | apply pw_below_drewN | apply below_drew1 | refine below_set ?_ GE156.out) | exact HB.out)) hb); clear BK156; clear HB; have HO164 := n0_; have BK156 := n1_; have HB := n2_; clear n0_ n1_ n2_; (try clear hb); (try clear hb2); (try clear hk); (try clear hi); (try clear ho0)))
                        have n0_ := Aside0.mk (Kd.R_drew HO164.out)
                        have n1_ := Aside0.mk (blk_drew BK156.out)
                        have n2_ := Aside0.mk (below_drew1 HB.out)
                        clear HO164
                        clear BK156
                        clear HB
                        have HO164 := n0_
                        have BK156 := n1_
                        have HB := n2_
                        clear n0_ n1_ n2_
                        have p16 : 0 ≤ (0 : Int) := (by omega)
                        have q16 : 0 < a0.size := (by have : (0 : Int) < (a0.size : Int) := of_decide_eq_true (by first | (with_reducible assumption) | assumption); omega)
                        have hx16 : ∀ h : 0 < a0.size, ((a0[0]'h).toNat : Int) = bt a0 0 := bt_at a0 0
                        clear p16
                        have qi16 : (0 < (a0.size : Int)) = True := eq_true (of_decide_eq_true (by first | (with_reducible assumption) | assumption))
                        replace q16 := eq_true q16
                        obtain ⟨Ao24, co24, eo24⟩ := Kd.R_slice HO164.out
                        (first | subst eo24 | (injection eo24 with f1_ f2_ f3_; have f4_ := f1_.symm; have f5_ := f3_.symm; clear f1_ f2_ f3_; subst f4_; subst f5_))
                        have p165 : 0 ≤ (0 : Int) := (by omega)
                        have q165 : 0 < (t160.length : Int) := of_decide_eq_true (by first | (with_reducible assumption) | assumption)
                        obtain ⟨ad165, e165, hx165_0⟩ := Kd.at_int (Kd.R_reads' HO164.out).2.2 0 p165 q165
                        cases e165
                        have qi165 : (0 < t160.length) = True := eq_true (by omega)
                        (try rw [show ((0 : Int)).toNat = 0 from rfl] at hx165_0)
                        (try rw [Addr.add_zero'] at hx165_0)
                        replace p165 := eq_true p165
                        replace q165 := eq_true q165
                        have p166 : 0 ≤ (1 : Int) := (by omega)
                        have q166 : 1 < (t160.length : Int) := of_decide_eq_true (by first | (with_reducible assumption) | assumption)
                        obtain ⟨ad166, e166, hx166_0⟩ := Kd.at_int (Kd.R_reads' HO164.out).2.2 1 p166 q166
                        obtain rfl : ad165 = ad166 := (by injection e166)
                        (try simp only [show (1 : Int).toNat = 1 from rfl, Nat.reduceMul, Nat.reduceEqDiff, Go.Addr.add, ↓reduceIte] at hx166_0)
                        have qi166 : (1 < t160.length) = True := eq_true (by omega)
                        (try rw [show ((1 : Int)).toNat = 1 from rfl] at hx166_0)
                        replace p166 := eq_true p166
                        replace q166 := eq_true q166
                        have p167 : 0 ≤ (2 : Int) := (by omega)
                        have q167 : 2 < (t160.length : Int) := of_decide_eq_true (by first | (with_reducible assumption) | assumption)
                        obtain ⟨ad167, e167, hx167_0⟩ := Kd.at_int (Kd.R_reads' HO164.out).2.2 2 p167 q167
                        obtain rfl : ad165 = ad167 := (by injection e167)
                        (try simp only [show (2 : Int).toNat = 2 from rfl, Nat.reduceMul, Nat.reduceEqDiff, Go.Addr.add, ↓reduceIte] at hx167_0)
                        have qi167 : (2 < t160.length) = True := eq_true (by omega)
                        (try rw [show ((2 : Int)).toNat = 2 from rfl] at hx167_0)
                        replace p167 := eq_true p167
                        replace q167 := eq_true q167
                        have p168 : 0 ≤ (3 : Int) := (by omega)
                        have q168 : 3 < (t160.length : Int) := of_decide_eq_true (by first | (with_reducible assumption) | assumption)
                        obtain ⟨ad168, e168, hx168_0⟩ := Kd.at_int (Kd.R_reads' HO164.out).2.2 3 p168 q168
                        obtain rfl : ad165 = ad168 := (by injection e168)
                        (try simp only [show (3 : Int).toNat = 3 from rfl, Nat.reduceMul, Nat.reduceEqDiff, Go.Addr.add, ↓reduceIte] at hx168_0)
                        have qi168 : (3 < t160.length) = True := eq_true (by omega)
                        (try rw [show ((3 : Int)).toNat = 3 from rfl] at hx168_0)
                        replace p168 := eq_true p168
                        replace q168 := eq_true q168
                        have p169 : 0 ≤ (4 : Int) := (by omega)
                        have q169 : 4 < (t160.length : Int) := of_decide_eq_true (by first | (with_reducible assumption) | assumption)
                        obtain ⟨ad169, e169, hx169_0⟩ := Kd.at_int (Kd.R_reads' HO164.out).2.2 4 p169 q169
                        obtain rfl : ad165 = ad169 := (by injection e169)
                        (try simp only [show (4 : Int).toNat = 4 from rfl, Nat.reduceMul, Nat.reduceEqDiff, Go.Addr.add, ↓reduceIte] at hx169_0)
                        have qi169 : (4 < t160.length) = True := eq_true (by omega)
                        (try rw [show ((4 : Int)).toNat = 4 from rfl] at hx169_0)
                        replace p169 := eq_true p169
                        replace q169 := eq_true q169
                        refine start_ (n := 24) (S := fun w' => w'.cell? ad165 = some (.int .u64 (rd t160 0)) ∧ w'.cell? ⟨ad165.block, ad165.off + 1, none⟩ = some (.int .u64 (rd t160 1)) ∧ w'.cell? ⟨ad165.block, ad165.off + 2, none⟩ = some (.int .u64 (rd t160 2)) ∧ w'.cell? ⟨ad165.block, ad165.off + 3, none⟩ = some (.int .u64 (rd t160 3)) ∧ w'.cell? ⟨ad165.block, ad165.off + 4, none⟩ = some (.int .u64 (rd t160 4))) (ds := []) #[false, false, false, false, false, false, false, false, false, false, false, false, false, false, false, false, false, false, false, false, false, false, false, false] (by kernel_rfl) rfl rfl ⟨hx165_0, hx166_0, hx167_0, hx168_0, hx169_0⟩ (fun hHeld => ?_); refine with_tabW key_ToInode.tab5 key_ToInode.bits5 (fun HT_ HW_ => ?_)
                        generalize w22.drew = w23 at HO164 BK156 HB hx165_0 hx166_0 hx167_0 hx168_0 hx169_0 hHeld ⊢
                        refine pure_ (i := 0) (N := some 33) (v := ?_) (a' := ?_) #[true, false, false, false, false, false, false, false, false, false, false, false, false, false, false, false, false, false, false, false, false, false, false, false] rfl rfl (any_of HT_.out (by kernel_rfl)) (fun _ _ _ h => h) (Or.inl ⟨by rfl, ?_⟩) ?_ ?_
                        rotate_left
                        · intro w'
                          go_simp
                          with_reducible rfl
                        rotate_left
                        · simp only [Act.put, List.setIfInBounds_toArray, List.set_cons_zero, List.set_cons_succ, i64_w, i32_w]
                          rfl
                        refine pure_ (i := 3) (N := some 36) (v := ?_) (a' := ?_) #[true, false, false, true, false, false, false, false, false, false, false, false, false, false, false, false, false, false, false, false, false, false, false, false] rfl rfl (any_of HT_.out (by kernel_rfl)) (fun _ _ _ h => h) (Or.inl ⟨by rfl, ?_⟩) ?_ ?_
                        rotate_left
                        · intro w'
                          go_simp
                          with_reducible rfl
                        rotate_left
                        · simp only [Act.put, List.setIfInBounds_toArray, List.set_cons_zero, List.set_cons_succ, i64_w, i32_w]
                          rfl
                        refine pure_ (i := 4) (N := some 37) (v := ?_) (a' := ?_) #[true, false, false, true, true, false, false, false, false, false, false, false, false, false, false, false, false, false, false, false, false, false, false, false] rfl rfl (any_of HT_.out (by kernel_rfl)) (fun _ _ _ h => h) (Or.inl ⟨by rfl, ?_⟩) ?_ ?_
                        rotate_left
                        · intro w'
                          go_simp
                          with_reducible rfl
                        rotate_left
                        · simp only [Act.put, List.setIfInBounds_toArray, List.set_cons_zero, List.set_cons_succ, i64_w, i32_w]
                          rfl
                        refine pure_ (i := 5) (N := some 38) (v := ?_) (a' := ?_) #[true, false, false, true, true, true, false, false, false, false, false, false, false, false, false, false, false, false, false, false, false, false, false, false] rfl rfl (any_of HT_.out (by kernel_rfl)) (fun _ _ _ h => h) (Or.inl ⟨by rfl, ?_⟩) ?_ ?_
                        rotate_left
                        · intro w'
                          go_simp
                          with_reducible rfl
                        rotate_left
                        · simp only [Act.put, List.setIfInBounds_toArray, List.set_cons_zero, List.set_cons_succ, i64_w, i32_w]
                          rfl
                        refine pure_ (i := 6) (N := some 39) (v := ?_) (a' := ?_) #[true, false, false, true, true, true, true, false, false, false, false, false, false, false, false, false, false, false, false, false, false, false, false, false] rfl rfl (any_of HT_.out (by kernel_rfl)) (fun _ _ _ h => h) (Or.inl ⟨by rfl, ?_⟩) ?_ ?_
                        rotate_left
                        · intro w'
                          go_simp
                          with_reducible rfl
                        rotate_left
                        · simp only [Act.put, List.setIfInBounds_toArray, List.set_cons_zero, List.set_cons_succ, i64_w, i32_w]
                          rfl
                        refine pure_ (i := 8) (N := some 41) (v := ?_) (a' := ?_) #[true, false, false, true, true, true, true, false, true, false, false, false, false, false, false, false, false, false, false, false, false, false, false, false] rfl rfl (any_of HT_.out (by kernel_rfl)) (fun _ _ _ h => h) (Or.inl ⟨by rfl, ?_⟩) ?_ ?_
                        rotate_left
                        · intro w'
                          go_simp
                          with_reducible rfl
                        rotate_left
                        · simp only [Act.put, List.setIfInBounds_toArray, List.set_cons_zero, List.set_cons_succ, i64_w, i32_w]
                          rfl
                        refine pure_ (i := 9) (N := some 42) (v := ?_) (a' := ?_) #[true, false, false, true, true, true, true, false, true, true, false, false, false, false, false, false, false, false, false, false, false, false, false, false] rfl rfl (any_of HT_.out (by kernel_rfl)) (fun _ _ _ h => h) (Or.inl ⟨by rfl, ?_⟩) ?_ ?_
                        rotate_left
                        · intro w'
                          go_simp
                          with_reducible rfl
                        rotate_left
                        · simp only [Act.put, List.setIfInBounds_toArray, List.set_cons_zero, List.set_cons_succ, i64_w, i32_w]
                          rfl
                        refine pure_ (i := 12) (N := some 45) (v := ?_) (a' := ?_) #[true, false, false, true, true, true, true, false, true, true, false, false, true, false, false, false, false, false, false, false, false, false, false, false] rfl rfl (any_of HT_.out (by kernel_rfl)) (fun _ _ _ h => h) (Or.inl ⟨by rfl, ?_⟩) ?_ ?_
                        rotate_left
                        · intro w'
                          go_simp
                          with_reducible rfl
                        rotate_left
                        · simp only [Act.put, List.setIfInBounds_toArray, List.set_cons_zero, List.set_cons_succ, i64_w, i32_w]
                          rfl
                        refine pure_ (i := 13) (N := some 46) (v := ?_) (a' := ?_) #[true, false, false, true, true, true, true, false, true, true, false, false, true, true, false, false, false, false, false, false, false, false, false, false] rfl rfl (any_of HT_.out (by kernel_rfl)) (fun _ _ _ h => h) (Or.inl ⟨by rfl, ?_⟩) ?_ ?_
                        rotate_left
                        · intro w'
                          go_simp
                          with_reducible rfl
                        rotate_left
                        · simp only [Act.put, List.setIfInBounds_toArray, List.set_cons_zero, List.set_cons_succ, i64_w, i32_w]
                          rfl
                        refine pure_ (i := 15) (N := some 48) (v := ?_) (a' := ?_) #[true, false, false, true, true, true, true, false, true, true, false, false, true, true, false, true, false, false, false, false, false, false, false, false] rfl rfl (any_of HT_.out (by kernel_rfl)) (fun _ _ _ h => h) (Or.inl ⟨by rfl, ?_⟩) ?_ ?_
                        rotate_left
                        · intro w'
                          go_simp
                          with_reducible rfl
                        rotate_left
                        · simp only [Act.put, List.setIfInBounds_toArray, List.set_cons_zero, List.set_cons_succ, i64_w, i32_w]
                          rfl
                        refine pure_ (i := 16) (N := some 49) (v := ?_) (a' := ?_) #[true, false, false, true, true, true, true, false, true, true, false, false, true, true, false, true, true, false, false, false, false, false, false, false] rfl rfl (any_of HT_.out (by kernel_rfl)) (fun _ _ _ h => h) (Or.inl ⟨by rfl, ?_⟩) ?_ ?_
                        rotate_left
                        · intro w'
                          go_simp
                          with_reducible rfl
                        rotate_left
                        · simp only [Act.put, List.setIfInBounds_toArray, List.set_cons_zero, List.set_cons_succ, i64_w, i32_w]
                          rfl
                        refine pure_ (i := 18) (N := some 51) (v := ?_) (a' := ?_) #[true, false, false, true, true, true, true, false, true, true, false, false, true, true, false, true, true, false, true, false, false, false, false, false] rfl rfl (any_of HT_.out (by kernel_rfl)) (fun _ _ _ h => h) (Or.inl ⟨by rfl, ?_⟩) ?_ ?_
                        rotate_left
                        · intro w'
                          go_simp
                          with_reducible rfl
                        rotate_left
                        · simp only [Act.put, List.setIfInBounds_toArray, List.set_cons_zero, List.set_cons_succ, i64_w, i32_w]
                          rfl
                        refine pure_ (i := 19) (N := some 52) (v := ?_) (a' := ?_) #[true, false, false, true, true, true, true, false, true, true, false, false, true, true, false, true, true, false, true, true, false, false, false, false] rfl rfl (any_of HT_.out (by kernel_rfl)) (fun _ _ _ h => h) (Or.inl ⟨by rfl, ?_⟩) ?_ ?_
                        rotate_left
                        · intro w'
                          go_simp
                          with_reducible rfl
                        rotate_left
                        · simp only [Act.put, List.setIfInBounds_toArray, List.set_cons_zero, List.set_cons_succ, i64_w, i32_w]
                          rfl
                        refine take_ (i := 1) (N := some 34) (v := ?_) (a' := ?_) #[true, true, false, true, true, true, true, false, true, true, false, false, true, true, false, true, true, false, true, true, false, false, false, false] rfl rfl (take_ofW HT_.out HW_.out (by kernel_rfl)) (fun _ _ _ h => h) (Or.inl ⟨by rfl, ?_⟩) hHeld ?_ ?_
                        rotate_left
                        · rintro w' ⟨s0, s1, s2, s3, s4⟩
                          go_simp
                          with_reducible rfl
                        rotate_left
                        · simp only [Act.put, List.setIfInBounds_toArray, List.set_cons_zero, List.set_cons_succ, i64_w, i32_w]
                          rfl
                        refine pure_ (i := 2) (N := some 35) (v := ?_) (a' := ?_) #[true, true, true, true, true, true, true, false, true, true, false, false, true, true, false, true, true, false, true, true, false, false, false, false] rfl rfl (any_of HT_.out (by kernel_rfl)) (fun _ _ _ h => h) (Or.inl ⟨by rfl, ?_⟩) ?_ ?_
                        rotate_left
                        · intro w'
                          go_simp
                          with_reducible rfl
                        rotate_left
                        · simp only [Act.put, List.setIfInBounds_toArray, List.set_cons_zero, List.set_cons_succ, i64_w, i32_w]
                          rfl
                        refine take_ (i := 7) (N := some 40) (v := ?_) (a' := ?_) #[true, true, true, true, true, true, true, true, true, true, false, false, true, true, false, true, true, false, true, true, false, false, false, false] rfl rfl (take_ofW HT_.out HW_.out (by kernel_rfl)) (fun _ _ _ h => h) (Or.inl ⟨by rfl, ?_⟩) hHeld ?_ ?_
                        rotate_left
                        · rintro w' ⟨s0, s1, s2, s3, s4⟩
                          go_simp
                          with_reducible rfl
                        rotate_left
                        · simp only [Act.put, List.setIfInBounds_toArray, List.set_cons_zero, List.set_cons_succ, i64_w, i32_w]
                          rfl
                        refine take_ (i := 10) (N := some 43) (v := ?_) (a' := ?_) #[true, true, true, true, true, true, true, true, true, true, true, false, true, true, false, true, true, false, true, true, false, false, false, false] rfl rfl (take_ofW HT_.out HW_.out (by kernel_rfl)) (fun _ _ _ h => h) (Or.inl ⟨by rfl, ?_⟩) hHeld ?_ ?_
                        rotate_left
                        · rintro w' ⟨s0, s1, s2, s3, s4⟩
                          go_simp
                          with_reducible rfl
                        rotate_left
                        · simp only [Act.put, List.setIfInBounds_toArray, List.set_cons_zero, List.set_cons_succ, i64_w, i32_w]
                          rfl
                        refine pure_ (i := 11) (N := some 44) (v := ?_) (a' := ?_) #[true, true, true, true, true, true, true, true, true, true, true, true, true, true, false, true, true, false, true, true, false, false, false, false] rfl rfl (any_of HT_.out (by kernel_rfl)) (fun _ _ _ h => h) (Or.inl ⟨by rfl, ?_⟩) ?_ ?_
                        rotate_left
                        · intro w'
                          go_simp
                          with_reducible rfl
                        rotate_left
                        · simp only [Act.put, List.setIfInBounds_toArray, List.set_cons_zero, List.set_cons_succ, i64_w, i32_w]
                          rfl
                        refine take_ (i := 14) (N := some 47) (v := ?_) (a' := ?_) #[true, true, true, true, true, true, true, true, true, true, true, true, true, true, true, true, true, false, true, true, false, false, false, false] rfl rfl (take_ofW HT_.out HW_.out (by kernel_rfl)) (fun _ _ _ h => h) (Or.inl ⟨by rfl, ?_⟩) hHeld ?_ ?_
                        rotate_left
                        · rintro w' ⟨s0, s1, s2, s3, s4⟩
                          go_simp
                          with_reducible rfl
                        rotate_left
                        · simp only [Act.put, List.setIfInBounds_toArray, List.set_cons_zero, List.set_cons_succ, i64_w, i32_w]
                          rfl
                        refine take_ (i := 17) (N := some 50) (v := ?_) (a' := ?_) #[true, true, true, true, true, true, true, true, true, true, true, true, true, true, true, true, true, true, true, true, false, false, false, false] rfl rfl (take_ofW HT_.out HW_.out (by kernel_rfl)) (fun _ _ _ h => h) (Or.inl ⟨by rfl, ?_⟩) hHeld ?_ ?_
                        rotate_left
                        · rintro w' ⟨s0, s1, s2, s3, s4⟩
                          go_simp
                          with_reducible rfl
                        rotate_left
                        · simp only [Act.put, List.setIfInBounds_toArray, List.set_cons_zero, List.set_cons_succ, i64_w, i32_w]
                          rfl
                        refine take_ (i := 20) (N := some 53) (v := ?_) (a' := ?_) #[true, true, true, true, true, true, true, true, true, true, true, true, true, true, true, true, true, true, true, true, true, false, false, false] rfl rfl (take_ofW HT_.out HW_.out (by kernel_rfl)) (fun _ _ _ h => h) (Or.inl ⟨by rfl, ?_⟩) hHeld ?_ ?_
                        rotate_left
                        · rintro w' ⟨s0, s1, s2, s3, s4⟩
                          go_simp
                          with_reducible rfl
                        rotate_left
                        · simp only [Act.put, List.setIfInBounds_toArray, List.set_cons_zero, List.set_cons_succ, i64_w, i32_w]
                          rfl
                        refine pure_ (i := 21) (N := some 54) (v := ?_) (a' := ?_) #[true, true, true, true, true, true, true, true, true, true, true, true, true, true, true, true, true, true, true, true, true, true, false, false] rfl rfl (any_of HT_.out (by kernel_rfl)) (fun _ _ _ h => h) (Or.inl ⟨by rfl, ?_⟩) ?_ ?_
                        rotate_left
                        · intro w'
                          go_simp
                          with_reducible rfl
                        rotate_left
                        · simp only [Act.put, List.setIfInBounds_toArray, List.set_cons_zero, List.set_cons_succ, i64_w, i32_w]
                          rfl
                        refine one_ (i := 22) (N := none) #[true, true, true, true, true, true, true, true, true, true, true, true, true, true, true, true, true, true, true, true, true, true, true, false] rfl rfl (one_of HT_.out (by kernel_rfl)) (by decide) (fun K hK => ?_)
                        have hs25 : w23.cell? ⟨gb156, 0, none⟩ = some (.int .i64 0) := (blk_cell BK156.out 0).trans rfl
                        have hfs25 := blk_frozen BK156.out 0
                        have hs26 : w23.cell? ⟨gb156, 1, none⟩ = some (.int .u32 0) := (blk_cell BK156.out 1).trans rfl
                        have hfs26 := blk_frozen BK156.out 1
                        have hs27 : w23.cell? ⟨gb156, 2, none⟩ = some (.int .u64 0) := (blk_cell BK156.out 2).trans rfl
                        have hfs27 := blk_frozen BK156.out 2
                        have hs28 : w23.cell? ⟨gb156, 3, none⟩ = some (.int .u64 0) := (blk_cell BK156.out 3).trans rfl
                        have hfs28 := blk_frozen BK156.out 3
                        have hs29 : w23.cell? ⟨gb156, 4, none⟩ = some (.int .u64 0) := (blk_cell BK156.out 4).trans rfl
                        have hfs29 := blk_frozen BK156.out 4
                        have hs30 : w23.cell? ⟨gb156, 5, none⟩ = some (.int .u64 0) := (blk_cell BK156.out 5).trans rfl
                        have hfs30 := blk_frozen BK156.out 5
                        have hs31 : w23.cell? ⟨gb156, 6, none⟩ = some (.int .u64 0) := (blk_cell BK156.out 6).trans rfl
                        have hfs31 := blk_frozen BK156.out 6
                        refine skip_ (w1 := ?_) (by rfl) rfl ?_ ?_
                        rotate_left
                        · go_simp
                          rfl
                        refine hK.out _ _ ⟨((cell_far (p := ⟨gb156, _, none⟩) (by first | exact Kd.own_blk (Kd.R_ne HO164.out BK156.out (by decide)) | (rw [add_block]; exact Kd.own_blk (Kd.R_ne HO164.out BK156.out (by decide))) | (show (Addr.add _ _).block ≠ _; rw [add_block]; exact Kd.own_blk (Kd.R_ne HO164.out BK156.out (by decide))) | (dsimp only; exact Kd.own_blk (Kd.R_ne HO164.out BK156.out (by decide)))) _).trans (((cell_far (p := ⟨gb156, _, none⟩) (by first | exact Kd.own_blk (Kd.R_ne HO164.out BK156.out (by decide)) | (rw [add_block]; exact Kd.own_blk (Kd.R_ne HO164.out BK156.out (by decide))) | (show (Addr.add _ _).block ≠ _; rw [add_block]; exact Kd.own_blk (Kd.R_ne HO164.out BK156.out (by decide))) | (dsimp only; exact Kd.own_blk (Kd.R_ne HO164.out BK156.out (by decide)))) _).trans (((cell_far (p := ⟨gb156, _, none⟩) (by first | exact Kd.own_blk (Kd.R_ne HO164.out BK156.out (by decide)) | (rw [add_block]; exact Kd.own_blk (Kd.R_ne HO164.out BK156.out (by decide))) | (show (Addr.add _ _).block ≠ _; rw [add_block]; exact Kd.own_blk (Kd.R_ne HO164.out BK156.out (by decide))) | (dsimp only; exact Kd.own_blk (Kd.R_ne HO164.out BK156.out (by decide)))) _).trans (((cell_far (p := ⟨gb156, _, none⟩) (by first | exact Kd.own_blk (Kd.R_ne HO164.out BK156.out (by decide)) | (rw [add_block]; exact Kd.own_blk (Kd.R_ne HO164.out BK156.out (by decide))) | (show (Addr.add _ _).block ≠ _; rw [add_block]; exact Kd.own_blk (Kd.R_ne HO164.out BK156.out (by decide))) | (dsimp only; exact Kd.own_blk (Kd.R_ne HO164.out BK156.out (by decide)))) _).trans (((cell_far (p := ⟨gb156, _, none⟩) (by first | exact Kd.own_blk (Kd.R_ne HO164.out BK156.out (by decide)) | (rw [add_block]; exact Kd.own_blk (Kd.R_ne HO164.out BK156.out (by decide))) | (show (Addr.add _ _).block ≠ _; rw [add_block]; exact Kd.own_blk (Kd.R_ne HO164.out BK156.out (by decide))) | (dsimp only; exact Kd.own_blk (Kd.R_ne HO164.out BK156.out (by decide)))) _).trans (((cell_far (p := ⟨gb156, _, none⟩) (by first | exact Kd.own_blk (Kd.R_ne HO164.out BK156.out (by decide)) | (rw [add_block]; exact Kd.own_blk (Kd.R_ne HO164.out BK156.out (by decide))) | (show (Addr.add _ _).block ≠ _; rw [add_block]; exact Kd.own_blk (Kd.R_ne HO164.out BK156.out (by decide))) | (dsimp only; exact Kd.own_blk (Kd.R_ne HO164.out BK156.out (by decide)))) _).trans (((cell_far (p := ⟨gb156, _, none⟩) (by first | exact Kd.own_blk (Kd.R_ne HO164.out BK156.out (by decide)) | (rw [add_block]; exact Kd.own_blk (Kd.R_ne HO164.out BK156.out (by decide))) | (show (Addr.add _ _).block ≠ _; rw [add_block]; exact Kd.own_blk (Kd.R_ne HO164.out BK156.out (by decide))) | (dsimp only; exact Kd.own_blk (Kd.R_ne HO164.out BK156.out (by decide)))) _).trans (hHeld.1)))))))))))))), ((cell_far (p := ⟨gb156, _, none⟩) (by first | exact Kd.own_blk (Kd.R_ne HO164.out BK156.out (by decide)) | (rw [add_block]; exact Kd.own_blk (Kd.R_ne HO164.out BK156.out (by decide))) | (show (Addr.add _ _).block ≠ _; rw [add_block]; exact Kd.own_blk (Kd.R_ne HO164.out BK156.out (by decide))) | (dsimp only; exact Kd.own_blk (Kd.R_ne HO164.out BK156.out (by decide)))) _).trans (((cell_far (p := ⟨gb156, _, none⟩) (by first | exact Kd.own_blk (Kd.R_ne HO164.out BK156.out (by decide)) | (rw [add_block]; exact Kd.own_blk (Kd.R_ne HO164.out BK156.out (by decide))) | (show (Addr.add _ _).block ≠ _; rw [add_block]; exact Kd.own_blk (Kd.R_ne HO164.out BK156.out (by decide))) | (dsimp only; exact Kd.own_blk (Kd.R_ne HO164.out BK156.out (by decide)))) _).trans (((cell_far (p := ⟨gb156, _, none⟩) (by first | exact Kd.own_blk (Kd.R_ne HO164.out BK156.out (by decide)) | (rw [add_block]; exact Kd.own_blk (Kd.R_ne HO164.out BK156.out (by decide))) | (show (Addr.add _ _).block ≠ _; rw [add_block]; exact Kd.own_blk (Kd.R_ne HO164.out BK156.out (by decide))) | (dsimp only; exact Kd.own_blk (Kd.R_ne HO164.out BK156.out (by decide)))) _).trans (((cell_far (p := ⟨gb156, _, none⟩) (by first | exact Kd.own_blk (Kd.R_ne HO164.out BK156.out (by decide)) | (rw [add_block]; exact Kd.own_blk (Kd.R_ne HO164.out BK156.out (by decide))) | (show (Addr.add _ _).block ≠ _; rw [add_block]; exact Kd.own_blk (Kd.R_ne HO164.out BK156.out (by decide))) | (dsimp only; exact Kd.own_blk (Kd.R_ne HO164.out BK156.out (by decide)))) _).trans (((cell_far (p := ⟨gb156, _, none⟩) (by first | exact Kd.own_blk (Kd.R_ne HO164.out BK156.out (by decide)) | (rw [add_block]; exact Kd.own_blk (Kd.R_ne HO164.out BK156.out (by decide))) | (show (Addr.add _ _).block ≠ _; rw [add_block]; exact Kd.own_blk (Kd.R_ne HO164.out BK156.out (by decide))) | (dsimp only; exact Kd.own_blk (Kd.R_ne HO164.out BK156.out (by decide)))) _).trans (((cell_far (p := ⟨gb156, _, none⟩) (by first | exact Kd.own_blk (Kd.R_ne HO164.out BK156.out (by decide)) | (rw [add_block]; exact Kd.own_blk (Kd.R_ne HO164.out BK156.out (by decide))) | (show (Addr.add _ _).block ≠ _; rw [add_block]; exact Kd.own_blk (Kd.R_ne HO164.out BK156.out (by decide))) | (dsimp only; exact Kd.own_blk (Kd.R_ne HO164.out BK156.out (by decide)))) _).trans (((cell_far (p := ⟨gb156, _, none⟩) (by first | exact Kd.own_blk (Kd.R_ne HO164.out BK156.out (by decide)) | (rw [add_block]; exact Kd.own_blk (Kd.R_ne HO164.out BK156.out (by decide))) | (show (Addr.add _ _).block ≠ _; rw [add_block]; exact Kd.own_blk (Kd.R_ne HO164.out BK156.out (by decide))) | (dsimp only; exact Kd.own_blk (Kd.R_ne HO164.out BK156.out (by decide)))) _).trans (hHeld.2.1)))))))))))))), ((cell_far (p := ⟨gb156, _, none⟩) (by first | exact Kd.own_blk (Kd.R_ne HO164.out BK156.out (by decide)) | (rw [add_block]; exact Kd.own_blk (Kd.R_ne HO164.out BK156.out (by decide))) | (show (Addr.add _ _).block ≠ _; rw [add_block]; exact Kd.own_blk (Kd.R_ne HO164.out BK156.out (by decide))) | (dsimp only; exact Kd.own_blk (Kd.R_ne HO164.out BK156.out (by decide)))) _).trans (((cell_far (p := ⟨gb156, _, none⟩) (by first | exact Kd.own_blk (Kd.R_ne HO164.out BK156.out (by decide)) | (rw [add_block]; exact Kd.own_blk (Kd.R_ne HO164.out BK156.out (by decide))) | (show (Addr.add _ _).block ≠ _; rw [add_block]; exact Kd.own_blk (Kd.R_ne HO164.out BK156.out (by decide))) | (dsimp only; exact Kd.own_blk (Kd.R_ne HO164.out BK156.out (by decide)))) _).trans (((cell_far (p := ⟨gb156, _, none⟩) (by first | exact Kd.own_blk (Kd.R_ne HO164.out BK156.out (by decide)) | (rw [add_block]; exact Kd.own_blk (Kd.R_ne HO164.out BK156.out (by decide))) | (show (Addr.add _ _).block ≠ _; rw [add_block]; exact Kd.own_blk (Kd.R_ne HO164.out BK156.out (by decide))) | (dsimp only; exact Kd.own_blk (Kd.R_ne HO164.out BK156.out (by decide)))) _).trans (((cell_far (p := ⟨gb156, _, none⟩) (by first | exact Kd.own_blk (Kd.R_ne HO164.out BK156.out (by decide)) | (rw [add_block]; exact Kd.own_blk (Kd.R_ne HO164.out BK156.out (by decide))) | (show (Addr.add _ _).block ≠ _; rw [add_block]; exact Kd.own_blk (Kd.R_ne HO164.out BK156.out (by decide))) | (dsimp only; exact Kd.own_blk (Kd.R_ne HO164.out BK156.out (by decide)))) _).trans (((cell_far (p := ⟨gb156, _, none⟩) (by first | exact Kd.own_blk (Kd.R_ne HO164.out BK156.out (by decide)) | (rw [add_block]; exact Kd.own_blk (Kd.R_ne HO164.out BK156.out (by decide))) | (show (Addr.add _ _).block ≠ _; rw [add_block]; exact Kd.own_blk (Kd.R_ne HO164.out BK156.out (by decide))) | (dsimp only; exact Kd.own_blk (Kd.R_ne HO164.out BK156.out (by decide)))) _).trans (((cell_far (p := ⟨gb156, _, none⟩) (by first | exact Kd.own_blk (Kd.R_ne HO164.out BK156.out (by decide)) | (rw [add_block]; exact Kd.own_blk (Kd.R_ne HO164.out BK156.out (by decide))) | (show (Addr.add _ _).block ≠ _; rw [add_block]; exact Kd.own_blk (Kd.R_ne HO164.out BK156.out (by decide))) | (dsimp only; exact Kd.own_blk (Kd.R_ne HO164.out BK156.out (by decide)))) _).trans (((cell_far (p := ⟨gb156, _, none⟩) (by first | exact Kd.own_blk (Kd.R_ne HO164.out BK156.out (by decide)) | (rw [add_block]; exact Kd.own_blk (Kd.R_ne HO164.out BK156.out (by decide))) | (show (Addr.add _ _).block ≠ _; rw [add_block]; exact Kd.own_blk (Kd.R_ne HO164.out BK156.out (by decide))) | (dsimp only; exact Kd.own_blk (Kd.R_ne HO164.out BK156.out (by decide)))) _).trans (hHeld.2.2.1)))))))))))))), ((cell_far (p := ⟨gb156, _, none⟩) (by first | exact Kd.own_blk (Kd.R_ne HO164.out BK156.out (by decide)) | (rw [add_block]; exact Kd.own_blk (Kd.R_ne HO164.out BK156.out (by decide))) | (show (Addr.add _ _).block ≠ _; rw [add_block]; exact Kd.own_blk (Kd.R_ne HO164.out BK156.out (by decide))) | (dsimp only; exact Kd.own_blk (Kd.R_ne HO164.out BK156.out (by decide)))) _).trans (((cell_far (p := ⟨gb156, _, none⟩) (by first | exact Kd.own_blk (Kd.R_ne HO164.out BK156.out (by decide)) | (rw [add_block]; exact Kd.own_blk (Kd.R_ne HO164.out BK156.out (by decide))) | (show (Addr.add _ _).block ≠ _; rw [add_block]; exact Kd.own_blk (Kd.R_ne HO164.out BK156.out (by decide))) | (dsimp only; exact Kd.own_blk (Kd.R_ne HO164.out BK156.out (by decide)))) _).trans (((cell_far (p := ⟨gb156, _, none⟩) (by first | exact Kd.own_blk (Kd.R_ne HO164.out BK156.out (by decide)) | (rw [add_block]; exact Kd.own_blk (Kd.R_ne HO164.out BK156.out (by decide))) | (show (Addr.add _ _).block ≠ _; rw [add_block]; exact Kd.own_blk (Kd.R_ne HO164.out BK156.out (by decide))) | (dsimp only; exact Kd.own_blk (Kd.R_ne HO164.out BK156.out (by decide)))) _).trans (((cell_far (p := ⟨gb156, _, none⟩) (by first | exact Kd.own_blk (Kd.R_ne HO164.out BK156.out (by decide)) | (rw [add_block]; exact Kd.own_blk (Kd.R_ne HO164.out BK156.out (by decide))) | (show (Addr.add _ _).block ≠ _; rw [add_block]; exact Kd.own_blk (Kd.R_ne HO164.out BK156.out (by decide))) | (dsimp only; exact Kd.own_blk (Kd.R_ne HO164.out BK156.out (by decide)))) _).trans (((cell_far (p := ⟨gb156, _, none⟩) (by first | exact Kd.own_blk (Kd.R_ne HO164.out BK156.out (by decide)) | (rw [add_block]; exact Kd.own_blk (Kd.R_ne HO164.out BK156.out (by decide))) | (show (Addr.add _ _).block ≠ _; rw [add_block]; exact Kd.own_blk (Kd.R_ne HO164.out BK156.out (by decide))) | (dsimp only; exact Kd.own_blk (Kd.R_ne HO164.out BK156.out (by decide)))) _).trans (((cell_far (p := ⟨gb156, _, none⟩) (by first | exact Kd.own_blk (Kd.R_ne HO164.out BK156.out (by decide)) | (rw [add_block]; exact Kd.own_blk (Kd.R_ne HO164.out BK156.out (by decide))) | (show (Addr.add _ _).block ≠ _; rw [add_block]; exact Kd.own_blk (Kd.R_ne HO164.out BK156.out (by decide))) | (dsimp only; exact Kd.own_blk (Kd.R_ne HO164.out BK156.out (by decide)))) _).trans (((cell_far (p := ⟨gb156, _, none⟩) (by first | exact Kd.own_blk (Kd.R_ne HO164.out BK156.out (by decide)) | (rw [add_block]; exact Kd.own_blk (Kd.R_ne HO164.out BK156.out (by decide))) | (show (Addr.add _ _).block ≠ _; rw [add_block]; exact Kd.own_blk (Kd.R_ne HO164.out BK156.out (by decide))) | (dsimp only; exact Kd.own_blk (Kd.R_ne HO164.out BK156.out (by decide)))) _).trans (hHeld.2.2.2.1)))))))))))))), ((cell_far (p := ⟨gb156, _, none⟩) (by first | exact Kd.own_blk (Kd.R_ne HO164.out BK156.out (by decide)) | (rw [add_block]; exact Kd.own_blk (Kd.R_ne HO164.out BK156.out (by decide))) | (show (Addr.add _ _).block ≠ _; rw [add_block]; exact Kd.own_blk (Kd.R_ne HO164.out BK156.out (by decide))) | (dsimp only; exact Kd.own_blk (Kd.R_ne HO164.out BK156.out (by decide)))) _).trans (((cell_far (p := ⟨gb156, _, none⟩) (by first | exact Kd.own_blk (Kd.R_ne HO164.out BK156.out (by decide)) | (rw [add_block]; exact Kd.own_blk (Kd.R_ne HO164.out BK156.out (by decide))) | (show (Addr.add _ _).block ≠ _; rw [add_block]; exact Kd.own_blk (Kd.R_ne HO164.out BK156.out (by decide))) | (dsimp only; exact Kd.own_blk (Kd.R_ne HO164.out BK156.out (by decide)))) _).trans (((cell_far (p := ⟨gb156, _, none⟩) (by first | exact Kd.own_blk (Kd.R_ne HO164.out BK156.out (by decide)) | (rw [add_block]; exact Kd.own_blk (Kd.R_ne HO164.out BK156.out (by decide))) | (show (Addr.add _ _).block ≠ _; rw [add_block]; exact Kd.own_blk (Kd.R_ne HO164.out BK156.out (by decide))) | (dsimp only; exact Kd.own_blk (Kd.R_ne HO164.out BK156.out (by decide)))) _).trans (((cell_far (p := ⟨gb156, _, none⟩) (by first | exact Kd.own_blk (Kd.R_ne HO164.out BK156.out (by decide)) | (rw [add_block]; exact Kd.own_blk (Kd.R_ne HO164.out BK156.out (by decide))) | (show (Addr.add _ _).block ≠ _; rw [add_block]; exact Kd.own_blk (Kd.R_ne HO164.out BK156.out (by decide))) | (dsimp only; exact Kd.own_blk (Kd.R_ne HO164.out BK156.out (by decide)))) _).trans (((cell_far (p := ⟨gb156, _, none⟩) (by first | exact Kd.own_blk (Kd.R_ne HO164.out BK156.out (by decide)) | (rw [add_block]; exact Kd.own_blk (Kd.R_ne HO164.out BK156.out (by decide))) | (show (Addr.add _ _).block ≠ _; rw [add_block]; exact Kd.own_blk (Kd.R_ne HO164.out BK156.out (by decide))) | (dsimp only; exact Kd.own_blk (Kd.R_ne HO164.out BK156.out (by decide)))) _).trans (((cell_far (p := ⟨gb156, _, none⟩) (by first | exact Kd.own_blk (Kd.R_ne HO164.out BK156.out (by decide)) | (rw [add_block]; exact Kd.own_blk (Kd.R_ne HO164.out BK156.out (by decide))) | (show (Addr.add _ _).block ≠ _; rw [add_block]; exact Kd.own_blk (Kd.R_ne HO164.out BK156.out (by decide))) | (dsimp only; exact Kd.own_blk (Kd.R_ne HO164.out BK156.out (by decide)))) _).trans (((cell_far (p := ⟨gb156, _, none⟩) (by first | exact Kd.own_blk (Kd.R_ne HO164.out BK156.out (by decide)) | (rw [add_block]; exact Kd.own_blk (Kd.R_ne HO164.out BK156.out (by decide))) | (show (Addr.add _ _).block ≠ _; rw [add_block]; exact Kd.own_blk (Kd.R_ne HO164.out BK156.out (by decide))) | (dsimp only; exact Kd.own_blk (Kd.R_ne HO164.out BK156.out (by decide)))) _).trans (hHeld.2.2.2.2))))))))))))))⟩ (fun hHeld => ?_)
                        clear hK K
                        refine pure_ (i := 23) (N := some 3) (v := ?_) (a' := ?_) #[true, true, true, true, true, true, true, true, true, true, true, true, true, true, true, true, true, true, true, true, true, true, true, true] rfl rfl (any_of HT_.out (by kernel_rfl)) (fun _ _ _ h => h) (Or.inl ⟨by rfl, ?_⟩) ?_ ?_
                        rotate_left
                        · intro w'
                          go_simp
                          with_reducible rfl
                        rotate_left
                        · simp only [Act.put, List.setIfInBounds_toArray, List.set_cons_zero, List.set_cons_succ, i64_w, i32_w]
                          rfl
                        refine done_ (done_of HT_.out (by kernel_rfl)) ?_
                        try go_wp2
                        refine bodyPost_ret (results_ct rfl _ _ gb156 32 #[.int .i64 (wrap64 (bt a0 0)), .int .u32 ((t158) % 4294967296), .int .u64 (rd t160 0), .int .u64 (rd t160 1), .int .u64 (rd t160 2), .int .u64 (rd t160 3), .int .u64 (rd t160 4)] (0, 0) _ rfl (by (with_reducible repeat (first | refine blk_drewN ?_ _ | refine blk_drew ?_ | refine blk_alloc ?_ _)); refine blk_put (cs := #[.int .i64 (wrap64 (bt a0 0)), .int .u32 ((t158) % 4294967296), .int .u64 (rd t160 0), .int .u64 (rd t160 1), .int .u64 (rd t160 2), .int .u64 (rd t160 3), .int .u64 0]) ?_ 6 _ rfl; (with_reducible repeat (first | refine blk_drewN ?_ _ | refine blk_drew ?_ | refine blk_alloc ?_ _)); refine blk_put (cs := #[.int .i64 (wrap64 (bt a0 0)), .int .u32 ((t158) % 4294967296), .int .u64 (rd t160 0), .int .u64 (rd t160 1), .int .u64 (rd t160 2), .int .u64 0, .int .u64 0]) ?_ 5 _ rfl; (with_reducible repeat (first | refine blk_drewN ?_ _ | refine blk_drew ?_ | refine blk_alloc ?_ _)); refine blk_put (cs := #[.int .i64 (wrap64 (bt a0 0)), .int .u32 ((t158) % 4294967296), .int .u64 (rd t160 0), .int .u64 (rd t160 1), .int .u64 0, .int .u64 0, .int .u64 0]) ?_ 4 _ rfl; (with_reducible repeat (first | refine blk_drewN ?_ _ | refine blk_drew ?_ | refine blk_alloc ?_ _)); refine blk_put (cs := #[.int .i64 (wrap64 (bt a0 0)), .int .u32 ((t158) % 4294967296), .int .u64 (rd t160 0), .int .u64 0, .int .u64 0, .int .u64 0, .int .u64 0]) ?_ 3 _ rfl; (with_reducible repeat (first | refine blk_drewN ?_ _ | refine blk_drew ?_ | refine blk_alloc ?_ _)); refine blk_put (cs := #[.int .i64 (wrap64 (bt a0 0)), .int .u32 ((t158) % 4294967296), .int .u64 0, .int .u64 0, .int .u64 0, .int .u64 0, .int .u64 0]) ?_ 2 _ rfl; (with_reducible repeat (first | refine blk_drewN ?_ _ | refine blk_drew ?_ | refine blk_alloc ?_ _)); refine blk_put (cs := #[.int .i64 (wrap64 (bt a0 0)), .int .u32 0, .int .u64 0, .int .u64 0, .int .u64 0, .int .u64 0, .int .u64 0]) ?_ 1 _ rfl; (with_reducible repeat (first | refine blk_drewN ?_ _ | refine blk_drew ?_ | refine blk_alloc ?_ _)); refine blk_put (cs := #[.int .i64 0, .int .u32 0, .int .u64 0, .int .u64 0, .int .u64 0, .int .u64 0, .int .u64 0]) ?_ 0 _ rfl; (with_reducible repeat (first | refine blk_drewN ?_ _ | refine blk_drew ?_ | refine blk_alloc ?_ _)); exact BK156.out) Try.underlying32 rfl (by kernel_rfl)) rfl ?_
                        exact ⟨by first | rfl | (simp [errW_none, errW_some] <;> rfl) | (simp [*, errW_none, errW_some] <;> rfl), by repeat (first | (with_reducible first | exact HB.out | apply below_alloc | apply pw_below_drewN | apply below_drew1 | refine below_set ?_ GE156.out) | exact HB.out)⟩
                      · rw [if_neg c21] at H
                        exact absurd H (by simp)
                    · rw [if_neg c20] at H
                      exact absurd H (by simp)
                  · rw [if_neg c19] at H
                    exact absurd H (by simp)
                · rw [if_neg c18] at H
                  exact absurd H (by simp)
              · rw [if_neg c17] at H
                exact absurd H (by simp)
            · rw [if_neg c15] at H
              exact absurd H (by simp)
          · rw [if_neg c11] at H
            exact absurd H (by simp)
        · rw [if_neg c10] at H
          exact absurd H (by simp)

end Go.Proofs.Ytikekepiimaccaa.Kb

/- Printed by hp.py, a program of this session, out of the translation: each Go function as a plain Lean function and the contract of its call. No conditions beyond those in the statements. -/
import Derived.Test.YtikekepiimaccaaKt0
import Derived.Test.YtikekepiimaccaaKt1
import Derived.Test.YtikekepiimaccaaKt4
namespace Go.Proofs.Ytikekepiimaccaa.Kt
open Go.RowKit Go.Proofs.YtikekepiimaccaaW.PrintWords Go.Proofs.YtikekepiimaccaaW.PrintLast Go.Proofs.YtikekepiimaccaaW.PrintMore
attribute [local go_sem] max2_int min2_int max_two min_two max_three min_three max_four min_four   -- for this text's walks alone
set_option linter.unusedVariables false
set_option linter.unusedSimpArgs false

/-! ### key_Snap: function 56 -/
def key_Snap.f (k : Nat) (a0 : Int) (a1 : Int) : Option (ByteArray) := (key_kind_four.f k (⟨#[110]⟩ : ByteArray) a0).bind fun t189 => ((key_kind_eight.f k t189 a1).bind fun t190 => (some t190))
theorem key_Snap.mono : ∀ a0 a1 k, LeO (key_Snap.f k a0 a1) (key_Snap.f (k + 1) a0 a1) := by
  intro a0 a1 k
  unfold key_Snap.f
  repeat' first
      | (with_reducible exact key_kind_eight.mono _ _ _)
      | (with_reducible exact key_kind_four.mono _ _ _)
      | (with_reducible exact LeO.refl _)
      | (with_reducible exact LeO.none _)
      | (with_reducible refine LeO.ite ?_ ?_)
      | (with_reducible refine LeO.bind ?_ (fun _ => ?_))
      | exact key_kind_eight.mono _ _ _
      | exact key_kind_four.mono _ _ _
      | exact LeO.none _
      | refine LeO.ite ?_ ?_
      | refine LeO.bind ?_ (fun _ => ?_)
set_option maxHeartbeats 8000000 in
set_option maxRecDepth 100000 in
theorem key_Snap.calls (k : Nat) (a0 : Int) (a1 : Int) (r : ByteArray) (w : World) (h : key_Snap.f k a0 a1 = some r) :
    Calls Try.prog 56 #[.int .u32 a0, .int .u64 a1] w fun e w' => e = .returned (.string r) ∧ Below w.heap.size w w' := by
  have HB := Aside0.mk (Below.refl w.heap.size w)
  have H : ((key_kind_four.f k (⟨#[110]⟩ : ByteArray) a0).bind fun t189 => ((key_kind_eight.f k t189 a1).bind fun t190 => (some t190))) = some r := h
  clear h
  replace H := Option.bind_eq_some_iff.mp H
  obtain ⟨t189, A30, H⟩ := H
  replace H : ((key_kind_eight.f k t189 a1).bind fun t190 => (some t190)) = some r := H
  have A3 := Aside0.mk A30
  clear A30
  replace H := Option.bind_eq_some_iff.mp H
  obtain ⟨t190, A40, H⟩ := H
  replace H : (some t190) = some r := H
  have A4 := Aside0.mk A40
  clear A40
  obtain rfl := Option.some.inj H
  go_enter Try.func56, Try.ntmps56
  go_wp2_with (first | ((with_reducible refine gate_callee (f := 109) rfl ?_); refine goesL_ (some 6) rfl rfl Try.func109 (by kernel_rfl) rfl #[.string (⟨#[110]⟩ : ByteArray), .int .u32 a0] rfl (by (try simp only [List.map_toArray, List.map_cons, List.map_nil]); first | done | rfl | (simp only [List.length_drop, List.length_take]; rfl)) ?_; (with_reducible refine (key_kind_four.calls k (⟨#[110]⟩ : ByteArray) a0 t189 _ A3.out).mono ?_); rintro e w5 ⟨rfl, hb⟩; refine ⟨_, rfl, ?_⟩; have n0_ := Aside0.mk (below_step (by repeat (first | (with_reducible first | exact HB.out | apply below_alloc | apply pw_below_drewN | apply below_drew1) | exact HB.out)) hb); clear HB; have HB := n0_; clear n0_; (try clear hb); (try clear hb2); (try clear hk); (try clear hi)) | ((with_reducible refine gate_callee (f := 92) rfl ?_); refine goesL_ (some 8) rfl rfl Try.func92 (by kernel_rfl) rfl #[.string t189, .int .u64 a1] rfl (by (try simp only [List.map_toArray, List.map_cons, List.map_nil]); first | done | rfl | (simp only [List.length_drop, List.length_take]; rfl)) ?_; (with_reducible refine (key_kind_eight.calls k t189 a1 t190 _ A4.out).mono ?_); rintro e w6 ⟨rfl, hb⟩; refine ⟨_, rfl, ?_⟩; have n0_ := Aside0.mk (below_step (by repeat (first | (with_reducible first | exact HB.out | apply below_alloc | apply pw_below_drewN | apply below_drew1) | exact HB.out)) hb); clear HB; have HB := n0_; clear n0_; (try clear hb); (try clear hb2); (try clear hk); (try clear hi)))
  go_ret
  exact ⟨by first | rfl | (simp [errW_none, errW_some] <;> rfl) | (simp [*, errW_none, errW_some] <;> rfl), by repeat (first | (with_reducible first | exact HB.out | apply below_alloc | apply pw_below_drewN | apply below_drew1) | exact HB.out)⟩

/-! ### holtref12_Snap: function 57 -/
def holtref12_Snap.f (k : Nat) (a0 : Int) (a1 : Int) : Option (ByteArray) := (holtref1_B4.f k a0).bind fun t191 => (if 1 + t191.size ≤ 9223372036854775807 then ((holtref12_b.f k a1).bind fun t192 => (if ((⟨#[110]⟩ : ByteArray) ++ t191).size + t192.size ≤ 9223372036854775807 then (some (((⟨#[110]⟩ : ByteArray) ++ t191) ++ t192)) else (none))) else (none))
theorem holtref12_Snap.mono : ∀ a0 a1 k, LeO (holtref12_Snap.f k a0 a1) (holtref12_Snap.f (k + 1) a0 a1) := by
  intro a0 a1 k
  unfold holtref12_Snap.f
  repeat' first
      | (with_reducible exact holtref12_b.mono _ _)
      | (with_reducible exact holtref1_B4.mono _ _)
      | (with_reducible exact LeO.refl _)
      | (with_reducible exact LeO.none _)
      | (with_reducible refine LeO.ite ?_ ?_)
      | (with_reducible refine LeO.bind ?_ (fun _ => ?_))
      | exact holtref12_b.mono _ _
      | exact holtref1_B4.mono _ _
      | exact LeO.none _
      | refine LeO.ite ?_ ?_
      | refine LeO.bind ?_ (fun _ => ?_)
set_option maxHeartbeats 8000000 in
set_option maxRecDepth 100000 in
theorem holtref12_Snap.calls (k : Nat) (a0 : Int) (a1 : Int) (r : ByteArray) (w : World) (h : holtref12_Snap.f k a0 a1 = some r) :
    Calls Try.prog 57 #[.int .u32 a0, .int .u64 a1] w fun e w' => e = .returned (.string r) ∧ Below w.heap.size w w' := by
  have HB := Aside0.mk (Below.refl w.heap.size w)
  have H : ((holtref1_B4.f k a0).bind fun t191 => (if 1 + t191.size ≤ 9223372036854775807 then ((holtref12_b.f k a1).bind fun t192 => (if ((⟨#[110]⟩ : ByteArray) ++ t191).size + t192.size ≤ 9223372036854775807 then (some (((⟨#[110]⟩ : ByteArray) ++ t191) ++ t192)) else (none))) else (none))) = some r := h
  clear h
  replace H := Option.bind_eq_some_iff.mp H
  obtain ⟨t191, A30, H⟩ := H
  replace H : (if 1 + t191.size ≤ 9223372036854775807 then ((holtref12_b.f k a1).bind fun t192 => (if ((⟨#[110]⟩ : ByteArray) ++ t191).size + t192.size ≤ 9223372036854775807 then (some (((⟨#[110]⟩ : ByteArray) ++ t191) ++ t192)) else (none))) else (none)) = some r := H
  have A3 := Aside0.mk A30
  clear A30
  by_cases c4 : 1 + t191.size ≤ 9223372036854775807
  · rw [if_pos c4] at H
    have c4b0 := eq_true c4
    have c4b1 : decide (1 + t191.size ≤ 9223372036854775807) = true := decide_eq_true c4
    try have c4b2 : (9223372036854775807 < 1 + t191.size) = False := eq_false (Nat.not_lt.2 c4)
    replace H := Option.bind_eq_some_iff.mp H
    obtain ⟨t192, A50, H⟩ := H
    replace H : (if ((⟨#[110]⟩ : ByteArray) ++ t191).size + t192.size ≤ 9223372036854775807 then (some (((⟨#[110]⟩ : ByteArray) ++ t191) ++ t192)) else (none)) = some r := H
    have A5 := Aside0.mk A50
    clear A50
    by_cases c6 : ((⟨#[110]⟩ : ByteArray) ++ t191).size + t192.size ≤ 9223372036854775807
    · rw [if_pos c6] at H
      have c6b0 := eq_true c6
      have c6b1 : decide (((⟨#[110]⟩ : ByteArray) ++ t191).size + t192.size ≤ 9223372036854775807) = true := decide_eq_true c6
      try have c6b2 : (9223372036854775807 < ((⟨#[110]⟩ : ByteArray) ++ t191).size + t192.size) = False := eq_false (Nat.not_lt.2 c6)
      try (have c6b2x := c6b2; simp only [ByteArray.size_append, Go.Proofs.Ytikekepiimaccaa.X.lit_size, List.length_cons, List.length_nil, Nat.zero_add, Nat.reduceAdd] at c6b2x)
      obtain rfl := Option.some.inj H
      go_enter Try.func57, Try.ntmps57
      go_wp2_with (first | ((with_reducible refine gate_callee (f := 110) rfl ?_); refine goesL_ (some 6) rfl rfl Try.func110 (by kernel_rfl) rfl #[.int .u32 a0] rfl (by (try simp only [List.map_toArray, List.map_cons, List.map_nil]); first | done | rfl | (simp only [List.length_drop, List.length_take]; rfl)) ?_; (with_reducible refine (holtref1_B4.calls k a0 t191 _ A3.out).mono ?_); rintro e w7 ⟨rfl, hb⟩; refine ⟨_, rfl, ?_⟩; have n0_ := Aside0.mk (below_step (by repeat (first | (with_reducible first | exact HB.out | apply below_alloc | apply pw_below_drewN | apply below_drew1) | exact HB.out)) hb); clear HB; have HB := n0_; clear n0_; (try clear hb); (try clear hb2); (try clear hk); (try clear hi)) | ((with_reducible refine gate_callee (f := 108) rfl ?_); refine goesL_ (some 9) rfl rfl Try.func108 (by kernel_rfl) rfl #[.int .u64 a1] rfl (by (try simp only [List.map_toArray, List.map_cons, List.map_nil]); first | done | rfl | (simp only [List.length_drop, List.length_take]; rfl)) ?_; (with_reducible refine (holtref12_b.calls k a1 t192 _ A5.out).mono ?_); rintro e w8 ⟨rfl, hb⟩; refine ⟨_, rfl, ?_⟩; have n0_ := Aside0.mk (below_step (by repeat (first | (with_reducible first | exact HB.out | apply below_alloc | apply pw_below_drewN | apply below_drew1) | exact HB.out)) hb); clear HB; have HB := n0_; clear n0_; (try clear hb); (try clear hb2); (try clear hk); (try clear hi)))
      go_ret
      exact ⟨by first | rfl | (simp [errW_none, errW_some] <;> rfl) | (simp [*, errW_none, errW_some] <;> rfl), by repeat (first | (with_reducible first | exact HB.out | apply below_alloc | apply pw_below_drewN | apply below_drew1) | exact HB.out)⟩
    · rw [if_neg c6] at H
      exact absurd H (by simp)
  · rw [if_neg c4] at H
    exact absurd H (by simp)

/-! ### holtref12_Pend: function 58 -/
def holtref12_Pend.f (k : Nat) (a0 : Int) : Option (ByteArray) := (holtref12_b.f k a0).bind fun t193 => (if 1 + t193.size ≤ 9223372036854775807 then (some ((⟨#[112]⟩ : ByteArray) ++ t193)) else (none))
theorem holtref12_Pend.mono : ∀ a0 k, LeO (holtref12_Pend.f k a0) (holtref12_Pend.f (k + 1) a0) := by
  intro a0 k
  unfold holtref12_Pend.f
  repeat' first
      | (with_reducible exact holtref12_b.mono _ _)
      | (with_reducible exact LeO.refl _)
      | (with_reducible exact LeO.none _)
      | (with_reducible refine LeO.ite ?_ ?_)
      | (with_reducible refine LeO.bind ?_ (fun _ => ?_))
      | exact holtref12_b.mono _ _
      | exact LeO.none _
      | refine LeO.ite ?_ ?_
      | refine LeO.bind ?_ (fun _ => ?_)
set_option maxHeartbeats 8000000 in
set_option maxRecDepth 100000 in
theorem holtref12_Pend.calls (k : Nat) (a0 : Int) (r : ByteArray) (w : World) (h : holtref12_Pend.f k a0 = some r) :
    Calls Try.prog 58 #[.int .u64 a0] w fun e w' => e = .returned (.string r) ∧ Below w.heap.size w w' := by
  have HB := Aside0.mk (Below.refl w.heap.size w)
  have H : ((holtref12_b.f k a0).bind fun t193 => (if 1 + t193.size ≤ 9223372036854775807 then (some ((⟨#[112]⟩ : ByteArray) ++ t193)) else (none))) = some r := h
  clear h
  replace H := Option.bind_eq_some_iff.mp H
  obtain ⟨t193, A20, H⟩ := H
  replace H : (if 1 + t193.size ≤ 9223372036854775807 then (some ((⟨#[112]⟩ : ByteArray) ++ t193)) else (none)) = some r := H
  have A2 := Aside0.mk A20
  clear A20
  by_cases c3 : 1 + t193.size ≤ 9223372036854775807
  · rw [if_pos c3] at H
    have c3b0 := eq_true c3
    have c3b1 : decide (1 + t193.size ≤ 9223372036854775807) = true := decide_eq_true c3
    try have c3b2 : (9223372036854775807 < 1 + t193.size) = False := eq_false (Nat.not_lt.2 c3)
    obtain rfl := Option.some.inj H
    go_enter Try.func58, Try.ntmps58
    go_wp2_with (first | ((with_reducible refine gate_callee (f := 108) rfl ?_); refine goesL_ (some 4) rfl rfl Try.func108 (by kernel_rfl) rfl #[.int .u64 a0] rfl (by (try simp only [List.map_toArray, List.map_cons, List.map_nil]); first | done | rfl | (simp only [List.length_drop, List.length_take]; rfl)) ?_; (with_reducible refine (holtref12_b.calls k a0 t193 _ A2.out).mono ?_); rintro e w4 ⟨rfl, hb⟩; refine ⟨_, rfl, ?_⟩; have n0_ := Aside0.mk (below_step (by repeat (first | (with_reducible first | exact HB.out | apply below_alloc | apply pw_below_drewN | apply below_drew1) | exact HB.out)) hb); clear HB; have HB := n0_; clear n0_; (try clear hb); (try clear hb2); (try clear hk); (try clear hi)))
    go_ret
    exact ⟨by first | rfl | (simp [errW_none, errW_some] <;> rfl) | (simp [*, errW_none, errW_some] <;> rfl), by repeat (first | (with_reducible first | exact HB.out | apply below_alloc | apply pw_below_drewN | apply below_drew1) | exact HB.out)⟩
  · rw [if_neg c3] at H
    exact absurd H (by simp)

/-! ### key_Answer: function 59 -/
def key_Answer.f (k : Nat) (a0 : Int) (a1 : Int) : Option (ByteArray) := (key_kind_four.f k (⟨#[114]⟩ : ByteArray) a0).bind fun t194 => ((key_kind_eight.f k t194 a1).bind fun t195 => (some t195))
theorem key_Answer.mono : ∀ a0 a1 k, LeO (key_Answer.f k a0 a1) (key_Answer.f (k + 1) a0 a1) := by
  intro a0 a1 k
  unfold key_Answer.f
  repeat' first
      | (with_reducible exact key_kind_eight.mono _ _ _)
      | (with_reducible exact key_kind_four.mono _ _ _)
      | (with_reducible exact LeO.refl _)
      | (with_reducible exact LeO.none _)
      | (with_reducible refine LeO.ite ?_ ?_)
      | (with_reducible refine LeO.bind ?_ (fun _ => ?_))
      | exact key_kind_eight.mono _ _ _
      | exact key_kind_four.mono _ _ _
      | exact LeO.none _
      | refine LeO.ite ?_ ?_
      | refine LeO.bind ?_ (fun _ => ?_)
set_option maxHeartbeats 8000000 in
set_option maxRecDepth 100000 in
theorem key_Answer.calls (k : Nat) (a0 : Int) (a1 : Int) (r : ByteArray) (w : World) (h : key_Answer.f k a0 a1 = some r) :
    Calls Try.prog 59 #[.int .u32 a0, .int .u64 a1] w fun e w' => e = .returned (.string r) ∧ Below w.heap.size w w' := by
  have HB := Aside0.mk (Below.refl w.heap.size w)
  have H : ((key_kind_four.f k (⟨#[114]⟩ : ByteArray) a0).bind fun t194 => ((key_kind_eight.f k t194 a1).bind fun t195 => (some t195))) = some r := h
  clear h
  replace H := Option.bind_eq_some_iff.mp H
  obtain ⟨t194, A30, H⟩ := H
  replace H : ((key_kind_eight.f k t194 a1).bind fun t195 => (some t195)) = some r := H
  have A3 := Aside0.mk A30
  clear A30
  replace H := Option.bind_eq_some_iff.mp H
  obtain ⟨t195, A40, H⟩ := H
  replace H : (some t195) = some r := H
  have A4 := Aside0.mk A40
  clear A40
  obtain rfl := Option.some.inj H
  go_enter Try.func59, Try.ntmps59
  go_wp2_with (first | ((with_reducible refine gate_callee (f := 109) rfl ?_); refine goesL_ (some 6) rfl rfl Try.func109 (by kernel_rfl) rfl #[.string (⟨#[114]⟩ : ByteArray), .int .u32 a0] rfl (by (try simp only [List.map_toArray, List.map_cons, List.map_nil]); first | done | rfl | (simp only [List.length_drop, List.length_take]; rfl)) ?_; (with_reducible refine (key_kind_four.calls k (⟨#[114]⟩ : ByteArray) a0 t194 _ A3.out).mono ?_); rintro e w5 ⟨rfl, hb⟩; refine ⟨_, rfl, ?_⟩; have n0_ := Aside0.mk (below_step (by repeat (first | (with_reducible first | exact HB.out | apply below_alloc | apply pw_below_drewN | apply below_drew1) | exact HB.out)) hb); clear HB; have HB := n0_; clear n0_; (try clear hb); (try clear hb2); (try clear hk); (try clear hi)) | ((with_reducible refine gate_callee (f := 92) rfl ?_); refine goesL_ (some 8) rfl rfl Try.func92 (by kernel_rfl) rfl #[.string t194, .int .u64 a1] rfl (by (try simp only [List.map_toArray, List.map_cons, List.map_nil]); first | done | rfl | (simp only [List.length_drop, List.length_take]; rfl)) ?_; (with_reducible refine (key_kind_eight.calls k t194 a1 t195 _ A4.out).mono ?_); rintro e w6 ⟨rfl, hb⟩; refine ⟨_, rfl, ?_⟩; have n0_ := Aside0.mk (below_step (by repeat (first | (with_reducible first | exact HB.out | apply below_alloc | apply pw_below_drewN | apply below_drew1) | exact HB.out)) hb); clear HB; have HB := n0_; clear n0_; (try clear hb); (try clear hb2); (try clear hk); (try clear hi)))
  go_ret
  exact ⟨by first | rfl | (simp [errW_none, errW_some] <;> rfl) | (simp [*, errW_none, errW_some] <;> rfl), by repeat (first | (with_reducible first | exact HB.out | apply below_alloc | apply pw_below_drewN | apply below_drew1) | exact HB.out)⟩

/-! ### holtref12_Answer: function 60 -/
def holtref12_Answer.f (k : Nat) (a0 : Int) (a1 : Int) : Option (ByteArray) := (holtref1_B4.f k a0).bind fun t196 => (if 1 + t196.size ≤ 9223372036854775807 then ((holtref12_b.f k a1).bind fun t197 => (if ((⟨#[114]⟩ : ByteArray) ++ t196).size + t197.size ≤ 9223372036854775807 then (some (((⟨#[114]⟩ : ByteArray) ++ t196) ++ t197)) else (none))) else (none))
theorem holtref12_Answer.mono : ∀ a0 a1 k, LeO (holtref12_Answer.f k a0 a1) (holtref12_Answer.f (k + 1) a0 a1) := by
  intro a0 a1 k
  unfold holtref12_Answer.f
  repeat' first
      | (with_reducible exact holtref12_b.mono _ _)
      | (with_reducible exact holtref1_B4.mono _ _)
      | (with_reducible exact LeO.refl _)
      | (with_reducible exact LeO.none _)
      | (with_reducible refine LeO.ite ?_ ?_)
      | (with_reducible refine LeO.bind ?_ (fun _ => ?_))
      | exact holtref12_b.mono _ _
      | exact holtref1_B4.mono _ _
      | exact LeO.none _
      | refine LeO.ite ?_ ?_
      | refine LeO.bind ?_ (fun _ => ?_)
set_option maxHeartbeats 8000000 in
set_option maxRecDepth 100000 in
theorem holtref12_Answer.calls (k : Nat) (a0 : Int) (a1 : Int) (r : ByteArray) (w : World) (h : holtref12_Answer.f k a0 a1 = some r) :
    Calls Try.prog 60 #[.int .u32 a0, .int .u64 a1] w fun e w' => e = .returned (.string r) ∧ Below w.heap.size w w' := by
  have HB := Aside0.mk (Below.refl w.heap.size w)
  have H : ((holtref1_B4.f k a0).bind fun t196 => (if 1 + t196.size ≤ 9223372036854775807 then ((holtref12_b.f k a1).bind fun t197 => (if ((⟨#[114]⟩ : ByteArray) ++ t196).size + t197.size ≤ 9223372036854775807 then (some (((⟨#[114]⟩ : ByteArray) ++ t196) ++ t197)) else (none))) else (none))) = some r := h
  clear h
  replace H := Option.bind_eq_some_iff.mp H
  obtain ⟨t196, A30, H⟩ := H
  replace H : (if 1 + t196.size ≤ 9223372036854775807 then ((holtref12_b.f k a1).bind fun t197 => (if ((⟨#[114]⟩ : ByteArray) ++ t196).size + t197.size ≤ 9223372036854775807 then (some (((⟨#[114]⟩ : ByteArray) ++ t196) ++ t197)) else (none))) else (none)) = some r := H
  have A3 := Aside0.mk A30
  clear A30
  by_cases c4 : 1 + t196.size ≤ 9223372036854775807
  · rw [if_pos c4] at H
    have c4b0 := eq_true c4
    have c4b1 : decide (1 + t196.size ≤ 9223372036854775807) = true := decide_eq_true c4
    try have c4b2 : (9223372036854775807 < 1 + t196.size) = False := eq_false (Nat.not_lt.2 c4)
    replace H := Option.bind_eq_some_iff.mp H
    obtain ⟨t197, A50, H⟩ := H
    replace H : (if ((⟨#[114]⟩ : ByteArray) ++ t196).size + t197.size ≤ 9223372036854775807 then (some (((⟨#[114]⟩ : ByteArray) ++ t196) ++ t197)) else (none)) = some r := H
    have A5 := Aside0.mk A50
    clear A50
    by_cases c6 : ((⟨#[114]⟩ : ByteArray) ++ t196).size + t197.size ≤ 9223372036854775807
    · rw [if_pos c6] at H
      have c6b0 := eq_true c6
      have c6b1 : decide (((⟨#[114]⟩ : ByteArray) ++ t196).size + t197.size ≤ 9223372036854775807) = true := decide_eq_true c6
      try have c6b2 : (9223372036854775807 < ((⟨#[114]⟩ : ByteArray) ++ t196).size + t197.size) = False := eq_false (Nat.not_lt.2 c6)
      try (have c6b2x := c6b2; simp only [ByteArray.size_append, Go.Proofs.Ytikekepiimaccaa.X.lit_size, List.length_cons, List.length_nil, Nat.zero_add, Nat.reduceAdd] at c6b2x)
      obtain rfl := Option.some.inj H
      go_enter Try.func60, Try.ntmps60
      go_wp2_with (first | ((with_reducible refine gate_callee (f := 110) rfl ?_); refine goesL_ (some 6) rfl rfl Try.func110 (by kernel_rfl) rfl #[.int .u32 a0] rfl (by (try simp only [List.map_toArray, List.map_cons, List.map_nil]); first | done | rfl | (simp only [List.length_drop, List.length_take]; rfl)) ?_; (with_reducible refine (holtref1_B4.calls k a0 t196 _ A3.out).mono ?_); rintro e w7 ⟨rfl, hb⟩; refine ⟨_, rfl, ?_⟩; have n0_ := Aside0.mk (below_step (by repeat (first | (with_reducible first | exact HB.out | apply below_alloc | apply pw_below_drewN | apply below_drew1) | exact HB.out)) hb); clear HB; have HB := n0_; clear n0_; (try clear hb); (try clear hb2); (try clear hk); (try clear hi)) | ((with_reducible refine gate_callee (f := 108) rfl ?_); refine goesL_ (some 9) rfl rfl Try.func108 (by kernel_rfl) rfl #[.int .u64 a1] rfl (by (try simp only [List.map_toArray, List.map_cons, List.map_nil]); first | done | rfl | (simp only [List.length_drop, List.length_take]; rfl)) ?_; (with_reducible refine (holtref12_b.calls k a1 t197 _ A5.out).mono ?_); rintro e w8 ⟨rfl, hb⟩; refine ⟨_, rfl, ?_⟩; have n0_ := Aside0.mk (below_step (by repeat (first | (with_reducible first | exact HB.out | apply below_alloc | apply pw_below_drewN | apply below_drew1) | exact HB.out)) hb); clear HB; have HB := n0_; clear n0_; (try clear hb); (try clear hb2); (try clear hk); (try clear hi)))
      go_ret
      exact ⟨by first | rfl | (simp [errW_none, errW_some] <;> rfl) | (simp [*, errW_none, errW_some] <;> rfl), by repeat (first | (with_reducible first | exact HB.out | apply below_alloc | apply pw_below_drewN | apply below_drew1) | exact HB.out)⟩
    · rw [if_neg c6] at H
      exact absurd H (by simp)
  · rw [if_neg c4] at H
    exact absurd H (by simp)

/-! ### key_High: function 61 -/
def key_High.f (k : Nat) (a0 : Int) : Option (ByteArray) := (key_kind_four.f k (⟨#[104]⟩ : ByteArray) a0).bind fun t198 => (some t198)
theorem key_High.mono : ∀ a0 k, LeO (key_High.f k a0) (key_High.f (k + 1) a0) := by
  intro a0 k
  unfold key_High.f
  repeat' first
      | (with_reducible exact key_kind_four.mono _ _ _)
      | (with_reducible exact LeO.refl _)
      | (with_reducible exact LeO.none _)
      | (with_reducible refine LeO.ite ?_ ?_)
      | (with_reducible refine LeO.bind ?_ (fun _ => ?_))
      | exact key_kind_four.mono _ _ _
      | exact LeO.none _
      | refine LeO.ite ?_ ?_
      | refine LeO.bind ?_ (fun _ => ?_)
set_option maxHeartbeats 8000000 in
set_option maxRecDepth 100000 in
theorem key_High.calls (k : Nat) (a0 : Int) (r : ByteArray) (w : World) (h : key_High.f k a0 = some r) :
    Calls Try.prog 61 #[.int .u32 a0] w fun e w' => e = .returned (.string r) ∧ Below w.heap.size w w' := by
  have HB := Aside0.mk (Below.refl w.heap.size w)
  have H : ((key_kind_four.f k (⟨#[104]⟩ : ByteArray) a0).bind fun t198 => (some t198)) = some r := h
  clear h
  replace H := Option.bind_eq_some_iff.mp H
  obtain ⟨t198, A20, H⟩ := H
  replace H : (some t198) = some r := H
  have A2 := Aside0.mk A20
  clear A20
  obtain rfl := Option.some.inj H
  go_enter Try.func61, Try.ntmps61
  go_wp2_with (first | ((with_reducible refine gate_callee (f := 109) rfl ?_); refine goesL_ (some 4) rfl rfl Try.func109 (by kernel_rfl) rfl #[.string (⟨#[104]⟩ : ByteArray), .int .u32 a0] rfl (by (try simp only [List.map_toArray, List.map_cons, List.map_nil]); first | done | rfl | (simp only [List.length_drop, List.length_take]; rfl)) ?_; (with_reducible refine (key_kind_four.calls k (⟨#[104]⟩ : ByteArray) a0 t198 _ A2.out).mono ?_); rintro e w3 ⟨rfl, hb⟩; refine ⟨_, rfl, ?_⟩; have n0_ := Aside0.mk (below_step (by repeat (first | (with_reducible first | exact HB.out | apply below_alloc | apply pw_below_drewN | apply below_drew1) | exact HB.out)) hb); clear HB; have HB := n0_; clear n0_; (try clear hb); (try clear hb2); (try clear hk); (try clear hi)))
  go_ret
  exact ⟨by first | rfl | (simp [errW_none, errW_some] <;> rfl) | (simp [*, errW_none, errW_some] <;> rfl), by repeat (first | (with_reducible first | exact HB.out | apply below_alloc | apply pw_below_drewN | apply below_drew1) | exact HB.out)⟩

/-! ### holtref12_High: function 62 -/
def holtref12_High.f (k : Nat) (a0 : Int) : Option (ByteArray) := (holtref1_B4.f k a0).bind fun t199 => (if 1 + t199.size ≤ 9223372036854775807 then (some ((⟨#[104]⟩ : ByteArray) ++ t199)) else (none))
theorem holtref12_High.mono : ∀ a0 k, LeO (holtref12_High.f k a0) (holtref12_High.f (k + 1) a0) := by
  intro a0 k
  unfold holtref12_High.f
  repeat' first
      | (with_reducible exact holtref1_B4.mono _ _)
      | (with_reducible exact LeO.refl _)
      | (with_reducible exact LeO.none _)
      | (with_reducible refine LeO.ite ?_ ?_)
      | (with_reducible refine LeO.bind ?_ (fun _ => ?_))
      | exact holtref1_B4.mono _ _
      | exact LeO.none _
      | refine LeO.ite ?_ ?_
      | refine LeO.bind ?_ (fun _ => ?_)
set_option maxHeartbeats 8000000 in
set_option maxRecDepth 100000 in
theorem holtref12_High.calls (k : Nat) (a0 : Int) (r : ByteArray) (w : World) (h : holtref12_High.f k a0 = some r) :
    Calls Try.prog 62 #[.int .u32 a0] w fun e w' => e = .returned (.string r) ∧ Below w.heap.size w w' := by
  have HB := Aside0.mk (Below.refl w.heap.size w)
  have H : ((holtref1_B4.f k a0).bind fun t199 => (if 1 + t199.size ≤ 9223372036854775807 then (some ((⟨#[104]⟩ : ByteArray) ++ t199)) else (none))) = some r := h
  clear h
  replace H := Option.bind_eq_some_iff.mp H
  obtain ⟨t199, A20, H⟩ := H
  replace H : (if 1 + t199.size ≤ 9223372036854775807 then (some ((⟨#[104]⟩ : ByteArray) ++ t199)) else (none)) = some r := H
  have A2 := Aside0.mk A20
  clear A20
  by_cases c3 : 1 + t199.size ≤ 9223372036854775807
  · rw [if_pos c3] at H
    have c3b0 := eq_true c3
    have c3b1 : decide (1 + t199.size ≤ 9223372036854775807) = true := decide_eq_true c3
    try have c3b2 : (9223372036854775807 < 1 + t199.size) = False := eq_false (Nat.not_lt.2 c3)
    obtain rfl := Option.some.inj H
    go_enter Try.func62, Try.ntmps62
    go_wp2_with (first | ((with_reducible refine gate_callee (f := 110) rfl ?_); refine goesL_ (some 4) rfl rfl Try.func110 (by kernel_rfl) rfl #[.int .u32 a0] rfl (by (try simp only [List.map_toArray, List.map_cons, List.map_nil]); first | done | rfl | (simp only [List.length_drop, List.length_take]; rfl)) ?_; (with_reducible refine (holtref1_B4.calls k a0 t199 _ A2.out).mono ?_); rintro e w4 ⟨rfl, hb⟩; refine ⟨_, rfl, ?_⟩; have n0_ := Aside0.mk (below_step (by repeat (first | (with_reducible first | exact HB.out | apply below_alloc | apply pw_below_drewN | apply below_drew1) | exact HB.out)) hb); clear HB; have HB := n0_; clear n0_; (try clear hb); (try clear hb2); (try clear hk); (try clear hi)))
    go_ret
    exact ⟨by first | rfl | (simp [errW_none, errW_some] <;> rfl) | (simp [*, errW_none, errW_some] <;> rfl), by repeat (first | (with_reducible first | exact HB.out | apply below_alloc | apply pw_below_drewN | apply below_drew1) | exact HB.out)⟩
  · rw [if_neg c3] at H
    exact absurd H (by simp)

/-! ### key_Global: function 63 -/
def key_Global.f  : Option (ByteArray) := some (⟨#[103]⟩ : ByteArray)
set_option maxHeartbeats 8000000 in
set_option maxRecDepth 100000 in
theorem key_Global.calls  (r : ByteArray) (w : World) (h : key_Global.f  = some r) :
    Calls Try.prog 63 #[] w fun e w' => e = .returned (.string r) ∧ Drawn0 w w' := by
  have H : (some (⟨#[103]⟩ : ByteArray)) = some r := h
  clear h
  obtain rfl := Option.some.inj H
  go_enter Try.func63, Try.ntmps63
  go_wp2
  go_ret
  exact ⟨by first | rfl | (simp; done) | (simp [*]; done), by repeat (first | exact Drawn0.refl _ | apply Drawn0.step)⟩

/-! ### holtref12_Global: function 64 -/
def holtref12_Global.f  : Option (ByteArray) := some (⟨#[103]⟩ : ByteArray)
set_option maxHeartbeats 8000000 in
set_option maxRecDepth 100000 in
theorem holtref12_Global.calls  (r : ByteArray) (w : World) (h : holtref12_Global.f  = some r) :
    Calls Try.prog 64 #[] w fun e w' => e = .returned (.string r) ∧ Drawn0 w w' := by
  have H : (some (⟨#[103]⟩ : ByteArray)) = some r := h
  clear h
  obtain rfl := Option.some.inj H
  go_enter Try.func64, Try.ntmps64
  go_wp2
  go_ret
  exact ⟨by first | rfl | (simp; done) | (simp [*]; done), by repeat (first | exact Drawn0.refl _ | apply Drawn0.step)⟩

-- left to the hand: function 8 (holtlaw12_KeyTexts)

end Go.Proofs.Ytikekepiimaccaa.Kt

/- Plain arithmetic of package num: when a sum, a product is a number. Conditions: the numbers lie in their kinds. -/
import Derived.Test.YtkcnmlggaggjlaaCh1
import Derived.Laws.BitsAllLaws
import Derived.OpenShut
set_option linter.unusedVariables false
set_option linter.unusedSimpArgs false
namespace Go.Proofs.Ytkcnmlggaggjlaa.NumAr
open Go.RowKit Go.Proofs.Ytkcnmlggaggjlaa.Ch Go.Proofs.YtkcnmlggaggjlaaW.PrintWords Go.Proofs.YtkcnmlggaggjlaaW.PrintLast Go.Proofs.YtkcnmlggaggjlaaW.PrintMore

theorem wrap_u64 (x : Int) : IntKind.u64.wrap x = x % 18446744073709551616 := by
  simp [IntKind.wrap, IntKind.signed, IntKind.bits]
theorem wrap64_of {x : Int} (h0 : -9223372036854775808 ≤ x) (h1 : x ≤ 9223372036854775807) : wrap64 x = x := by
  unfold wrap64; omega
theorem xor_max (x : Int) (h0 : 0 ≤ x) (h1 : x < 18446744073709551616) : Go.bits .xor .u64 IntKind.u64.max x = 18446744073709551615 - x := by
  obtain ⟨n, rfl⟩ := Int.eq_ofNat_of_zero_le h0
  have e : IntKind.u64.max = ((2 ^ 64 - 1 : Nat) : Int) := by decide
  rw [e, u64_xor_nat _ _ (by omega) (by omega)]
  have : (2 ^ 64 - 1) ^^^ n = 2 ^ 64 - 1 - n := by
    apply Nat.eq_of_testBit_eq
    intro i
    rw [Nat.testBit_xor, Nat.testBit_two_pow_sub_one, Nat.sub_sub, Nat.add_comm 1 n, Nat.testBit_two_pow_sub_succ (by omega)]
    by_cases hi : i < 64
    · simp [hi]
    · have hn : n.testBit i = false := Nat.testBit_lt_two_pow (Nat.lt_of_lt_of_le (by omega : n < 2 ^ 64) (Nat.pow_le_pow_right (by decide) (by omega)))
      simp [hi, hn]
  rw [this]; omega
theorem and_ones (x : Int) (k : Nat) (hk : k < 64) (m : Int) (hm : m = ((2 ^ k - 1 : Nat) : Int)) (h0 : 0 ≤ x) (h1 : x < 18446744073709551616) : Go.bits .and .u64 x m = x % 2 ^ k := by
  obtain ⟨n, rfl⟩ := Int.eq_ofNat_of_zero_le h0
  have hlt : 2 ^ k < 2 ^ 64 := Nat.pow_lt_pow_right (by decide) hk
  rw [hm, u64_and_nat _ _ (by omega) (by omega), Nat.and_two_pow_sub_one_eq_mod]
  simp

theorem adds (x y : Int) (h0 : 0 ≤ x) (h1 : x < 18446744073709551616) (g0 : 0 ≤ y) (g1 : y < 18446744073709551616) :
    num_Add.f x y = some (if 18446744073709551615 - y < x then (0, false) else (x + y, true)) := by
  unfold num_Add.f
  rw [xor_max y g0 g1, wrap_u64]
  by_cases h : 18446744073709551615 - y < x
  · rw [if_pos h, if_pos h]
  · rw [if_neg h, if_neg h]
    have : (x + y) % 18446744073709551616 = x + y := by omega
    rw [this]
theorem muls (a b : Int) (h0 : 0 ≤ a) (g0 : 0 ≤ b) (g1 : b < 18446744073709551616) :
    num_Mul.f a b = some (if 18446744073709551615 < a * b then (0, false) else (a * b, true)) := by
  unfold num_Mul.f
  by_cases hb : b = 0
  · subst hb; simp [wrap_u64]
  · rw [if_pos (by omega), if_neg hb, Int.tdiv_eq_ediv_of_nonneg (by decide), wrap_u64, wrap_u64]
    have hm : 0 ≤ a * b := Int.mul_nonneg h0 g0
    have hd : (18446744073709551615 : Int) / b < a ↔ 18446744073709551615 < a * b := by
      rw [Int.ediv_lt_iff_lt_mul (by omega)]
    have hd1 : 0 ≤ (18446744073709551615 : Int) / b := Int.ediv_nonneg (by decide) g0
    have hd2 : (18446744073709551615 : Int) / b ≤ 18446744073709551615 := Int.ediv_le_self _ (by decide)
    have hw : (18446744073709551615 : Int) / b % 18446744073709551616 = 18446744073709551615 / b := by omega
    rw [hw]
    by_cases h : 18446744073709551615 < a * b
    · rw [if_pos (hd.2 h), if_pos h]
    · rw [if_neg (fun g => h (hd.1 g)), if_neg h]
      have : a * b % 18446744073709551616 = a * b := by omega
      rw [this]
end Go.Proofs.Ytkcnmlggaggjlaa.NumAr

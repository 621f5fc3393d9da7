/- The plain statements behind the rows of NumSums, NumLaws, NumTexts and NumBack: packages num and holtref1 agree, and there and back is the same. No conditions beyond those in the statements. -/
import Derived.Test.YtkcnmlggaggjlaaNumL
import Derived.OpenShut
import Derived.Test.YtkcnmlggaggjlaaQ1
import Derived.Test.YtkcnmlggaggjlaaQ2
import Derived.Test.YtkcnmlggaggjlaaQ4
namespace Go.Proofs.Ytkcnmlggaggjlaa.Pure
open Go.RowKit Go.Proofs.Ytkcnmlggaggjlaa.Q Go.Proofs.YtkcnmlggaggjlaaW.PrintWords Go.Proofs.YtkcnmlggaggjlaaW.PrintLast Go.Proofs.YtkcnmlggaggjlaaW.PrintMore Go.Proofs.Ytkcnmlggaggjlaa.NumL

theorem xor_max (x : Int) (h0 : 0 ≤ x) (h1 : x < 18446744073709551616) : Go.bits .xor .u64 IntKind.u64.max x = 18446744073709551615 - x := by
  obtain ⟨n, rfl⟩ := Int.eq_ofNat_of_zero_le h0
  have e : IntKind.u64.max = ((2 ^ 64 - 1 : Nat) : Int) := by decide
  rw [e, u64_xor_nat _ _ (by omega) (by omega)]
  have : (2 ^ 64 - 1) ^^^ n = 2 ^ 64 - 1 - n := by
    apply Nat.eq_of_testBit_eq
    intro i
    rw [Nat.testBit_xor, Nat.testBit_two_pow_sub_one, Nat.sub_sub, Nat.add_comm 1 n, Nat.testBit_two_pow_sub_succ (by omega)]
    by_cases hi : i < 64
    · simp [hi]
    · have hn : n.testBit i = false := Nat.testBit_lt_two_pow (Nat.lt_of_lt_of_le (by omega : n < 2 ^ 64) (Nat.pow_le_pow_right (by decide) (by omega)))
      simp [hi, hn]
  rw [this]; omega

theorem num_awake (k : Nat) (hk : 5 < k) : holtlaw1_awake.f k = some true := by
  unfold holtlaw1_awake.f
  have e1 := le_is 258 2 k (by decide) (by decide) (by decide) (by decide) (by omega)
  have e2 := be_is 258 3 k (by decide) (by decide) (by decide) (by decide) (by omega)
  have e3 := le_is 256 1 k (by decide) (by decide) (by decide) (by decide) (by omega)
  rw [show ((2 : Nat) : Int) = 2 from rfl] at e1
  rw [show ((3 : Nat) : Int) = 3 from rfl] at e2
  rw [show ((1 : Nat) : Int) = 1 from rfl] at e3
  rw [e1, e2, e3]
  have e4 : num_Add.f 18446744073709551615 1 = some (0, false) := by
    unfold num_Add.f; rw [xor_max 1 (by decide) (by decide)]; decide
  rw [e4]
  decide +kernel

theorem adds (x y : Int) (h0 : 0 ≤ x) (h1 : x < 18446744073709551616) (g0 : 0 ≤ y) (g1 : y < 18446744073709551616) :
    num_Add.f x y = some (if 18446744073709551615 - y < x then (0, false) else (x + y, true)) := by
  unfold num_Add.f
  rw [xor_max y g0 g1, wrap_u64]
  by_cases h : 18446744073709551615 - y < x
  · rw [if_pos h, if_pos h]
  · rw [if_neg h, if_neg h]
    have : (x + y) % 18446744073709551616 = x + y := by omega
    rw [this]

theorem NumSums : holtlaw1_NumSums.Pure := by
  intro a b wa wb
  have ha := bounds_u64 wa
  have hb := bounds_u64 wb
  refine ⟨6, ?_⟩
  unfold holtlaw1_NumSums.f
  have e1 : num_Add.f a b = holtref1_Add.f a b := by
    unfold num_Add.f holtref1_Add.f
    rw [xor_max b (by omega) (by omega), wrap_u64 (18446744073709551615 - b)]
    have : (18446744073709551615 - b) % 18446744073709551616 = 18446744073709551615 - b := by omega
    rw [this]
  have e2 : num_Sub.f a b = holtref1_Sub.f a b := rfl
  have e3 : num_Mul.f a b = holtref1_Mul.f a b := by
    unfold num_Mul.f holtref1_Mul.f
    by_cases h : b = 0
    · rw [if_neg (by omega), if_pos h]
    · rw [if_pos (by omega), if_neg h, if_neg h]
  rw [e1, e2, e3, num_awake 6 (by omega)]
  obtain ⟨p, hp⟩ : ∃ p, holtref1_Add.f a b = some p := by unfold holtref1_Add.f; split <;> exact ⟨_, rfl⟩
  obtain ⟨q, hq⟩ : ∃ p, holtref1_Sub.f a b = some p := by unfold holtref1_Sub.f; split <;> exact ⟨_, rfl⟩
  obtain ⟨r, hr⟩ : ∃ p, holtref1_Mul.f a b = some p := by unfold holtref1_Mul.f; split <;> first | exact ⟨_, rfl⟩ | (split <;> exact ⟨_, rfl⟩)
  rw [hp, hq, hr]
  simp

theorem NumTexts : holtlaw1_NumTexts.Pure := by
  intro x n s wx wn hs
  have hx := bounds_u64 wx
  refine ⟨s.size + 12, ?_⟩
  unfold holtlaw1_NumTexts.f
  generalize hk : s.size + 12 = k
  have e1 : num_Le.f k x n = holtref1_Le.f k x n ∧ num_Be.f k x n = holtref1_Be.f k x n ∧ (∃ p, holtref1_Le.f k x n = some p) ∧ (∃ p, holtref1_Be.f k x n = some p) := by
    by_cases hn : 1 ≤ n ∧ n ≤ 8
    · obtain ⟨m, rfl⟩ := Int.eq_ofNat_of_zero_le (show 0 ≤ n by omega)
      rw [le_is x m k (by omega) (by omega) (by omega) (by omega) (by omega), rle_is x m k (by omega) (by omega) (by omega) (by omega) (by omega), be_is x m k (by omega) (by omega) (by omega) (by omega) (by omega), rbe_is x m k (by omega) (by omega) (by omega) (by omega) (by omega)]
      exact ⟨rfl, rfl, ⟨_, rfl⟩, ⟨_, rfl⟩⟩
    · rw [le_bad x n k (by omega) (by omega), rle_bad x n k (by omega) (by omega), be_bad x n k (by omega) (by omega), rbe_bad x n k (by omega) (by omega)]
      exact ⟨rfl, rfl, ⟨_, rfl⟩, ⟨_, rfl⟩⟩
  have e2 : num_OfLe.f k s = holtref1_OfLe.f k s ∧ num_OfBe.f k s = holtref1_OfBe.f k s ∧ (∃ p, holtref1_OfLe.f k s = some p) ∧ (∃ p, holtref1_OfBe.f k s = some p) := by
    by_cases hn : 1 ≤ s.size ∧ s.size ≤ 8
    · rw [ofle_is s k hn.1 hn.2 (by omega), rofle_is s k hn.1 hn.2 (by omega), ofbe_is s k hn.1 hn.2 (by omega), rofbe_is s k hn.1 hn.2 (by omega)]
      exact ⟨rfl, rfl, ⟨_, rfl⟩, ⟨_, rfl⟩⟩
    · rw [ofle_bad s k (by omega) (by omega), rofle_bad s k hs (by omega) (by omega) (by omega), ofbe_bad s k (by omega) (by omega), rofbe_bad s k (by omega) (by omega)]
      exact ⟨rfl, rfl, ⟨_, rfl⟩, ⟨_, rfl⟩⟩
  obtain ⟨a1, a2, ⟨p, hp⟩, ⟨q, hq⟩⟩ := e1
  obtain ⟨b1, b2, ⟨u, hu⟩, ⟨v, hv⟩⟩ := e2
  rw [a1, a2, b1, b2, hp, hq, hu, hv, num_awake k (by omega)]
  simp [holtlaw0_Num.f]

theorem NumBack : holtlaw1_NumBack.Pure := by
  intro x y wx wy
  have hx := bounds_u64 wx
  have hy := bounds_u64 wy
  refine ⟨12, ?_⟩
  unfold holtlaw1_NumBack.f
  rw [num_awake 12 (by omega)]
  have e1 := le_is x 8 12 (by omega) (by omega) (by omega) (by omega) (by omega)
  have e2 := be_is x 8 12 (by omega) (by omega) (by omega) (by omega) (by omega)
  have e3 := be_is y 8 12 (by omega) (by omega) (by omega) (by omega) (by omega)
  rw [if_pos (fits8 _ (by omega) (by omega))] at e1 e2 e3
  rw [show ((8 : Nat) : Int) = 8 from rfl] at e1 e2 e3
  have z1 : (strOfNums (leB x 8)).size = 8 := by rw [strOfNums_size, leB_length]
  have z2 : (strOfNums (leB x 8).reverse).size = 8 := by rw [strOfNums_size, List.length_reverse, leB_length]
  have e4 := ofle_is (strOfNums (leB x 8)) 12 (by omega) (by omega) (by omega)
  have e5 := ofbe_is (strOfNums (leB x 8).reverse) 12 (by omega) (by omega) (by omega)
  have ex : x % 256 ^ 8 = x := by
    have e : (256 : Int) ^ 8 = 18446744073709551616 := by decide
    rw [e]; omega
  rw [bytesOf_strOfNums _ (leB_range x 8), valLe_leB, ex] at e4
  rw [bytesOf_strOfNums _ (fun b hb => leB_range x 8 b (by simpa using hb)), valBe_reverse, valLe_leB, ex] at e5
  simp only [Option.bind_some, if_true]
  rw [e1, e2, e3]
  simp only [Option.bind_some]
  rw [e4, e5]
  simp only [Option.bind_some, holtlaw0_Num.f, if_true]
  rw [z1, if_pos (show ((8 : Nat) : Int) = 8 from rfl), be8_less x y (by omega) (by omega) (by omega) (by omega)]
  simp

theorem muls (a b : Int) (h0 : 0 ≤ a) (_h1 : a < 18446744073709551616) (g0 : 0 ≤ b) (g1 : b < 18446744073709551616) :
    num_Mul.f a b = some (if 18446744073709551615 < a * b then (0, false) else (a * b, true)) := by
  unfold num_Mul.f
  by_cases hb : b = 0
  · subst hb; simp [wrap_u64]
  · rw [if_pos (by omega), if_neg hb, Int.tdiv_eq_ediv_of_nonneg (by decide), wrap_u64, wrap_u64]
    have hm : 0 ≤ a * b := Int.mul_nonneg h0 g0
    have hd : (18446744073709551615 : Int) / b < a ↔ 18446744073709551615 < a * b := by
      rw [Int.ediv_lt_iff_lt_mul (by omega)]
    have hd1 : 0 ≤ (18446744073709551615 : Int) / b := Int.ediv_nonneg (by decide) g0
    have hd2 : (18446744073709551615 : Int) / b ≤ 18446744073709551615 := Int.ediv_le_self _ (by decide)
    have hw : (18446744073709551615 : Int) / b % 18446744073709551616 = 18446744073709551615 / b := by omega
    rw [hw]
    by_cases h : 18446744073709551615 < a * b
    · rw [if_pos (hd.2 h), if_pos h]
    · rw [if_neg (fun g => h (hd.1 g)), if_neg h]
      have : a * b % 18446744073709551616 = a * b := by omega
      rw [this]

theorem laws_tail (a b : Int) (h0 : 0 ≤ a) (h1 : a < 18446744073709551616) (g0 : 0 ≤ b) (g1 : b < 18446744073709551616) :
    ((num_Mul.f a b).bind fun p => (if p.2 = true then (if a = 0 then (if p.1 = 0 then (some true) else (some false)) else (if (IntKind.u64.wrap (Int.tdiv p.1 a)) = b then (some ((Int.tmod p.1 a) == 0)) else (some false))) else (if a = 0 then (some false) else (some (decide (b > (IntKind.u64.wrap (Int.tdiv (18446744073709551615 : Int) a))))))) ) = some true := by
  rw [muls a b h0 h1 g0 g1]
  simp only [Option.bind_some]
  have hm : 0 ≤ a * b := Int.mul_nonneg h0 g0
  by_cases h : 18446744073709551615 < a * b
  · rw [if_pos h]
    by_cases ha : a = 0
    · subst ha; simp at h
    · simp only [Bool.false_eq_true, if_false, ha]
      rw [Int.tdiv_eq_ediv_of_nonneg (by decide), wrap_u64]
      have hd : (18446744073709551615 : Int) / a < b ↔ 18446744073709551615 < b * a := by
        rw [Int.ediv_lt_iff_lt_mul (by omega)]
      have hd1 : 0 ≤ (18446744073709551615 : Int) / a := Int.ediv_nonneg (by decide) h0
      have hd2 : (18446744073709551615 : Int) / a ≤ 18446744073709551615 := Int.ediv_le_self _ (by decide)
      have hw : (18446744073709551615 : Int) / a % 18446744073709551616 = 18446744073709551615 / a := by omega
      rw [hw, Int.mul_comm] at *
      rw [decide_eq_true (hd.2 (by rw [Int.mul_comm]; exact h))]
  · rw [if_neg h]
    by_cases ha : a = 0
    · subst ha; simp
    · simp only [if_true, ha, if_false]
      rw [Int.tdiv_eq_ediv_of_nonneg hm, Int.tmod_eq_emod_of_nonneg hm, Int.mul_ediv_cancel_left _ ha, Int.mul_emod_right, wrap_u64]
      have : b % 18446744073709551616 = b := by omega
      rw [this]; simp

theorem NumLaws : holtlaw1_NumLaws.Pure := by
  intro a b wa wb
  have ha := bounds_u64 wa
  have hb := bounds_u64 wb
  refine ⟨7, ?_⟩
  unfold holtlaw1_NumLaws.f
  rw [num_awake 7 (by omega), adds a b (by omega) (by omega) (by omega) (by omega)]
  simp only [Option.bind_some, if_true]
  have ht := laws_tail a b (by omega) (by omega) (by omega) (by omega)
  by_cases h : 18446744073709551615 - b < a
  · rw [if_pos h]
    simp only [Bool.false_eq_true, if_false]
    by_cases h1 : a ≤ 9223372036854775807
    · rw [if_pos h1, decide_eq_false (by omega)]
      simp only [holtlaw1_NumLaws.j1, Bool.false_eq_true, if_false]
      exact ht
    · rw [if_neg h1]
      simp only [holtlaw1_NumLaws.j1, Bool.false_eq_true, if_false]
      exact ht
  · rw [if_neg h]
    simp only [if_true]
    unfold num_Sub.f
    rw [if_neg (by omega)]
    simp only [Option.bind_some, if_true]
    rw [wrap_u64]
    have : (a + b - b) % 18446744073709551616 = a := by omega
    rw [this]
    simp only [holtlaw1_NumLaws.j0, bne_self_eq_false, Bool.false_eq_true, if_false]
    exact ht
end Go.Proofs.Ytkcnmlggaggjlaa.Pure

/- The plain statements behind the rows of ChargeSums, ChargeAdds and ChargeTurns: what a tree is charged, whether a limit allows more. No conditions beyond those in the statements. -/
import Derived.Test.YtkcnmlggaggjlaaNumAr
import Derived.Test.YtkcnmlggaggjlaaCh1
import Derived.Test.YtkcnmlggaggjlaaCh2
import Derived.Test.YtkcnmlggaggjlaaCh3
set_option linter.unusedVariables false
set_option linter.unusedSimpArgs false
namespace Go.Proofs.Ytkcnmlggaggjlaa.Pure
open Go.RowKit Go.Proofs.Ytkcnmlggaggjlaa.Ch Go.Proofs.YtkcnmlggaggjlaaW.PrintWords Go.Proofs.YtkcnmlggaggjlaaW.PrintLast Go.Proofs.YtkcnmlggaggjlaaW.PrintMore Go.Proofs.Ytkcnmlggaggjlaa.NumAr

theorem step_is (s x c : Int) (h0 : 0 ≤ s) (h1 : s < 18446744073709551616) (g0 : 0 ≤ x) (c0 : 0 ≤ c) (c1 : c < 18446744073709551616) :
    charge_Of.step s x c = some (if s + x * c < 18446744073709551616 then (s + x * c, true) else (0, false)) := by
  unfold charge_Of.step
  have hm : 0 ≤ x * c := Int.mul_nonneg g0 c0
  rw [muls x c g0 c0 c1]
  simp only [Option.bind_some]
  by_cases h : 18446744073709551615 < x * c
  · rw [if_pos h]; simp only [Bool.false_eq_true, if_false]; rw [if_neg (by omega)]
  · rw [if_neg h]
    simp only [if_true]
    rw [adds _ _ h0 h1 hm (by omega)]
    by_cases g : 18446744073709551615 - x * c < s
    · rw [if_pos g, if_neg (by omega)]
    · rw [if_neg g, if_pos (by omega)]

theorem of_is (a b c : Int) (h0 : 0 ≤ a) (g0 : 0 ≤ b) (k0 : 0 ≤ c) :
    charge_Of.f a b c = some (if a * 256 + b * 64 + c * 32 < 18446744073709551616 then (a * 256 + b * 64 + c * 32, true) else (0, false)) := by
  unfold charge_Of.f
  rw [step_is 0 a 256 (by decide) (by decide) h0 (by decide) (by decide)]
  simp only [Option.bind_some]
  by_cases h1 : 0 + a * 256 < 18446744073709551616
  · rw [if_pos h1]
    simp only [if_true]
    rw [step_is _ b 64 (by omega) h1 g0 (by decide) (by decide)]
    simp only [Option.bind_some]
    by_cases h2 : 0 + a * 256 + b * 64 < 18446744073709551616
    · rw [if_pos h2]
      simp only [if_true]
      rw [step_is _ c 32 (by omega) h2 k0 (by decide) (by decide)]
      simp only [Option.bind_some]
      by_cases h3 : 0 + a * 256 + b * 64 + c * 32 < 18446744073709551616
      · rw [if_pos h3]; simp only [if_true]; rw [if_pos (by omega)]; simp
      · rw [if_neg h3]; simp only [Bool.false_eq_true, if_false]; rw [if_neg (by omega)]
    · rw [if_neg h2]; simp only [Bool.false_eq_true, if_false]; rw [if_neg (by omega)]
  · rw [if_neg h1]; simp only [Bool.false_eq_true, if_false]; rw [if_neg (by omega)]

theorem allows_is (a l m s : Int) (h0 : 0 ≤ a) (h1 : a < 18446744073709551616) (l0 : 0 ≤ l) (m0 : 0 ≤ m) (m1 : m < 18446744073709551616) (s0 : 0 ≤ s) (s1 : s < 18446744073709551616) (l1 : l < 18446744073709551616) :
    charge_Allows.f a l m s = some (decide (s ≤ a + m ∧ a + m - s ≤ l)) := by
  unfold charge_Allows.f
  rw [if_pos ⟨h0, m0, s0, s1⟩]
  congr 1
  rw [Bool.eq_iff_iff]
  simp only [Bool.and_eq_true, beq_iff_eq, decide_eq_true_iff]
  by_cases h : (a + m) % 18446744073709551616 < s
  · rw [if_pos h]; omega
  · rw [if_neg h]; omega

/-! ### the reference's numbers of two halves -/
def W (p : Int × Int) (v : Int) : Prop := v = p.1 * 4294967296 + p.2 ∧ 0 ≤ p.2 ∧ p.2 < 4294967296 ∧ 0 ≤ p.1 ∧ p.1 < 35184372088832
theorem tdivs (x c : Int) (h : 0 ≤ x) : Int.tdiv x c = x / c := Int.tdiv_eq_ediv_of_nonneg h
theorem tmods (x c : Int) (h : 0 ≤ x) : Int.tmod x c = x % c := Int.tmod_eq_emod_of_nonneg h
theorem wof (a : Int) (h0 : 0 ≤ a) (h1 : a < 18446744073709551616) : ∃ p, holtref15_of.f a = some p ∧ W p a := by
  refine ⟨_, rfl, ?_⟩
  rw [tdivs _ _ h0, tmods _ _ h0, wrap_u64]
  unfold W; simp only; omega
theorem wtimes (p : Int × Int) (v k : Int) (h : W p v) (hv : v < 18446744073709551616) (hk : k = 256 ∨ k = 64 ∨ k = 32) : ∃ q, holtref15_wide_times.f p.1 p.2 k = some q ∧ W q (v * k) := by
  obtain ⟨hp, a, b, c, d⟩ := h
  refine ⟨_, rfl, ?_⟩
  rcases hk with rfl | rfl | rfl
  all_goals
    rw [wrap_u64 (p.2 * _)]
    rw [tdivs _ _ (by omega), tmods _ _ (by omega), wrap_u64, wrap_u64, wrap_u64]
    unfold W; simp only; omega
theorem wplus (p q : Int × Int) (v u : Int) (h : W p v) (g : W q u) (hh : p.1 + q.1 < 17592186044416) : ∃ r, holtref15_wide_plus.f p.1 p.2 q.1 q.2 = some r ∧ W r (v + u) := by
  obtain ⟨hp, a, b, c, d⟩ := h
  obtain ⟨hq, a', b', c', d'⟩ := g
  refine ⟨_, rfl, ?_⟩
  rw [wrap_u64 (p.2 + _)]
  rw [tdivs _ _ (by omega), tmods _ _ (by omega), wrap_u64, wrap_u64, wrap_u64]
  unfold W; simp only; omega
theorem wbelow (p q : Int × Int) (v u : Int) (h : W p v) (g : W q u) : holtref15_wide_below.f p.1 p.2 q.1 q.2 = some (decide (v < u)) := by
  obtain ⟨hp, a, b, c, d⟩ := h
  obtain ⟨hq, a', b', c', d'⟩ := g
  unfold holtref15_wide_below.f
  by_cases h1 : p.1 < q.1
  · rw [if_pos h1, decide_eq_true (by omega)]
  · rw [if_neg h1]
    by_cases h2 : p.1 = q.1
    · rw [if_pos h2]; congr 1; rw [Bool.eq_iff_iff, decide_eq_true_iff, decide_eq_true_iff]; omega
    · rw [if_neg h2, decide_eq_false (by omega)]

theorem rof_is (a b c : Int) (h0 : 0 ≤ a) (h1 : a < 18446744073709551616) (g0 : 0 ≤ b) (g1 : b < 18446744073709551616) (k0 : 0 ≤ c) (k1 : c < 18446744073709551616) :
    holtref15_Of.f a b c = some (if a * 256 + b * 64 + c * 32 < 18446744073709551616 then (a * 256 + b * 64 + c * 32, true) else (0, false)) := by
  unfold holtref15_Of.f
  obtain ⟨p, hp, wp⟩ := wof a h0 h1
  obtain ⟨q, hq, wq⟩ := wof b g0 g1
  obtain ⟨r, hr, wr⟩ := wof c k0 k1
  obtain ⟨p', hp', wp'⟩ := wtimes p a 256 wp h1 (by decide)
  obtain ⟨q', hq', wq'⟩ := wtimes q b 64 wq g1 (by decide)
  obtain ⟨r', hr', wr'⟩ := wtimes r c 32 wr k1 (by decide)
  obtain ⟨s, hs, ws⟩ := wplus p' q' _ _ wp' wq' (by have := wp'; have := wq'; unfold W at *; omega)
  obtain ⟨t, ht, wt⟩ := wplus s r' _ _ ws wr' (by have := ws; have := wr'; unfold W at *; omega)
  rw [hp, hq, hr]
  simp only [Option.bind_some]
  rw [hp']
  simp only [Option.bind_some]
  rw [hq']
  simp only [Option.bind_some]
  rw [hs]
  simp only [Option.bind_some]
  rw [hr']
  simp only [Option.bind_some]
  rw [ht]
  simp only [Option.bind_some]
  unfold W at wt
  by_cases h : a * 256 + b * 64 + c * 32 < 18446744073709551616
  · rw [if_neg (by omega), if_pos h, wrap_u64, wrap_u64]
    have : (t.1 * 4294967296 % 18446744073709551616 + t.2) % 18446744073709551616 = a * 256 + b * 64 + c * 32 := by omega
    rw [this]
  · rw [if_pos (by omega), if_neg h]

theorem rallows_is (a l m s : Int) (h0 : 0 ≤ a) (h1 : a < 18446744073709551616) (l0 : 0 ≤ l) (l1 : l < 18446744073709551616) (m0 : 0 ≤ m) (m1 : m < 18446744073709551616) (s0 : 0 ≤ s) (s1 : s < 18446744073709551616) :
    holtref15_Allows.f a l m s = some (decide (s ≤ a + m ∧ a + m - s ≤ l)) := by
  unfold holtref15_Allows.f
  obtain ⟨p, hp, wp⟩ := wof a h0 h1
  obtain ⟨q, hq, wq⟩ := wof m m0 m1
  obtain ⟨r, hr, wr⟩ := wof l l0 l1
  obtain ⟨t, ht, wt⟩ := wof s s0 s1
  obtain ⟨u, hu, wu⟩ := wplus p q _ _ wp wq (by unfold W at *; omega)
  obtain ⟨v, hv, wv⟩ := wplus r t _ _ wr wt (by unfold W at *; omega)
  rw [hp, hq, hr, ht]
  simp only [Option.bind_some]
  rw [hu]
  simp only [Option.bind_some]
  rw [wbelow u t _ _ wu wt]
  simp only [Option.bind_some]
  by_cases h : a + m < s
  · rw [if_pos (decide_eq_true h), decide_eq_false (by omega)]
  · rw [if_neg (by simpa using h), hv]
    simp only [Option.bind_some]
    rw [wbelow v u _ _ wv wu]
    simp only [Option.bind_some]
    congr 1
    rw [Bool.eq_iff_iff]
    simp only [Bool.not_eq_true', decide_eq_false_iff_not, decide_eq_true_iff]
    omega

theorem chunks_is (a b : Int) (h0 : 0 ≤ a) (h1 : a < 18446744073709551616) (g0 : 0 ≤ b) (g1 : b < 18446744073709551616) : charge_Chunks.f a b = holtref15_Chunks.f a b ∧ ∃ p, holtref15_Chunks.f a b = some p := by
  unfold charge_Chunks.f holtref15_Chunks.f
  rw [tdivs _ _ h0, wrap_u64 (a / 64), xor_max a h0 h1, wrap_u64 (b - 1)]
  have e : a / 64 % 18446744073709551616 = a / 64 := by omega
  rw [e]
  by_cases hb : b = 0
  · rw [if_pos hb, if_pos hb]; exact ⟨rfl, _, rfl⟩
  · rw [if_neg hb, if_neg hb]
    have e1 : (b - 1) % 18446744073709551616 = b - 1 := by omega
    rw [e1, wrap_u64 (a + (b - 1))]
    by_cases h : (a + (b - 1)) % 18446744073709551616 < a
    · rw [if_pos h]
      refine ⟨?_, _, rfl⟩
      have e2 : mn (b - 1) (18446744073709551615 - a) = 18446744073709551615 - a := by unfold mn; omega
      rw [e2, wrap_u64, wrap_u64, wrap_u64]
      have e3 : (a + (18446744073709551615 - a)) % 18446744073709551616 = 18446744073709551615 := by omega
      rw [e3]
    · rw [if_neg h]
      refine ⟨?_, _, rfl⟩
      have e2 : mn (b - 1) (18446744073709551615 - a) = b - 1 := by unfold mn; omega
      rw [e2, tdivs _ _ (by omega), wrap_u64, wrap_u64, wrap_u64 (_ + 1), wrap_u64]
      have e3 : (a + (b - 1)) % 18446744073709551616 / 64 % 18446744073709551616 = (a + (b - 1)) % 18446744073709551616 / 64 := by omega
      rw [e3]

theorem charge_awake : holtlaw15_awake.f = some true := by
  unfold holtlaw15_awake.f
  rw [of_is 1 2 3 (by decide) (by decide) (by decide), of_is 1152921504606846976 0 0 (by decide) (by decide) (by decide), allows_is 10 12 5 3 (by decide) (by decide) (by decide) (by decide) (by decide) (by decide) (by decide) (by decide),
    allows_is 10 11 5 3 (by decide) (by decide) (by decide) (by decide) (by decide) (by decide) (by decide) (by decide)]
  have : charge_Chunks.f 63 2 = some (0, 2) := by
    unfold charge_Chunks.f
    rw [if_neg (by decide), xor_max 63 (by decide) (by decide)]
    decide
  rw [this]
  decide

theorem ChargeSums : holtlaw15_ChargeSums.Pure := by
  intro a b c d wa wb wc wd
  have ha := bounds_u64 wa
  have hb := bounds_u64 wb
  have hc := bounds_u64 wc
  have hd := bounds_u64 wd
  unfold holtlaw15_ChargeSums.f
  obtain ⟨e1, ⟨p, e2⟩⟩ := chunks_is a b (by omega) (by omega) (by omega) (by omega)
  rw [of_is a b c (by omega) (by omega) (by omega), rof_is a b c (by omega) (by omega) (by omega) (by omega) (by omega) (by omega), e1, e2,
    allows_is a b c d (by omega) (by omega) (by omega) (by omega) (by omega) (by omega) (by omega) (by omega), rallows_is a b c d (by omega) (by omega) (by omega) (by omega) (by omega) (by omega) (by omega) (by omega), charge_awake]
  simp

theorem ChargeAdds : holtlaw15_ChargeAdds.Pure := by
  intro a b c wa wb wc
  have ha := bounds_u64 wa
  have hb := bounds_u64 wb
  have hc := bounds_u64 wc
  unfold holtlaw15_ChargeAdds.f
  have m : (1099511627775 : Int) = ((2 ^ 40 - 1 : Nat) : Int) := by decide
  rw [and_ones a 40 (by decide) _ m (by omega) (by omega), and_ones b 40 (by decide) _ m (by omega) (by omega), and_ones c 40 (by decide) _ m (by omega) (by omega), charge_awake]
  have e40 : (2 : Int) ^ 40 = 1099511627776 := by decide
  rw [e40]
  simp only [Option.bind_some, if_true]
  rw [wrap_u64, wrap_u64, wrap_u64, of_is _ _ _ (by omega) (by omega) (by omega), of_is _ _ _ (by omega) (by omega) (by omega), if_pos (by omega), if_pos (by omega)]
  simp only [Option.bind_some, if_true]
  rw [wrap_u64, wrap_u64, if_pos (by omega), decide_eq_true (by omega)]

theorem turns_tail (k : Nat) (a l m s : Int) (h0 : 0 ≤ a) (h1 : a < 18446744073709551616) (l0 : 0 ≤ l) (l1 : l < 18446744073709551616) (m0 : 0 ≤ m) (m1 : m < 18446744073709551616) (s0 : 0 ≤ s) (s1 : s < 18446744073709551616) :
    holtlaw15_ChargeTurns.j0 (k + 1) a l m s false = some true := by
  simp only [holtlaw15_ChargeTurns.j0]
  rw [if_neg (by decide), wrap_u64, wrap_u64]
  have e1 : (a / 4 + m / 4) % 18446744073709551616 = a / 4 + m / 4 := by omega
  rw [e1, allows_is _ _ _ _ (by omega) (by omega) (by omega) (by omega) (by omega) (by omega) (by omega) (by omega)]
  simp only [Option.bind_some]
  by_cases h : a / 4 + m / 4 ≥ s / 4
  · have e2 : (a / 4 + m / 4 - s / 4) % 18446744073709551616 = a / 4 + m / 4 - s / 4 := by omega
    rw [if_pos h, e2, allows_is _ _ _ _ (by omega) (by omega) (by omega) (by omega) (by omega) (by omega) (by omega) (by omega)]
    simp only [Option.bind_some]
    rw [if_pos, decide_eq_true (by omega)]
    rw [beq_iff_eq, Bool.eq_iff_iff, decide_eq_true_iff, decide_eq_true_iff]
    omega
  · rw [if_neg h, decide_eq_false (by omega)]; rfl

theorem ChargeTurns : holtlaw15_ChargeTurns.Pure := by
  intro a l m s wa wl wm ws
  have ha := bounds_u64 wa
  have hl := bounds_u64 wl
  have hm := bounds_u64 wm
  have hs := bounds_u64 ws
  refine ⟨1, ?_⟩
  unfold holtlaw15_ChargeTurns.f
  have ht := turns_tail 0 a l m s (by omega) (by omega) (by omega) (by omega) (by omega) (by omega) (by omega) (by omega)
  rw [charge_awake, allows_is a l m s (by omega) (by omega) (by omega) (by omega) (by omega) (by omega) (by omega) (by omega), allows_is a 18446744073709551615 m s (by omega) (by omega) (by omega) (by omega) (by omega) (by omega) (by omega) (by omega)]
  simp only [Option.bind_some, if_true]
  by_cases h : s ≤ a + m ∧ a + m - s ≤ l
  · rw [if_pos (decide_eq_true h)]
    by_cases g : s ≤ a + m ∧ a + m - s ≤ 18446744073709551615
    · rw [decide_eq_true g]; exact ht
    · omega
  · rw [if_neg (by simpa using h)]; exact ht
end Go.Proofs.Ytkcnmlggaggjlaa.Pure

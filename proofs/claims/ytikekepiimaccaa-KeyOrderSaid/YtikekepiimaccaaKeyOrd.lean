/- KeyOrder: keys of one inode stand in the row of their numbers, and between them none of another one's: the plain statement behind the row. No conditions beyond those in the statement. -/
import Derived.Test.YtikekepiimaccaaNumLKo
import Derived.OpenShut
import Derived.Test.YtikekepiimaccaaKo1
import Derived.Test.YtikekepiimaccaaKo3
import Derived.Test.YtikekepiimaccaaKo4
set_option linter.unusedVariables false
set_option linter.unusedSimpArgs false
namespace Go.Proofs.Ytikekepiimaccaa.KeyO
open Go.RowKit Go.Proofs.Ytikekepiimaccaa.Ko Go.Proofs.YtikekepiimaccaaW.PrintWords Go.Proofs.YtikekepiimaccaaW.PrintLast Go.Proofs.YtikekepiimaccaaW.PrintMore Go.Proofs.Ytikekepiimaccaa.NumL

theorem str_append (l m : List Int) : strOfNums l ++ strOfNums m = strOfNums (l ++ m) := by
  unfold strOfNums
  apply ByteArray.ext
  simp
/-- eight bytes, the highest first -/
def be (x : Int) : List Int := (leB x 8).reverse
theorem be_length (x : Int) : (be x).length = 8 := by unfold be; rw [List.length_reverse, leB_length]
theorem be_range (x : Int) : ∀ b ∈ be x, 0 ≤ b ∧ b < 256 := fun b hb => leB_range x 8 b (by simpa [be] using hb)
theorem nbe8 (x : Int) (k : Nat) (hk : 10 < k) (h0 : 0 ≤ x) (h1 : x < 18446744073709551616) : num_Be.f k x 8 = some (strOfNums (be x), 0) := by
  have e := be_is x 8 k h0 h1 (by omega) (by omega) (by omega)
  rwa [if_pos (fits8 _ h0 h1), show ((8 : Nat) : Int) = 8 from rfl] at e
theorem eight (l : List Int) (x : Int) (k : Nat) (hk : 10 < k) (h0 : 0 ≤ x) (h1 : x < 18446744073709551616) (hp : l.length ≤ 100) : key_kind_eight.f k (strOfNums l) x = some (strOfNums (l ++ be x)) := by
  unfold key_kind_eight.f
  rw [nbe8 x k hk h0 h1]
  simp only [Option.bind_some, strOfNums_size, be_length]
  rw [if_pos (by omega), str_append]
theorem lit (n : Nat) (h : n < 256) : (⟨#[UInt8.ofNat n]⟩ : ByteArray) = strOfNums [(n : Int)] := by
  simp [strOfNums]
theorem inode_is (a : Int) (k : Nat) (hk : 10 < k) (h0 : 0 ≤ a) (h1 : a < 18446744073709551616) : key_Inode.f k a = some (strOfNums ([97] ++ be a)) := by
  unfold key_Inode.f
  have e : (⟨#[97]⟩ : ByteArray) = strOfNums [97] := rfl
  rw [e, eight _ a k hk h0 h1 (by decide)]
  rfl
theorem pend_is (a : Int) (k : Nat) (hk : 10 < k) (h0 : 0 ≤ a) (h1 : a < 18446744073709551616) : key_Pend.f k a = some (strOfNums ([112] ++ be a)) := by
  unfold key_Pend.f
  have e : (⟨#[112]⟩ : ByteArray) = strOfNums [112] := rfl
  rw [e, eight _ a k hk h0 h1 (by decide)]
  rfl
theorem data_is (a b : Int) (k : Nat) (hk : 10 < k) (h0 : 0 ≤ a) (h1 : a < 18446744073709551616) (g0 : 0 ≤ b) (g1 : b < 18446744073709551616) : key_Data.f k a b = some (strOfNums ([100] ++ be a ++ be b)) := by
  unfold key_Data.f
  have e : (⟨#[100]⟩ : ByteArray) = strOfNums [100] := rfl
  rw [e, eight _ a k hk h0 h1 (by decide)]
  simp only [Option.bind_some]
  rw [eight _ b k hk g0 g1 (by rw [List.length_append, be_length]; decide)]
  rfl
theorem cookie_is (a b : Int) (k : Nat) (hk : 10 < k) (h0 : 0 ≤ a) (h1 : a < 18446744073709551616) (g0 : 0 ≤ b) (g1 : b < 18446744073709551616) : key_Cookie.f k a b = some (strOfNums ([99] ++ be a ++ be b)) := by
  unfold key_Cookie.f
  have e : (⟨#[99]⟩ : ByteArray) = strOfNums [99] := rfl
  rw [e, eight _ a k hk h0 h1 (by decide)]
  simp only [Option.bind_some]
  rw [eight _ b k hk g0 g1 (by rw [List.length_append, be_length]; decide)]
  rfl
theorem entry_is (a : Int) (s : ByteArray) (k : Nat) (hk : 10 < k) (h0 : 0 ≤ a) (h1 : a < 18446744073709551616) (hs : s.size ≤ 100) : key_Entry.f k a s = some (strOfNums ([101] ++ be a) ++ s) := by
  unfold key_Entry.f
  have e : (⟨#[101]⟩ : ByteArray) = strOfNums [101] := rfl
  rw [e, eight _ a k hk h0 h1 (by decide)]
  simp only [Option.bind_some]
  rw [if_pos (by rw [strOfNums_size, List.length_append, be_length]; simp; omega)]

theorem p8 : (256 : Int) ^ 8 = 18446744073709551616 := by decide
theorem valBe_be (x : Int) (h0 : 0 ≤ x) (h1 : x < 18446744073709551616) (acc : Int) (r : List Int) : valBe acc (be x ++ r) = valBe (acc * 18446744073709551616 + x) r := by
  have key : ∀ (l : List Int) (acc : Int), valBe acc l = acc * 256 ^ l.length + valBe 0 l := by
    intro l
    induction l with
    | nil => intro acc; simp [valBe]
    | cons b l ih =>
      intro acc
      simp only [valBe, List.length_cons]
      rw [ih (acc * 256 + b), ih (0 * 256 + b), Int.pow_succ]
      generalize (256 : Int) ^ l.length = P
      have e1 : (acc * 256 + b) * P = acc * 256 * P + b * P := Int.add_mul ..
      have e2 : acc * (P * 256) = acc * 256 * P := by rw [Int.mul_comm P 256, Int.mul_assoc]
      have e3 : (0 * 256 + b) * P = b * P := by simp
      omega
  rw [valBe_append, key (be x) acc, be_length, p8]
  unfold be
  rw [valBe_reverse, valLe_leB, p8]
  have : x % 18446744073709551616 = x := by omega
  rw [this]
theorem rng1 (c : Int) (hc : 0 ≤ c ∧ c < 256) (a : Int) : ∀ b ∈ [c] ++ be a, 0 ≤ b ∧ b < 256 := by
  intro b hb
  simp only [List.mem_append, List.mem_singleton] at hb
  rcases hb with rfl | hb
  · exact hc
  · exact be_range a b hb
theorem rng2 (c : Int) (hc : 0 ≤ c ∧ c < 256) (a i : Int) : ∀ b ∈ [c] ++ be a ++ be i, 0 ≤ b ∧ b < 256 := by
  intro b hb
  rw [List.mem_append] at hb
  rcases hb with hb | hb
  · exact rng1 c hc a b hb
  · exact be_range i b hb
theorem less1 (c a b : Int) (hc : 0 ≤ c ∧ c < 256) (h0 : 0 ≤ a) (h1 : a < 18446744073709551616) (g0 : 0 ≤ b) (g1 : b < 18446744073709551616) :
    Op.bytesLess (strOfNums ([c] ++ be a)).toList (strOfNums ([c] ++ be b)).toList = decide (a < b) := by
  rw [toList_strOfNums, toList_strOfNums, bytesLess_val _ _ (by simp [be_length]) (rng1 c hc a) (rng1 c hc b) 0]
  have e1 := valBe_be a h0 h1 (0 * 256 + c) []
  have e2 := valBe_be b g0 g1 (0 * 256 + c) []
  rw [List.append_nil] at e1 e2
  simp only [List.singleton_append, valBe] at e1 e2 ⊢
  rw [e1, e2]
  congr 1
  apply propext
  omega
theorem less2 (c a b i j : Int) (hc : 0 ≤ c ∧ c < 256) (h0 : 0 ≤ a) (h1 : a < 18446744073709551616) (g0 : 0 ≤ b) (g1 : b < 18446744073709551616) (i0 : 0 ≤ i) (i1 : i < 18446744073709551616) (j0 : 0 ≤ j) (j1 : j < 18446744073709551616) :
    Op.bytesLess (strOfNums ([c] ++ be a ++ be i)).toList (strOfNums ([c] ++ be b ++ be j)).toList = decide (a < b ∨ a = b ∧ i < j) := by
  rw [toList_strOfNums, toList_strOfNums, bytesLess_val _ _ (by simp [be_length]) (rng2 c hc a i) (rng2 c hc b j) 0]
  have e1 := valBe_be a h0 h1 (0 * 256 + c) (be i)
  have e2 := valBe_be b g0 g1 (0 * 256 + c) (be j)
  have e3 := valBe_be i i0 i1 ((0 * 256 + c) * 18446744073709551616 + a) []
  have e4 := valBe_be j j0 j1 ((0 * 256 + c) * 18446744073709551616 + b) []
  rw [List.append_nil] at e3 e4
  rw [e3] at e1
  rw [e4] at e2
  simp only [List.singleton_append, List.cons_append, List.nil_append, valBe] at e1 e2 ⊢
  rw [e1, e2]
  congr 1
  apply propext
  omega
theorem less_prefix (l : List UInt8) : ∀ (m s t : List UInt8), l.length = m.length → Op.bytesLess l m = true → Op.bytesLess (l ++ s) (m ++ t) = true := by
  induction l with
  | nil =>
    intro m s t hl h
    obtain rfl : m = [] := List.eq_nil_of_length_eq_zero hl.symm
    simp [Op.bytesLess] at h
  | cons a l ih =>
    intro m s t hl h
    cases m with
    | nil => simp at hl
    | cons b m =>
      simp only [Op.bytesLess, List.cons_append, Bool.or_eq_true, Bool.and_eq_true] at h ⊢
      rcases h with h | ⟨h, g⟩
      · exact .inl h
      · exact .inr ⟨h, ih m s t (by simpa using hl) g⟩
theorem toList_append (a b : ByteArray) : (a ++ b).toList = a.toList ++ b.toList := by
  rw [ByteArray.toList_eq, ByteArray.toList_eq, ByteArray.toList_eq]
  simp

theorem awake_is (k : Nat) (hk : 30 ≤ k) : holtlaw12_awake.f k = some true :=
  at_rounds (g := fun k => holtlaw12_awake.f k) (fun k => holtlaw12_awake.mono k) hk (by decide +kernel)

theorem tail (a b i j : Int) (h0 : 0 ≤ a) (h1 : a < 18446744073709551616) (g0 : 0 ≤ b) (g1 : b < 18446744073709551616) (i0 : 0 ≤ i) (i1 : i < 18446744073709551616) (j0 : 0 ≤ j) (j1 : j < 18446744073709551616) :
    holtlaw12_KeyOrder.j0 31 a b i j false = some true := by
  show holtlaw12_KeyOrder.j0 (30 + 1) a b i j false = some true
  simp only [holtlaw12_KeyOrder.j0]
  rw [if_neg (by decide)]
  by_cases h : a < b
  · rw [if_pos h, data_is a _ 30 (by decide) h0 h1 (by decide) (by decide), data_is b 0 30 (by decide) g0 g1 (by decide) (by decide)]
    simp only [Option.bind_some]
    rw [less2 100 a b _ 0 (by decide) h0 h1 g0 g1 (by decide) (by decide) (by decide) (by decide), if_pos (decide_eq_true (by omega)),
      cookie_is a i 30 (by decide) h0 h1 i0 i1, cookie_is b j 30 (by decide) g0 g1 j0 j1]
    simp only [Option.bind_some]
    rw [less2 99 a b i j (by decide) h0 h1 g0 g1 i0 i1 j0 j1, if_pos (decide_eq_true (by omega)), inode_is a 30 (by decide) h0 h1, inode_is b 30 (by decide) g0 g1]
    simp only [Option.bind_some]
    rw [less1 97 a b (by decide) h0 h1 g0 g1, if_pos (decide_eq_true h), entry_is a _ 30 (by decide) h0 h1 (by decide), entry_is b _ 30 (by decide) g0 g1 (by decide)]
    simp only [Option.bind_some]
    rw [toList_append, toList_append]
    rw [less_prefix _ _ _ _ (by rw [toList_strOfNums, toList_strOfNums]; simp [asBytes, be_length]) (by rw [less1 101 a b (by decide) h0 h1 g0 g1]; exact decide_eq_true h)]
  · rw [if_neg h]
    by_cases e : a = b
    · rw [if_pos e]
    · rw [if_neg e, data_is b i 30 (by decide) g0 g1 i0 i1, data_is a j 30 (by decide) h0 h1 j0 j1]
      simp only [Option.bind_some]
      rw [less2 100 b a i j (by decide) g0 g1 h0 h1 i0 i1 j0 j1, decide_eq_true (by omega)]
end Go.Proofs.Ytikekepiimaccaa.KeyO
namespace Go.Proofs.Ytikekepiimaccaa.Pure
open Go.RowKit Go.Proofs.Ytikekepiimaccaa.Ko Go.Proofs.Ytikekepiimaccaa.KeyO
theorem KeyOrder : holtlaw12_KeyOrder.Pure := by
  intro a b i j wa wb wi wj
  have ha := bounds_u64 wa
  have hb := bounds_u64 wb
  have hi := bounds_u64 wi
  have hj := bounds_u64 wj
  have T := tail a b i j (by omega) (by omega) (by omega) (by omega) (by omega) (by omega) (by omega) (by omega)
  refine ⟨31, ?_⟩
  unfold holtlaw12_KeyOrder.f
  rw [awake_is 31 (by decide)]
  simp only [Option.bind_some, if_true]
  rw [data_is a i 31 (by decide) (by omega) (by omega) (by omega) (by omega), data_is a j 31 (by decide) (by omega) (by omega) (by omega) (by omega)]
  simp only [Option.bind_some]
  rw [less2 100 a a i j (by decide) (by omega) (by omega) (by omega) (by omega) (by omega) (by omega) (by omega) (by omega)]
  have e : decide (a < a ∨ a = a ∧ i < j) = decide (i < j) := by congr 1; apply propext; omega
  rw [e, if_neg (by simp), cookie_is a i 31 (by decide) (by omega) (by omega) (by omega) (by omega), cookie_is a j 31 (by decide) (by omega) (by omega) (by omega) (by omega)]
  simp only [Option.bind_some]
  rw [less2 99 a a i j (by decide) (by omega) (by omega) (by omega) (by omega) (by omega) (by omega) (by omega) (by omega), e, if_neg (by simp), pend_is i 31 (by decide) (by omega) (by omega), pend_is j 31 (by decide) (by omega) (by omega)]
  simp only [Option.bind_some]
  rw [less1 112 i j (by decide) (by omega) (by omega) (by omega) (by omega), bne_self_eq_false]
  exact T
end Go.Proofs.Ytikekepiimaccaa.Pure

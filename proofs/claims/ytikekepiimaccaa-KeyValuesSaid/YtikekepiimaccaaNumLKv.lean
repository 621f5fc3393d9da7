/- Plain laws about numbers as texts of bytes: what the printed functions of packages num and holtref1 come to, for numbers of their kinds. No conditions beyond those in the statements. -/
import Derived.Test.YtikekepiimaccaaKv1
import Derived.Test.YtikekepiimaccaaKv3
import Derived.Test.YtikekepiimaccaaKv4
import Derived.Test.YtikekepiimaccaaKv6
import Derived.Laws.BitsAllLaws
namespace Go.Proofs.Ytikekepiimaccaa.NumL
open Go.RowKit Go.Proofs.Ytikekepiimaccaa.Kv Go.Proofs.YtikekepiimaccaaW.PrintWords Go.Proofs.YtikekepiimaccaaW.PrintLast Go.Proofs.YtikekepiimaccaaW.PrintMore

theorem wrap_u64 (x : Int) : IntKind.u64.wrap x = x % 18446744073709551616 := by
  simp [IntKind.wrap, IntKind.signed, IntKind.bits]
theorem wrap64_of {x : Int} (h0 : -9223372036854775808 ≤ x) (h1 : x ≤ 9223372036854775807) : wrap64 x = x := by
  unfold wrap64; omega

/-- the lowest n bytes of x, the lowest first -/
def leB (x : Int) : Nat → List Int
  | 0 => []
  | n + 1 => x % 256 :: leB (x / 256) n
theorem leB_length (x : Int) (n : Nat) : (leB x n).length = n := by
  induction n generalizing x with
  | zero => rfl
  | succ n ih => simp [leB, ih]
theorem leB_range (x : Int) (n : Nat) : ∀ b ∈ leB x n, 0 ≤ b ∧ b < 256 := by
  induction n generalizing x with
  | zero => intro b hb; cases hb
  | succ n ih =>
    intro b hb
    simp only [leB, List.mem_cons] at hb
    rcases hb with rfl | hb
    · omega
    · exact ih _ b hb
theorem div_pow (x : Int) (i : Nat) : x / 256 ^ i / 256 = x / 256 ^ (i + 1) := by
  rw [Int.pow_succ, Int.ediv_ediv_of_nonneg]
  exact Int.le_of_lt (Int.pow_pos (by decide))
theorem div_pow' (x : Int) (i : Nat) : x / 256 / 256 ^ i = x / 256 ^ (i + 1) := by
  rw [Int.pow_succ, Int.mul_comm, Int.ediv_ediv_of_nonneg (by decide)]
theorem two_pow8 (i : Nat) : (2 : Int) ^ (8 * i) = 256 ^ i := by
  induction i with
  | zero => rfl
  | succ i ih => rw [Nat.mul_succ, Int.pow_add, ih, Int.pow_succ]; rfl
theorem shr_8 (x : Int) (i : Nat) (hi : i ≤ 8) : shr .u64 x (8 * (i : Int)) = x / 256 ^ i := by
  unfold shr
  have h : min (8 * (i : Int)).toNat IntKind.u64.bits = 8 * i := by simp [IntKind.bits]; omega
  rw [h, two_pow8]

theorem most_is (x : Int) (n : Nat) (h0 : 0 ≤ x) (h1 : x < 18446744073709551616) (hn : 1 ≤ n) (h8 : n ≤ 8) :
    num_most.f x (n : Int) = some (decide (x / 256 ^ n = 0)) := by
  unfold num_most.f
  by_cases h : n = 8
  · subst h
    rw [if_pos (show ((8 : Nat) : Int) = 8 from rfl)]
    have : x / 256 ^ 8 = 0 := by
      have e : (256 : Int) ^ 8 = 18446744073709551616 := by decide
      rw [e]; omega
    rw [this]; rfl
  · rw [if_neg (by omega), wrap64_of (by omega) (by omega), if_pos (by omega), shr_8 x n h8]
    rfl

theorem take_set_succ (xs : List Int) (i : Nat) (v : Int) (h : i < xs.length) : (xs.set i v).take (i + 1) = xs.take i ++ [v] := by
  rw [List.take_succ_eq_append_getElem (by simpa using h)]
  rw [List.take_set_of_le (Nat.le_refl i)]
  simp
theorem drop_set_self (xs : List Int) (i : Nat) (v : Int) (h : i < xs.length) : (xs.set i v).drop i = v :: xs.drop (i + 1) := by
  rw [List.drop_eq_getElem_cons (by simpa using h)]
  rw [List.drop_set_of_lt (by omega)]
  simp

theorem le_loop (x : Int) (n d : Nat) : ∀ (k i : Nat) (xs : List Int), xs.length = n → n ≤ 8 → i + d = n → d < k →
    num_Le.l0 k x xs (n : Int) (i : Int) = some (strOfNums (xs.take i ++ leB (x / 256 ^ i) d), 0) := by
  induction d with
  | zero =>
    intro k i xs hl h8 hi hk
    obtain ⟨k, rfl⟩ : ∃ m, k = m + 1 := ⟨k - 1, by omega⟩
    simp only [num_Le.l0]
    rw [if_neg (by omega), List.take_of_length_le (by omega)]
    simp [leB]
  | succ d ih =>
    intro k i xs hl h8 hi hk
    obtain ⟨k, rfl⟩ : ∃ m, k = m + 1 := ⟨k - 1, by omega⟩
    simp only [num_Le.l0]
    rw [if_pos (by omega), wrap64_of (by omega) (by omega), if_pos (by omega), if_pos (by omega), if_pos (by omega), wrap64_of (by omega) (by omega), shr_8 x i (by omega)]
    have e : ((i : Int) + 1) = ((i + 1 : Nat) : Int) := by omega
    rw [e, ih k (i + 1) _ (by simpa using hl) h8 (by omega) (by omega), Int.toNat_natCast, take_set_succ _ _ _ (by omega), ← div_pow]
    simp [leB]

theorem le_is (x : Int) (n k : Nat) (h0 : 0 ≤ x) (h1 : x < 18446744073709551616) (hn : 1 ≤ n) (h8 : n ≤ 8) (hk : n + 1 < k) :
    num_Le.f k x (n : Int) = some (if x / 256 ^ n = 0 then (strOfNums (leB x n), 0) else (⟨#[]⟩, 100)) := by
  obtain ⟨k, rfl⟩ : ∃ m, k = m + 1 := ⟨k - 1, by omega⟩
  unfold num_Le.f
  rw [if_neg (by omega), if_neg (by omega), most_is x n h0 h1 hn h8]
  simp only [Option.bind_some, num_Le.j0]
  by_cases hx : x / 256 ^ n = 0
  · rw [if_neg (by simp [hx]), if_pos (by omega), if_pos (by omega), if_pos hx]
    have := le_loop x n n k 0 (List.replicate n 0) (by simp) h8 (by omega) (by omega)
    simpa using this
  · rw [if_pos (by simp [hx]), if_neg hx]

theorem le_bad (x m : Int) (k : Nat) (hm : m < 1 ∨ 8 < m) (hk : 1 < k) : num_Le.f k x m = some (⟨#[]⟩, 100) := by
  obtain ⟨k, rfl⟩ : ∃ m, k = m + 1 := ⟨k - 1, by omega⟩
  unfold num_Le.f
  rcases hm with hm | hm
  · rw [if_pos hm]; simp [num_Le.j0]
  · rw [if_neg (by omega), if_pos hm]; simp [num_Le.j0]

theorem be_loop (x : Int) (n d : Nat) : ∀ (k i : Nat) (xs : List Int), xs.length = n → n ≤ 8 → i + d = n → d < k →
    num_Be.l0 k x (n : Int) xs (n : Int) (i : Int) = some (strOfNums ((leB (x / 256 ^ i) d).reverse ++ xs.drop d), 0) := by
  induction d with
  | zero =>
    intro k i xs hl h8 hi hk
    obtain ⟨k, rfl⟩ : ∃ m, k = m + 1 := ⟨k - 1, by omega⟩
    simp only [num_Be.l0]
    rw [if_neg (by omega)]
    simp [leB]
  | succ d ih =>
    intro k i xs hl h8 hi hk
    obtain ⟨k, rfl⟩ : ∃ m, k = m + 1 := ⟨k - 1, by omega⟩
    simp only [num_Be.l0]
    have e1 : wrap64 ((n : Int) - 1) = (n : Int) - 1 := wrap64_of (by omega) (by omega)
    have e2 : wrap64 ((n : Int) - 1 - i) = (d : Int) := by rw [wrap64_of (by omega) (by omega)]; omega
    rw [if_pos (by omega), wrap64_of (by omega) (by omega), if_pos (by omega), e1, e2, if_pos (by omega), if_pos (by omega), wrap64_of (by omega) (by omega), shr_8 x i (by omega)]
    have e : ((i : Int) + 1) = ((i + 1 : Nat) : Int) := by omega
    rw [e, ih k (i + 1) _ (by simpa using hl) h8 (by omega) (by omega), Int.toNat_natCast, drop_set_self _ _ _ (by omega), ← div_pow]
    simp [leB]

theorem be_is (x : Int) (n k : Nat) (h0 : 0 ≤ x) (h1 : x < 18446744073709551616) (hn : 1 ≤ n) (h8 : n ≤ 8) (hk : n + 1 < k) :
    num_Be.f k x (n : Int) = some (if x / 256 ^ n = 0 then (strOfNums (leB x n).reverse, 0) else (⟨#[]⟩, 100)) := by
  obtain ⟨k, rfl⟩ : ∃ m, k = m + 1 := ⟨k - 1, by omega⟩
  unfold num_Be.f
  rw [if_neg (by omega), if_neg (by omega), most_is x n h0 h1 hn h8]
  simp only [Option.bind_some, num_Be.j0]
  by_cases hx : x / 256 ^ n = 0
  · rw [if_neg (by simp [hx]), if_pos (by omega), if_pos (by omega), if_pos hx]
    have := be_loop x n n k 0 (List.replicate n 0) (by simp) h8 (by omega) (by omega)
    simpa using this
  · rw [if_pos (by simp [hx]), if_neg hx]

theorem be_bad (x m : Int) (k : Nat) (hm : m < 1 ∨ 8 < m) (hk : 1 < k) : num_Be.f k x m = some (⟨#[]⟩, 100) := by
  obtain ⟨k, rfl⟩ : ∃ m, k = m + 1 := ⟨k - 1, by omega⟩
  unfold num_Be.f
  rcases hm with hm | hm
  · rw [if_pos hm]; simp [num_Be.j0]
  · rw [if_neg (by omega), if_pos hm]; simp [num_Be.j0]

/-! ### the reference's Le -/
theorem rle_loop (n d : Nat) : ∀ (x : Int) (k i : Nat) (acc : List Int), 0 ≤ x → x < 18446744073709551616 → acc.length = i → n ≤ 8 → i + d = n → d < k →
    holtref1_Le.l0 k x (n : Int) acc (i : Int) = some (if x / 256 ^ d = 0 then (strOfNums (acc ++ leB x d), 0) else (⟨#[]⟩, 100)) := by
  induction d with
  | zero =>
    intro x k i acc h0 h1 hl h8 hi hk
    obtain ⟨k, rfl⟩ : ∃ m, k = m + 1 := ⟨k - 1, by omega⟩
    simp only [holtref1_Le.l0]
    rw [if_neg (by omega)]
    by_cases hx : x = 0 <;> simp [leB, hx]
  | succ d ih =>
    intro x k i acc h0 h1 hl h8 hi hk
    obtain ⟨k, rfl⟩ : ∃ m, k = m + 1 := ⟨k - 1, by omega⟩
    simp only [holtref1_Le.l0]
    have e : ((i : Int) + 1) = ((i + 1 : Nat) : Int) := by omega
    have t1 : Int.tdiv x 256 = x / 256 := Int.tdiv_eq_ediv_of_nonneg h0
    have t2 : Int.tmod x 256 = x % 256 := Int.tmod_eq_emod_of_nonneg h0
    have e2 : x / 256 % 18446744073709551616 = x / 256 := by omega
    have e3 : x % 256 % 256 = x % 256 := by omega
    rw [if_pos (by omega), if_pos (by omega), wrap64_of (by omega) (by omega), wrap_u64, t1, t2, e2, e3, e, ih (x / 256) k (i + 1) _ (by omega) (by omega) (by simp [hl]) h8 (by omega) (by omega), div_pow']
    simp [leB]

theorem rle_is (x : Int) (n k : Nat) (h0 : 0 ≤ x) (h1 : x < 18446744073709551616) (hn : 1 ≤ n) (h8 : n ≤ 8) (hk : n + 1 < k) :
    holtref1_Le.f k x (n : Int) = some (if x / 256 ^ n = 0 then (strOfNums (leB x n), 0) else (⟨#[]⟩, 100)) := by
  obtain ⟨k, rfl⟩ : ∃ m, k = m + 1 := ⟨k - 1, by omega⟩
  unfold holtref1_Le.f
  rw [if_neg (by omega)]
  simp only [holtref1_Le.j0]
  rw [if_neg (by simp; omega)]
  have := rle_loop n n x k 0 [] h0 h1 rfl h8 (by omega) (by omega)
  simpa using this

theorem rle_bad (x m : Int) (k : Nat) (hm : m < 1 ∨ 8 < m) (hk : 1 < k) : holtref1_Le.f k x m = some (⟨#[]⟩, 100) := by
  obtain ⟨k, rfl⟩ : ∃ m, k = m + 1 := ⟨k - 1, by omega⟩
  unfold holtref1_Le.f
  rcases hm with hm | hm
  · rw [if_pos hm]; simp [holtref1_Le.j0]
  · rw [if_neg (by omega)]; simp [holtref1_Le.j0, hm]

/-! ### texts and lists of numbers -/
theorem bytesOf_strOfNums (xs : List Int) (h : ∀ b ∈ xs, 0 ≤ b ∧ b < 256) : bytesOf (strOfNums xs) = xs := by
  unfold bytesOf strOfNums
  simp only [List.map_map]
  conv => rhs; rw [← List.map_id xs]
  apply List.map_congr_left
  intro b hb
  have := h b hb
  simp only [Function.comp_apply, id_eq]
  rw [UInt8.toNat_ofNat']
  have : b.toNat < 256 := by omega
  omega
theorem strOfNums_size (xs : List Int) : (strOfNums xs).size = xs.length := by
  simp [strOfNums, ByteArray.size]
theorem bytesOf_range (s : ByteArray) : ∀ b ∈ bytesOf s, 0 ≤ b ∧ b < 256 := by
  intro b hb
  unfold bytesOf at hb
  simp only [List.mem_map] at hb
  obtain ⟨c, _, rfl⟩ := hb
  have := c.toNat_lt
  omega

theorem turned_loop (s : ByteArray) (hs : s.size ≤ 140737488351232) (d : Nat) : ∀ (k : Nat) (acc : List Int), d ≤ s.size → acc.length + d = s.size → d < k →
    holtref1_turned.l0 k s acc ((d : Int) - 1) = some (strOfNums (acc ++ ((bytesOf s).take d).reverse)) := by
  induction d with
  | zero =>
    intro k acc hd hl hk
    obtain ⟨k, rfl⟩ : ∃ m, k = m + 1 := ⟨k - 1, by omega⟩
    simp only [holtref1_turned.l0]
    rw [if_neg (by omega)]
    simp
  | succ d ih =>
    intro k acc hd hl hk
    obtain ⟨k, rfl⟩ : ∃ m, k = m + 1 := ⟨k - 1, by omega⟩
    simp only [holtref1_turned.l0]
    have e : (((d + 1 : Nat) : Int) - 1) = (d : Int) := by omega
    rw [e, if_pos (by omega), if_pos (by omega), if_pos (by omega), if_pos (by omega), wrap64_of (by omega) (by omega), ih k _ (by omega) (by simp; omega) (by omega)]
    rw [← rd_bytesOf, List.take_succ_eq_append_getElem (by rw [bytesOf_length]; omega)]
    simp only [rd, Int.toNat_natCast, List.reverse_append, List.append_assoc]
    rw [List.getD_eq_getElem?_getD, List.getElem?_eq_getElem (by rw [bytesOf_length]; omega)]
    simp

theorem turned_is (s : ByteArray) (hs : s.size ≤ 140737488351232) (k : Nat) (hk : s.size < k) : holtref1_turned.f k s = some (strOfNums (bytesOf s).reverse) := by
  unfold holtref1_turned.f
  rw [wrap64_of (by omega) (by omega), turned_loop s hs s.size k [] (by omega) (by simp) hk, List.take_of_length_le (by rw [bytesOf_length]; omega)]
  simp

/-! ### from texts to numbers -/
def valLe : List Int → Int
  | [] => 0
  | b :: l => b + 256 * valLe l
def valBe (acc : Int) : List Int → Int
  | [] => acc
  | b :: l => valBe (acc * 256 + b) l
theorem valBe_append (l m : List Int) (acc : Int) : valBe acc (l ++ m) = valBe (valBe acc l) m := by
  induction l generalizing acc with
  | nil => rfl
  | cons b l ih => simp [valBe, ih]
theorem valBe_reverse (l : List Int) : valBe 0 l.reverse = valLe l := by
  induction l with
  | nil => rfl
  | cons b l ih => simp [valBe_append, ih, valBe, valLe]; omega
theorem valLe_leB (x : Int) (n : Nat) : valLe (leB x n) = x % 256 ^ n := by
  induction n generalizing x with
  | zero => simp [leB, valLe, Int.emod_one]
  | succ n ih =>
    simp only [leB, valLe, ih]
    have hp : (0 : Int) < 256 ^ n := Int.pow_pos (by decide)
    have e1 := Int.emod_add_mul_ediv x (256 ^ (n + 1))
    have e2 := Int.emod_add_mul_ediv (x / 256) (256 ^ n)
    rw [div_pow'] at e2
    have e3 : (256 : Int) ^ (n + 1) = 256 ^ n * 256 := Int.pow_succ ..
    generalize x / 256 ^ (n + 1) = q at e1 e2
    generalize hr : x / 256 % 256 ^ n = r at e2 ⊢
    generalize hs : x % 256 ^ (n + 1) = s at e1 ⊢
    rw [e3] at e1
    generalize (256 : Int) ^ n = P at *
    have e4 : P * 256 * q = 256 * (P * q) := by rw [Int.mul_comm P 256, Int.mul_assoc]
    rw [e4] at e1
    omega
theorem valLe_range (l : List Int) (h : ∀ b ∈ l, 0 ≤ b ∧ b < 256) : 0 ≤ valLe l ∧ valLe l < 256 ^ l.length := by
  induction l with
  | nil => simp [valLe]
  | cons b l ih =>
    obtain ⟨i0, i1⟩ := ih (fun c hc => h c (List.mem_cons_of_mem _ hc))
    have := h b (List.mem_cons_self ..)
    simp only [valLe, List.length_cons, Int.pow_succ]
    omega

theorem rd_cons_drop (l : List Int) (i : Nat) (h : i < l.length) : l.drop i = rd l i :: l.drop (i + 1) := by
  rw [List.drop_eq_getElem_cons h]
  simp [rd, List.getD_eq_getElem?_getD, List.getElem?_eq_getElem h]
theorem rd_range (s : ByteArray) (i : Int) : 0 ≤ bt s i ∧ bt s i < 256 := by have := bt_range s i; omega

theorem pow256_le (i : Nat) (h : i ≤ 7) : (256 : Int) ^ i ≤ 72057594037927936 := by
  rcases (by omega : i = 0 ∨ i = 1 ∨ i = 2 ∨ i = 3 ∨ i = 4 ∨ i = 5 ∨ i = 6 ∨ i = 7) with rfl | rfl | rfl | rfl | rfl | rfl | rfl | rfl <;> decide

theorem or_add (x b : Int) (i : Nat) (hi : i ≤ 7) (h0 : 0 ≤ x) (h1 : x < 256 ^ i) (hb0 : 0 ≤ b) (hb : b < 256) :
    Go.bits .or .u64 x (shl .u64 (IntKind.u64.wrap b) (8 * (i : Int))) = x + 256 ^ i * b := by
  have hp : (0 : Int) < 256 ^ i := Int.pow_pos (by decide)
  have hq := pow256_le i hi
  have hm : (256 : Int) ^ i * b ≤ 256 ^ i * 255 := Int.mul_le_mul_of_nonneg_left (by omega) (by omega)
  have hm0 : 0 ≤ (256 : Int) ^ i * b := Int.mul_nonneg (by omega) hb0
  have hs : shl .u64 (IntKind.u64.wrap b) (8 * (i : Int)) = 256 ^ i * b := by
    unfold shl
    have h : min (8 * (i : Int)).toNat IntKind.u64.bits = 8 * i := by simp [IntKind.bits]; omega
    rw [h, two_pow8, wrap_u64, wrap_u64]
    have e : b % 18446744073709551616 = b := by omega
    rw [e, Int.mul_comm]
    omega
  rw [hs, u64_or _ _ h0 (by omega) hm0 (by omega)]
  obtain ⟨xn, rfl⟩ := Int.eq_ofNat_of_zero_le h0
  obtain ⟨bn, rfl⟩ := Int.eq_ofNat_of_zero_le hb0
  have e1 : ((256 : Int) ^ i * (bn : Int)).toNat = 2 ^ (8 * i) * bn := by
    have : ((256 : Int) ^ i * (bn : Int)) = ((2 ^ (8 * i) * bn : Nat) : Int) := by
      rw [Int.natCast_mul, Int.natCast_pow]; congr 1; exact (two_pow8 i).symm
    rw [this, Int.toNat_natCast]
  have hx : xn < 2 ^ (8 * i) := by
    have : ((2 ^ (8 * i) : Nat) : Int) = 256 ^ i := by rw [Int.natCast_pow]; exact two_pow8 i
    omega
  rw [e1, Int.toNat_natCast, Nat.or_comm, ← Nat.two_pow_add_eq_or_of_lt hx bn]
  rw [Int.natCast_add, Int.natCast_mul, Int.natCast_pow]
  have := two_pow8 i
  rw [show ((2 : Nat) : Int) = 2 from rfl, this]
  omega

theorem ofle_loop (s : ByteArray) (d : Nat) : ∀ (k i : Nat) (x : Int), s.size ≤ 8 → i + d = s.size → 0 ≤ x → x < 256 ^ i → d < k →
    num_OfLe.l0 k s x (s.size : Int) (i : Int) = some (x + 256 ^ i * valLe ((bytesOf s).drop i), 0) := by
  induction d with
  | zero =>
    intro k i x h8 hi h0 h1 hk
    obtain ⟨k, rfl⟩ : ∃ m, k = m + 1 := ⟨k - 1, by omega⟩
    simp only [num_OfLe.l0]
    rw [if_neg (by omega), List.drop_of_length_le (by rw [bytesOf_length]; omega)]
    simp [valLe]
  | succ d ih =>
    intro k i x h8 hi h0 h1 hk
    obtain ⟨k, rfl⟩ : ∃ m, k = m + 1 := ⟨k - 1, by omega⟩
    simp only [num_OfLe.l0]
    have e : ((i : Int) + 1) = ((i + 1 : Nat) : Int) := by omega
    have hb := rd_range s i
    have hp : (0 : Int) < 256 ^ i := Int.pow_pos (by decide)
    have hm : (256 : Int) ^ i * bt s i ≤ 256 ^ i * 255 := Int.mul_le_mul_of_nonneg_left (by omega) (by omega)
    have hm0 : 0 ≤ (256 : Int) ^ i * bt s i := Int.mul_nonneg (by omega) hb.1
    rw [if_pos (by omega), if_pos (by omega), if_pos (by omega), wrap64_of (by omega) (by omega), if_pos (by omega), wrap64_of (by omega) (by omega), or_add x _ i (by omega) h0 h1 hb.1 hb.2, e,
      ih k (i + 1) _ h8 (by omega) (by omega) (by rw [Int.pow_succ]; omega) (by omega), rd_cons_drop _ i (by rw [bytesOf_length]; omega), rd_bytesOf]
    simp only [valLe, Int.pow_succ]
    congr 2
    rw [Int.mul_add, Int.add_assoc, Int.mul_assoc]

theorem ofle_is (s : ByteArray) (k : Nat) (h1 : 1 ≤ s.size) (h8 : s.size ≤ 8) (hk : s.size + 1 < k) : num_OfLe.f k s = some (valLe (bytesOf s), 0) := by
  obtain ⟨k, rfl⟩ : ∃ m, k = m + 1 := ⟨k - 1, by omega⟩
  unfold num_OfLe.f
  rw [if_neg (by omega)]
  simp only [num_OfLe.j0]
  rw [if_neg (by simp; omega)]
  have := ofle_loop s s.size k 0 0 h8 (by omega) (by omega) (by decide) (by omega)
  simpa using this
theorem ofle_bad (s : ByteArray) (k : Nat) (h : s.size < 1 ∨ 8 < s.size) (hk : 1 < k) : num_OfLe.f k s = some (0, 100) := by
  obtain ⟨k, rfl⟩ : ∃ m, k = m + 1 := ⟨k - 1, by omega⟩
  unfold num_OfLe.f
  rcases h with h | h
  · rw [if_pos (by omega)]; simp [num_OfLe.j0]
  · rw [if_neg (by omega)]; simp only [num_OfLe.j0]; rw [if_pos (by simp; omega)]

theorem or_shift (x b : Int) (h0 : 0 ≤ x) (h1 : x * 256 + 255 < 18446744073709551616) (hb0 : 0 ≤ b) (hb : b < 256) :
    Go.bits .or .u64 (IntKind.u64.wrap (x * 256)) (IntKind.u64.wrap b) = x * 256 + b := by
  rw [wrap_u64, wrap_u64]
  have e1 : x * 256 % 18446744073709551616 = x * 256 := by omega
  have e2 : b % 18446744073709551616 = b := by omega
  rw [e1, e2, u64_or _ _ (by omega) (by omega) (by omega) (by omega)]
  obtain ⟨xn, rfl⟩ := Int.eq_ofNat_of_zero_le h0
  obtain ⟨bn, rfl⟩ := Int.eq_ofNat_of_zero_le hb0
  have e3 : ((xn : Int) * 256).toNat = 2 ^ 8 * xn := by omega
  rw [e3, Int.toNat_natCast, ← Nat.two_pow_add_eq_or_of_lt (by omega : bn < 2 ^ 8) xn]
  omega

theorem valBe_lower (l : List Int) (h : ∀ b ∈ l, 0 ≤ b ∧ b < 256) (x : Int) (h0 : 0 ≤ x) : x * 256 ^ l.length ≤ valBe x l := by
  induction l generalizing x with
  | nil => simp [valBe]
  | cons b l ih =>
    have hb := h b (List.mem_cons_self ..)
    have := ih (fun c hc => h c (List.mem_cons_of_mem _ hc)) (x * 256 + b) (by omega)
    simp only [valBe, List.length_cons, Int.pow_succ]
    have hp : (0 : Int) < 256 ^ l.length := Int.pow_pos (by decide)
    have e : x * (256 ^ l.length * 256) = x * 256 * 256 ^ l.length := by rw [Int.mul_comm (256 ^ l.length) 256, Int.mul_assoc]
    have e2 : (x * 256 + b) * 256 ^ l.length = x * 256 * 256 ^ l.length + b * 256 ^ l.length := Int.add_mul ..
    have e3 : 0 ≤ b * 256 ^ l.length := Int.mul_nonneg hb.1 (by omega)
    omega

theorem rofbe_loop (s : ByteArray) (d : Nat) : ∀ (k i : Nat) (x : Int), s.size ≤ 8 → i + d = s.size → 0 ≤ x → x < 256 ^ i → d < k →
    holtref1_OfBe.l0 k s x (i : Int) = some (valBe x ((bytesOf s).drop i), 0) := by
  induction d with
  | zero =>
    intro k i x h8 hi h0 h1 hk
    obtain ⟨k, rfl⟩ : ∃ m, k = m + 1 := ⟨k - 1, by omega⟩
    simp only [holtref1_OfBe.l0]
    rw [if_neg (by omega), List.drop_of_length_le (by rw [bytesOf_length]; omega)]
    simp [valBe]
  | succ d ih =>
    intro k i x h8 hi h0 h1 hk
    obtain ⟨k, rfl⟩ : ∃ m, k = m + 1 := ⟨k - 1, by omega⟩
    simp only [holtref1_OfBe.l0]
    have e : ((i : Int) + 1) = ((i + 1 : Nat) : Int) := by omega
    have hb := rd_range s i
    have hq := pow256_le i (by omega)
    have e1 : IntKind.u64.wrap (IntKind.u64.wrap (x * 256) + IntKind.u64.wrap (bt s i)) = x * 256 + bt s i := by
      rw [wrap_u64, wrap_u64, wrap_u64]; omega
    rw [if_pos (by omega), if_pos (by omega), wrap64_of (by omega) (by omega), e1, e,
      ih k (i + 1) _ h8 (by omega) (by omega) (by rw [Int.pow_succ]; omega) (by omega), rd_cons_drop _ i (by rw [bytesOf_length]; omega), rd_bytesOf]
    simp only [valBe]

theorem rofbe_is (s : ByteArray) (k : Nat) (h1 : 1 ≤ s.size) (h8 : s.size ≤ 8) (hk : s.size + 1 < k) : holtref1_OfBe.f k s = some (valBe 0 (bytesOf s), 0) := by
  obtain ⟨k, rfl⟩ : ∃ m, k = m + 1 := ⟨k - 1, by omega⟩
  unfold holtref1_OfBe.f
  rw [if_neg (by omega)]
  simp only [holtref1_OfBe.j0]
  rw [if_neg (by simp; omega)]
  have := rofbe_loop s s.size k 0 0 h8 (by omega) (by omega) (by decide) (by omega)
  simpa using this
theorem rofbe_bad (s : ByteArray) (k : Nat) (h : s.size < 1 ∨ 8 < s.size) (hk : 1 < k) : holtref1_OfBe.f k s = some (0, 100) := by
  obtain ⟨k, rfl⟩ : ∃ m, k = m + 1 := ⟨k - 1, by omega⟩
  unfold holtref1_OfBe.f
  rcases h with h | h
  · rw [if_pos (by omega)]; simp [holtref1_OfBe.j0]
  · rw [if_neg (by omega)]; simp only [holtref1_OfBe.j0]; rw [if_pos (by simp; omega)]

theorem rofle_is (s : ByteArray) (k : Nat) (h1 : 1 ≤ s.size) (h8 : s.size ≤ 8) (hk : s.size + 1 < k) : holtref1_OfLe.f k s = some (valLe (bytesOf s), 0) := by
  unfold holtref1_OfLe.f
  have hz : (strOfNums (bytesOf s).reverse).size = s.size := by rw [strOfNums_size, List.length_reverse, bytesOf_length]
  rw [turned_is s (by omega) k (by omega)]
  simp only [Option.bind_some]
  rw [rofbe_is _ k (by omega) (by omega) (by omega), bytesOf_strOfNums _ (fun b hb => bytesOf_range s b (by simpa using hb)), valBe_reverse]
  rfl
theorem rofle_bad (s : ByteArray) (k : Nat) (hs : s.size ≤ 140737488351232) (h : s.size < 1 ∨ 8 < s.size) (hk : 1 < k) (hk2 : s.size < k) : holtref1_OfLe.f k s = some (0, 100) := by
  unfold holtref1_OfLe.f
  have hz : (strOfNums (bytesOf s).reverse).size = s.size := by rw [strOfNums_size, List.length_reverse, bytesOf_length]
  rw [turned_is s hs k hk2]
  simp only [Option.bind_some]
  rw [rofbe_bad _ k (by omega) hk]
  rfl

/-! ### order -/
def asBytes (l : List Int) : List UInt8 := l.map fun n => UInt8.ofNat n.toNat
theorem toList_strOfNums (l : List Int) : (strOfNums l).toList = asBytes l := by
  rw [ByteArray.toList_eq]; simp [strOfNums, asBytes]
theorem valBe_bounds (l : List Int) (h : ∀ b ∈ l, 0 ≤ b ∧ b < 256) (x : Int) : x * 256 ^ l.length ≤ valBe x l ∧ valBe x l < (x + 1) * 256 ^ l.length := by
  induction l generalizing x with
  | nil => simp [valBe]; omega
  | cons b l ih =>
    have hb := h b (List.mem_cons_self ..)
    have := ih (fun c hc => h c (List.mem_cons_of_mem _ hc)) (x * 256 + b)
    simp only [valBe, List.length_cons, Int.pow_succ]
    have hp : (0 : Int) < 256 ^ l.length := Int.pow_pos (by decide)
    generalize (256 : Int) ^ l.length = P at *
    have e1 : x * (P * 256) = x * 256 * P := by rw [Int.mul_comm P 256, Int.mul_assoc]
    have e2 : (x + 1) * (P * 256) = x * 256 * P + 256 * P := by rw [Int.mul_comm P 256, ← Int.mul_assoc, Int.add_mul, Int.add_mul]; omega
    have e3 : (x * 256 + b) * P = x * 256 * P + b * P := Int.add_mul ..
    have e4 : (x * 256 + b + 1) * P = x * 256 * P + (b + 1) * P := by rw [Int.add_assoc, Int.add_mul]
    have e5 : 0 ≤ b * P := Int.mul_nonneg hb.1 (by omega)
    have e6 : (b + 1) * P ≤ 256 * P := Int.mul_le_mul_of_nonneg_right (by omega) (by omega)
    omega
theorem bytesLess_val (l : List Int) : ∀ (m : List Int) (_ : l.length = m.length) (_ : ∀ b ∈ l, 0 ≤ b ∧ b < 256) (_ : ∀ b ∈ m, 0 ≤ b ∧ b < 256) (x : Int),
    Op.bytesLess (asBytes l) (asBytes m) = decide (valBe x l < valBe x m) := by
  induction l with
  | nil =>
    intro m hl _ _ x
    obtain rfl : m = [] := List.eq_nil_of_length_eq_zero hl.symm
    simp [asBytes, Op.bytesLess, valBe]
  | cons b l ih =>
    intro m hl h1 h2 x
    cases m with
    | nil => simp at hl
    | cons c m =>
      have hb := h1 b (List.mem_cons_self ..)
      have hc := h2 c (List.mem_cons_self ..)
      have hl' : l.length = m.length := by simpa using hl
      have l1 := valBe_bounds l (fun d hd => h1 d (List.mem_cons_of_mem _ hd)) (x * 256 + b)
      have l2 := valBe_bounds m (fun d hd => h2 d (List.mem_cons_of_mem _ hd)) (x * 256 + c)
      have i := ih m hl' (fun d hd => h1 d (List.mem_cons_of_mem _ hd)) (fun d hd => h2 d (List.mem_cons_of_mem _ hd)) (x * 256 + b)
      have hp : (0 : Int) < 256 ^ l.length := Int.pow_pos (by decide)
      rw [← hl'] at l2
      simp only [asBytes, List.map_cons, Op.bytesLess, valBe]
      change (decide (UInt8.ofNat b.toNat < UInt8.ofNat c.toNat) || (UInt8.ofNat b.toNat == UInt8.ofNat c.toNat && Op.bytesLess (asBytes l) (asBytes m))) = _
      rw [i]
      have lt : UInt8.ofNat b.toNat < UInt8.ofNat c.toNat ↔ b < c := by
        rw [UInt8.lt_iff_toNat_lt, UInt8.toNat_ofNat', UInt8.toNat_ofNat']; omega
      have eq : UInt8.ofNat b.toNat = UInt8.ofNat c.toNat ↔ b = c := by
        rw [← UInt8.toNat_inj, UInt8.toNat_ofNat', UInt8.toNat_ofNat']; omega
      generalize (256 : Int) ^ l.length = P at *
      rcases Int.lt_trichotomy b c with hbc | hbc | hbc
      · have : (x * 256 + b + 1) * P ≤ (x * 256 + c) * P := Int.mul_le_mul_of_nonneg_right (by omega) (by omega)
        rw [decide_eq_true (lt.2 hbc), Bool.true_or]
        exact (decide_eq_true (by omega)).symm
      · subst hbc
        simp only [beq_self_eq_true, Bool.true_and]
        rw [decide_eq_false (by rw [lt]; omega), Bool.false_or]
        rw [Bool.eq_iff_iff, decide_eq_true_iff]
        exact ⟨fun h => decide_eq_true h, fun h => of_decide_eq_true h⟩
      · have : (x * 256 + c + 1) * P ≤ (x * 256 + b) * P := Int.mul_le_mul_of_nonneg_right (by omega) (by omega)
        rw [decide_eq_false (by rw [lt]; omega), beq_eq_false_iff_ne.2 (fun e => by rw [eq] at e; omega)]
        simp only [Bool.false_and, Bool.or_false]
        exact (decide_eq_false (by omega)).symm

theorem be8_less (x y : Int) (h0 : 0 ≤ x) (h1 : x < 18446744073709551616) (g0 : 0 ≤ y) (g1 : y < 18446744073709551616) :
    Op.bytesLess (strOfNums (leB x 8).reverse).toList (strOfNums (leB y 8).reverse).toList = decide (x < y) := by
  rw [toList_strOfNums, toList_strOfNums, bytesLess_val _ _ (by simp [leB_length]) (fun b hb => leB_range x 8 b (by simpa using hb)) (fun b hb => leB_range y 8 b (by simpa using hb)) 0, valBe_reverse, valBe_reverse, valLe_leB, valLe_leB]
  have e : (256 : Int) ^ 8 = 18446744073709551616 := by decide
  rw [e]
  congr 1
  apply propext
  omega

theorem fits8 (x : Int) (h0 : 0 ≤ x) (h1 : x < 18446744073709551616) : x / 256 ^ 8 = 0 := by
  have e : (256 : Int) ^ 8 = 18446744073709551616 := by decide
  rw [e]; omega

end Go.Proofs.Ytikekepiimaccaa.NumL

/- KeyValues: both packages' functions come to the same: the plain laws behind the row. No conditions beyond those in the statement. -/
import Derived.Test.YtikekepiimaccaaNumLKv
import Derived.OpenShut
import Derived.Test.YtikekepiimaccaaKv2
import Derived.Test.YtikekepiimaccaaKv3
import Derived.Test.YtikekepiimaccaaKv5
import Derived.Test.YtikekepiimaccaaKv6
import Derived.Test.YtikekepiimaccaaKv7
import Derived.Test.YtikekepiimaccaaKv8
set_option linter.unusedVariables false
set_option linter.unusedSimpArgs false
namespace Go.Proofs.Ytikekepiimaccaa.KeyV
open Go.RowKit Go.Proofs.Ytikekepiimaccaa.Kv Go.Proofs.YtikekepiimaccaaW.PrintWords Go.Proofs.YtikekepiimaccaaW.PrintLast Go.Proofs.YtikekepiimaccaaW.PrintMore Go.Proofs.Ytikekepiimaccaa.NumL

theorem str_append (l m : List Int) : strOfNums l ++ strOfNums m = strOfNums (l ++ m) := by
  unfold strOfNums
  apply ByteArray.ext
  simp
theorem ext_ext (s : ByteArray) (i j a b : Nat) (h : i + b ≤ j) : (s.extract i j).extract a b = s.extract (i + a) (i + b) := by
  apply ByteArray.ext
  apply Array.ext'
  simp only [ByteArray.data_extract, Array.toList_extract, List.extract_eq_take_drop]
  rw [List.drop_take, List.drop_drop, List.take_take]
  congr 1
  omega
theorem ext_size (s : ByteArray) (i j : Nat) (h : j ≤ s.size) : (s.extract i j).size = j - i := by
  rw [ByteArray.size_extract]; omega
theorem p1 : (256 : Int) ^ 1 = 256 := by decide
theorem p4 : (256 : Int) ^ 4 = 4294967296 := by decide
theorem p8 : (256 : Int) ^ 8 = 18446744073709551616 := by decide
def U (x : Int) : Prop := 0 ≤ x ∧ x < 18446744073709551616
theorem le8 (x : Int) (k : Nat) (hk : 10 < k) (h : U x) : key_le.f k x 8 = some (strOfNums (leB x 8)) := by
  have e := le_is x 8 k h.1 h.2 (by omega) (by omega) (by omega)
  rw [if_pos (by rw [p8]; have := h.1; have := h.2; omega), show ((8 : Nat) : Int) = 8 from rfl] at e
  unfold key_le.f; rw [e]; rfl
theorem le4 (x : Int) (k : Nat) (hk : 10 < k) (h0 : 0 ≤ x) (h1 : x < 4294967296) : key_le.f k (IntKind.u64.wrap x) 4 = some (strOfNums (leB x 4)) := by
  have e := le_is x 4 k h0 (by omega) (by omega) (by omega) (by omega)
  rw [if_pos (by rw [p4]; omega), show ((4 : Nat) : Int) = 4 from rfl] at e
  rw [wrap_u64, show x % 18446744073709551616 = x by omega]
  unfold key_le.f; rw [e]; rfl
theorem le1 (x : Int) (k : Nat) (hk : 10 < k) (h0 : 0 ≤ x) (h1 : x < 256) : key_le.f k (IntKind.u64.wrap x) 1 = some (strOfNums (leB x 1)) := by
  have e := le_is x 1 k h0 (by omega) (by omega) (by omega) (by omega)
  rw [if_pos (by rw [p1]; omega), show ((1 : Nat) : Int) = 1 from rfl] at e
  rw [wrap_u64, show x % 18446744073709551616 = x by omega]
  unfold key_le.f; rw [e]; rfl
theorem rl8 (x : Int) (k : Nat) (hk : 10 < k) (h : U x) : holtref1_L8.f k x = some (strOfNums (leB x 8)) := by
  have e := rle_is x 8 k h.1 h.2 (by omega) (by omega) (by omega)
  rw [if_pos (by rw [p8]; have := h.1; have := h.2; omega), show ((8 : Nat) : Int) = 8 from rfl] at e
  unfold holtref1_L8.f; rw [e]; rfl
theorem rl4 (x : Int) (k : Nat) (hk : 10 < k) (h0 : 0 ≤ x) (h1 : x < 4294967296) : holtref1_L4.f k x = some (strOfNums (leB x 4)) := by
  have e := rle_is x 4 k h0 (by omega) (by omega) (by omega) (by omega)
  rw [if_pos (by rw [p4]; omega), show ((4 : Nat) : Int) = 4 from rfl] at e
  unfold holtref1_L4.f
  rw [wrap_u64, show x % 18446744073709551616 = x by omega]
  rw [e]; rfl
/-! ### Pack -/
def enc (xs : List Int) : List Int := xs.flatMap fun x => leB x 8
theorem enc_cons (x : Int) (xs : List Int) : enc (x :: xs) = leB x 8 ++ enc xs := rfl
theorem rd_mem (xs : List Int) (i : Nat) (h : i < xs.length) : rd xs (i : Int) ∈ xs := by
  unfold rd
  rw [Int.toNat_natCast, List.getD_eq_getElem?_getD, List.getElem?_eq_getElem h]
  exact List.getElem_mem _
theorem pack_loop (tail : ByteArray) (ht : tail.size ≤ 140737488351232) (xs : List Int) (hx : ∀ x ∈ xs, U x) (hl : xs.length ≤ 10) (d : Nat) : ∀ (k i : Nat) (acc : List Int), i + d = xs.length → acc.length = 8 * i → d + 12 < k →
    key_Pack.l0 k tail (strOfNums acc) xs (xs.length : Int) (i : Int) = some (strOfNums (acc ++ enc (xs.drop i)) ++ tail, 0) := by
  induction d with
  | zero =>
    intro k i acc hi ha hk
    obtain ⟨k, rfl⟩ : ∃ m, k = m + 1 := ⟨k - 1, by omega⟩
    simp only [key_Pack.l0]
    rw [if_neg (by omega), List.drop_of_length_le (by omega), strOfNums_size, if_pos (by omega)]
    simp [enc]
  | succ d ih =>
    intro k i acc hi ha hk
    obtain ⟨k, rfl⟩ : ∃ m, k = m + 1 := ⟨k - 1, by omega⟩
    simp only [key_Pack.l0]
    rw [if_pos (by omega), if_pos (by omega), if_pos (by omega), le8 _ k (by omega) (hx _ (rd_mem xs i (by omega)))]
    simp only [Option.bind_some]
    rw [strOfNums_size, strOfNums_size, leB_length, if_pos (by omega), str_append, wrap64_of (by omega) (by omega)]
    have e : ((i : Int) + 1) = ((i + 1 : Nat) : Int) := by omega
    rw [e, ih k (i + 1) _ (by omega) (by rw [List.length_append, leB_length]; omega) (by omega), rd_cons_drop xs i (by omega), enc_cons, List.append_assoc]
theorem rpack_loop (tail : ByteArray) (ht : tail.size ≤ 140737488351232) (xs : List Int) (hx : ∀ x ∈ xs, U x) (hl : xs.length ≤ 10) (d : Nat) : ∀ (k i : Nat) (acc : List Int), i + d = xs.length → acc.length = 8 * i → d + 12 < k →
    holtref12_Pack.l0 k xs tail (strOfNums acc) (i : Int) = some (strOfNums (acc ++ enc (xs.drop i)) ++ tail, 0) := by
  induction d with
  | zero =>
    intro k i acc hi ha hk
    obtain ⟨k, rfl⟩ : ∃ m, k = m + 1 := ⟨k - 1, by omega⟩
    simp only [holtref12_Pack.l0]
    rw [if_neg (by omega), List.drop_of_length_le (by omega), strOfNums_size, if_pos (by omega)]
    simp [enc]
  | succ d ih =>
    intro k i acc hi ha hk
    obtain ⟨k, rfl⟩ : ∃ m, k = m + 1 := ⟨k - 1, by omega⟩
    simp only [holtref12_Pack.l0]
    rw [if_pos (by omega), if_pos (by omega), rl8 _ k (by omega) (hx _ (rd_mem xs i (by omega)))]
    simp only [Option.bind_some]
    rw [strOfNums_size, strOfNums_size, leB_length, if_pos (by omega), str_append, wrap64_of (by omega) (by omega)]
    have e : ((i : Int) + 1) = ((i + 1 : Nat) : Int) := by omega
    rw [e, ih k (i + 1) _ (by omega) (by rw [List.length_append, leB_length]; omega) (by omega), rd_cons_drop xs i (by omega), enc_cons, List.append_assoc]
theorem packs (k : Nat) (hk : 30 < k) (xs : List Int) (hl : xs.length ≤ 1152921504606846975) (tail : ByteArray) (ht : tail.size ≤ 140737488351232) (hx : ∀ x ∈ xs, U x) : ∃ p, key_Pack.f k xs tail = some p ∧ holtref12_Pack.f k xs tail = some p := by
  obtain ⟨k, rfl⟩ : ∃ m, k = m + 1 := ⟨k - 1, by omega⟩
  have e1 : wrap64 (wrap64 (8 * (xs.length : Int)) + (tail.size : Int)) = 8 * (xs.length : Int) + (tail.size : Int) ∨ 80 < xs.length := by
    by_cases h : 80 < xs.length
    · exact .inr h
    · exact .inl (by rw [wrap64_of (x := 8 * (xs.length : Int)) (by omega) (by omega), wrap64_of (by omega) (by omega)])
  by_cases hbad : 10 < xs.length ∨ 80 < 8 * xs.length + tail.size
  · refine ⟨(⟨#[]⟩, 1200), ?_, ?_⟩
    · unfold key_Pack.f
      by_cases h1 : 10 < xs.length
      · rw [if_pos (by omega)]; simp [key_Pack.j0]
      · rw [if_neg (by omega), e1.resolve_right (by omega)]
        simp only [key_Pack.j0]
        rw [if_pos (by simp; omega)]
    · unfold holtref12_Pack.f
      by_cases h1 : 80 < xs.length
      · rw [if_pos (by omega)]; simp [holtref12_Pack.j0]
      · rw [if_neg (by omega), e1.resolve_right (by omega)]
        simp only [holtref12_Pack.j0]
        rw [if_pos (by simp; omega)]
  · refine ⟨(strOfNums (enc xs) ++ tail, 0), ?_, ?_⟩
    · unfold key_Pack.f
      rw [if_neg (by omega), e1.resolve_right (by omega)]
      simp only [key_Pack.j0]
      rw [if_neg (by simp; omega)]
      have := pack_loop tail ht xs hx (by omega) xs.length k 0 [] (by omega) rfl (by omega)
      simpa [strOfNums] using this
    · unfold holtref12_Pack.f
      rw [if_neg (by omega), e1.resolve_right (by omega)]
      simp only [holtref12_Pack.j0]
      rw [if_neg (by simp; omega)]
      have := rpack_loop tail ht xs hx (by omega) xs.length k 0 [] (by omega) rfl (by omega)
      simpa [strOfNums] using this
/-! ### Unpack -/
def uw (s : ByteArray) (n : Nat) : List Int := (List.range n).map fun i => valLe (bytesOf (s.extract (8 * i) (8 * i + 8)))
theorem uw_succ (s : ByteArray) (n : Nat) : uw s (n + 1) = uw s n ++ [valLe (bytesOf (s.extract (8 * n) (8 * n + 8)))] := by simp [uw, List.range_succ]
theorem uw_length (s : ByteArray) (n : Nat) : (uw s n).length = n := by simp [uw]
theorem unpack_loop (s : ByteArray) (hs : s.size ≤ 140737488351232) (n : Nat) (hn : 8 * n ≤ s.size) (d : Nat) : ∀ (k i : Nat), i + d = n → d + 12 < k →
    key_Unpack.l0 k (s.extract (8 * i) s.size) (uw s i) (n : Int) (i : Int) = some (uw s n, s.extract (8 * n) s.size, 0) := by
  induction d with
  | zero =>
    intro k i hi hk
    obtain rfl : i = n := by omega
    obtain ⟨k, rfl⟩ : ∃ m, k = m + 1 := ⟨k - 1, by omega⟩
    simp only [key_Unpack.l0]
    rw [if_neg (by omega)]
  | succ d ih =>
    intro k i hi hk
    obtain ⟨k, rfl⟩ : ∃ m, k = m + 1 := ⟨k - 1, by omega⟩
    simp only [key_Unpack.l0]
    have z := ext_size s (8 * i) s.size (Nat.le_refl _)
    have e1 := ext_ext s (8 * i) s.size 0 8 (by omega)
    have e2 := ext_ext s (8 * i) s.size 8 (s.size - 8 * i) (by omega)
    rw [Nat.add_zero] at e1
    rw [show 8 * i + (s.size - 8 * i) = s.size by omega] at e2
    have hz := ext_size s (8 * i) (8 * i + 8) (by omega)
    rw [if_pos (by omega), if_pos (by decide), z, if_pos (by omega), e1, e2, ofle_is _ k (by omega) (by omega) (by omega)]
    simp only [Option.bind_some]
    rw [uw_length, if_pos (by omega), wrap64_of (by omega) (by omega), ← uw_succ]
    have e : ((i : Int) + 1) = ((i + 1 : Nat) : Int) := by omega
    rw [e, show 8 * i + 8 = 8 * (i + 1) by omega]
    exact ih k (i + 1) (by omega) (by omega)
theorem runpack_loop (s : ByteArray) (hs : s.size ≤ 140737488351232) (n : Nat) (hn : 8 * n ≤ s.size) (d : Nat) : ∀ (k i : Nat), i + d = n → d + 12 < k →
    holtref12_Unpack.l0 k s (n : Int) (uw s i) (i : Int) = some (uw s n, s.extract (8 * n) s.size, 0) := by
  induction d with
  | zero =>
    intro k i hi hk
    obtain rfl : i = n := by omega
    obtain ⟨k, rfl⟩ : ∃ m, k = m + 1 := ⟨k - 1, by omega⟩
    simp only [holtref12_Unpack.l0]
    rw [if_neg (by omega), wrap64_of (by omega) (by omega), if_pos (by omega), if_pos (by omega)]
    congr 3
  | succ d ih =>
    intro k i hi hk
    obtain ⟨k, rfl⟩ : ∃ m, k = m + 1 := ⟨k - 1, by omega⟩
    simp only [holtref12_Unpack.l0]
    have hz := ext_size s (8 * i) (8 * i + 8) (by omega)
    have t1 : (8 * (i : Int)).toNat = 8 * i := by omega
    have t2 : (8 * (i : Int) + 8).toNat = 8 * i + 8 := by omega
    rw [if_pos (by omega), wrap64_of (x := 8 * (i : Int)) (by omega) (by omega), wrap64_of (x := 8 * (i : Int) + 8) (by omega) (by omega), if_pos (by omega), if_pos (by omega), if_pos (by omega), t1, t2, rofle_is _ k (by omega) (by omega) (by omega)]
    simp only [Option.bind_some]
    rw [uw_length, if_pos (by omega), wrap64_of (by omega) (by omega), ← uw_succ]
    have e : ((i : Int) + 1) = ((i + 1 : Nat) : Int) := by omega
    rw [e]
    exact ih k (i + 1) (by omega) (by omega)
theorem key_unpack_is (k : Nat) (s : ByteArray) (hs : s.size ≤ 140737488351232) (hk : s.size + 30 < k) (n : Nat) (hn : 8 * n ≤ s.size) : key_Unpack.f k s (n : Int) = some (uw s n, s.extract (8 * n) s.size, 0) := by
  obtain ⟨k, rfl⟩ : ∃ m, k = m + 1 := ⟨k - 1, by omega⟩
  unfold key_Unpack.f
  rw [if_neg (by omega), wrap64_of (by omega) (by omega)]
  simp only [key_Unpack.j0]
  rw [if_neg (by rw [decide_eq_true_eq]; omega)]
  have := unpack_loop s hs n hn n k 0 (by omega) (by omega)
  rw [Nat.mul_zero, show s.extract 0 s.size = s from ByteArray.extract_zero_size] at this
  exact this
theorem unpacks (k : Nat) (s : ByteArray) (hs : s.size ≤ 140737488351232) (hk : s.size + 30 < k) (n : Int) (h0 : -9223372036854775808 ≤ n) (h1 : n ≤ 9223372036854775807) : ∃ p, key_Unpack.f k s n = some p ∧ holtref12_Unpack.f k s n = some p ∧ p.1.length ≤ s.size := by
  by_cases hg : 0 ≤ n ∧ 8 * n ≤ s.size
  · obtain ⟨m, rfl⟩ := Int.eq_ofNat_of_zero_le hg.1
    refine ⟨_, key_unpack_is k s hs hk m (by omega), ?_, by rw [uw_length]; omega⟩
    obtain ⟨k, rfl⟩ : ∃ m, k = m + 1 := ⟨k - 1, by omega⟩
    unfold holtref12_Unpack.f
    rw [if_neg (by omega), if_neg (by omega), wrap64_of (by omega) (by omega)]
    simp only [holtref12_Unpack.j0]
    rw [if_neg (by rw [decide_eq_true_eq]; omega)]
    exact runpack_loop s hs m (by omega) m k 0 (by omega) (by omega)
  · obtain ⟨k, rfl⟩ : ∃ m, k = m + 1 := ⟨k - 1, by omega⟩
    refine ⟨([], ⟨#[]⟩, 1200), ?_, ?_, Nat.zero_le _⟩
    · unfold key_Unpack.f
      by_cases hn : n < 0
      · rw [if_pos hn]; simp [key_Unpack.j0]
      · rw [if_neg hn, wrap64_of (by omega) (by omega)]
        simp only [key_Unpack.j0]
        rw [if_pos (by rw [decide_eq_true_eq]; omega)]
    · unfold holtref12_Unpack.f
      by_cases hn : n < 0
      · rw [if_pos hn]; simp [holtref12_Unpack.j0]
      · rw [if_neg hn]
        by_cases hb : n > (s.size : Int)
        · rw [if_pos hb]; simp [holtref12_Unpack.j0]
        · rw [if_neg hb, wrap64_of (by omega) (by omega)]
          simp only [holtref12_Unpack.j0]
          rw [if_pos (by rw [decide_eq_true_eq]; omega)]
/-! ### OfInode -/
theorem ofs (k : Nat) (hk : 12 < k) (a b c d e f g : Int) (ha : -9223372036854775808 ≤ a ∧ a ≤ 9223372036854775807) (hb : 0 ≤ b ∧ b < 4294967296) (hc : U c) (hd : U d) (he : U e) (hf : U f) (hg : U g) :
    ∃ p, key_OfInode.f k a b c d e f g = some p ∧ holtref12_OfInode.f k a b c d e f g = some p := by
  obtain ⟨k, rfl⟩ : ∃ m, k = m + 1 := ⟨k - 1, by omega⟩
  by_cases h : a = 1 ∨ a = 2 ∨ a = 3
  · have hks : key_kinds.f a = some true := by rcases h with rfl | rfl | rfl <;> rfl
    refine ⟨(strOfNums (leB a 1 ++ (leB b 4 ++ enc [c, d, e, f, g])), 0), ?_, ?_⟩
    · unfold key_OfInode.f
      rw [hks, Option.bind_some, if_pos rfl]
      have hk' : 10 < k + 1 := by omega
      rw [le1 a _ hk' (by omega) (by omega), le4 b _ hk' hb.1 hb.2, le8 c _ hk' hc, le8 d _ hk' hd, le8 e _ hk' he, le8 f _ hk' hf, le8 g _ hk' hg]
      simp only [Option.bind_some, str_append, strOfNums_size, List.length_append, leB_length]
      rw [if_pos (by decide), if_pos (by decide), if_pos (by decide), if_pos (by decide), if_pos (by decide), if_pos (by decide)]
      simp [enc]
    · unfold holtref12_OfInode.f
      have hk' : 10 < k := by omega
      rw [if_neg (by omega)]
      simp only [holtref12_OfInode.j0]
      rw [if_neg (by rw [decide_eq_true_eq]; omega)]
      rw [rl4 b _ hk' hb.1 hb.2, rl8 c _ hk' hc, rl8 d _ hk' hd, rl8 e _ hk' he, rl8 f _ hk' hf, rl8 g _ hk' hg]
      simp only [Option.bind_some, str_append, strOfNums_size, List.length_append, leB_length, List.length_singleton]
      rw [if_pos (by decide), if_pos (by decide), if_pos (by decide), if_pos (by decide), if_pos (by decide), if_pos (by decide)]
      simp [enc, leB]
  · have hks : key_kinds.f a = some false := by
      unfold key_kinds.f
      rw [if_neg (by omega), if_neg (by omega)]
      congr 1
      exact beq_eq_false_iff_ne.2 (by omega)
    refine ⟨(⟨#[]⟩, 1200), ?_, ?_⟩
    · unfold key_OfInode.f
      rw [hks, Option.bind_some, if_neg Bool.false_ne_true]
    · unfold holtref12_OfInode.f
      by_cases h1 : a < 1
      · rw [if_pos h1]; simp [holtref12_OfInode.j0]
      · rw [if_neg h1]
        simp only [holtref12_OfInode.j0]
        rw [if_pos (by rw [decide_eq_true_eq]; omega)]
/-! ### ToInode -/
def iw (s : ByteArray) (n : Nat) : List Int := (List.range n).map fun i => valLe (bytesOf (s.extract (5 + 8 * i) (5 + 8 * i + 8)))
theorem iw_succ (s : ByteArray) (n : Nat) : iw s (n + 1) = iw s n ++ [valLe (bytesOf (s.extract (5 + 8 * n) (5 + 8 * n + 8)))] := by simp [iw, List.range_succ]
theorem iw_length (s : ByteArray) (n : Nat) : (iw s n).length = n := by simp [iw]
theorem rto_loop (s : ByteArray) (hs : s.size = 45) (x : Int) (d : Nat) : ∀ (k i : Nat), i + d = 5 → d + 12 < k →
    holtref12_ToInode.l0 k s x (iw s i) (5 + 8 * (i : Int)) = some (wrap64 (bt s 0), x % 4294967296, rd (iw s 5) 0, rd (iw s 5) 1, rd (iw s 5) 2, rd (iw s 5) 3, rd (iw s 5) 4, 0) := by
  induction d with
  | zero =>
    intro k i hi hk
    obtain rfl : i = 5 := by omega
    obtain ⟨k, rfl⟩ : ∃ m, k = m + 1 := ⟨k - 1, by omega⟩
    simp only [holtref12_ToInode.l0]
    rw [if_neg (by omega), hs, iw_length, if_pos (by decide), if_pos (by decide), if_pos (by decide), if_pos (by decide), if_pos (by decide), if_pos (by decide)]
  | succ d ih =>
    intro k i hi hk
    obtain ⟨k, rfl⟩ : ∃ m, k = m + 1 := ⟨k - 1, by omega⟩
    simp only [holtref12_ToInode.l0]
    have hz := ext_size s (5 + 8 * i) (5 + 8 * i + 8) (by omega)
    have t1 : (5 + 8 * (i : Int)).toNat = 5 + 8 * i := by omega
    have t2 : (5 + 8 * (i : Int) + 8).toNat = 5 + 8 * i + 8 := by omega
    rw [if_pos (by omega), if_pos (by omega), wrap64_of (x := 5 + 8 * (i : Int) + 8) (by omega) (by omega), if_pos (by omega), if_pos (by omega), t1, t2, rofle_is _ k (by omega) (by omega) (by omega)]
    simp only [Option.bind_some]
    rw [iw_length, if_pos (by omega), ← iw_succ]
    have e : (5 + 8 * (i : Int) + 8) = 5 + 8 * ((i + 1 : Nat) : Int) := by omega
    rw [e]
    exact ih k (i + 1) (by omega) (by omega)
theorem uw_iw (s : ByteArray) (hs : s.size = 45) : uw (s.extract 5 45) 5 = iw s 5 := by
  unfold uw iw
  apply List.map_congr_left
  intro i hi
  rw [List.mem_range] at hi
  rw [ext_ext s 5 45 _ _ (by omega), Nat.add_assoc]
theorem tos (k : Nat) (hk : 100 < k) (s : ByteArray) : ∃ p, key_ToInode.f k s = some p ∧ holtref12_ToInode.f k s = some p := by
  obtain ⟨k, rfl⟩ : ∃ m, k = m + 1 := ⟨k - 1, by omega⟩
  by_cases hs : s.size = 45
  · have hb := rd_range s 0
    have hw : wrap64 (bt s 0) = bt s 0 := wrap64_of (by omega) (by omega)
    by_cases h : bt s 0 = 1 ∨ bt s 0 = 2 ∨ bt s 0 = 3
    · have hks : key_kinds.f (bt s 0) = some true := by rcases h with h | h | h <;> rw [h] <;> rfl
      have z5 := ext_size s 1 5 (by omega)
      have zu := ext_size s 5 45 (by omega)
      have un := key_unpack_is k (s.extract 5 45) (by omega) (by omega) 5 (by omega)
      rw [uw_iw s hs, show ((5 : Nat) : Int) = 5 from rfl] at un
      refine ⟨(wrap64 (bt s 0), valLe (bytesOf (s.extract 1 5)) % 4294967296, rd (iw s 5) 0, rd (iw s 5) 1, rd (iw s 5) 2, rd (iw s 5) 3, rd (iw s 5) 4, 0), ?_, ?_⟩
      · unfold key_ToInode.f
        rw [hs, if_pos (by decide), if_pos (by decide), hw, hks, Option.bind_some]
        simp only [key_ToInode.j0]
        rw [if_neg (by decide), if_pos (by decide), hs, if_pos (by decide), ofle_is _ k (by omega) (by omega) (by omega), Option.bind_some, un, Option.bind_some]
        rw [iw_length, if_pos (by decide), if_pos (by decide), if_pos (by decide), if_pos (by decide), if_pos (by decide), if_pos (by decide), hw]
      · unfold holtref12_ToInode.f
        rw [hs, if_pos (by decide), if_pos (by decide), hw, if_neg (by omega)]
        simp only [holtref12_ToInode.j0]
        rw [if_neg (by rw [decide_eq_true_eq]; omega), if_pos (by decide), hs, if_pos (by decide), rofle_is _ k (by omega) (by omega) (by omega), Option.bind_some]
        have := rto_loop s hs (valLe (bytesOf (s.extract 1 5))) 5 k 0 (by omega) (by omega)
        rw [hw] at this
        exact this
    · have hks : key_kinds.f (bt s 0) = some false := by
        unfold key_kinds.f
        rw [if_neg (by omega), if_neg (by omega)]
        congr 1
        exact beq_eq_false_iff_ne.2 (by omega)
      refine ⟨(0, 0, 0, 0, 0, 0, 0, 1200), ?_, ?_⟩
      · unfold key_ToInode.f
        rw [hs, if_pos (by decide), if_pos (by decide), hw, hks, Option.bind_some]
        simp only [key_ToInode.j0]
        rw [if_pos (by decide)]
      · unfold holtref12_ToInode.f
        rw [hs, if_pos (by decide), if_pos (by decide), hw]
        by_cases h1 : bt s 0 < 1
        · rw [if_pos h1]; simp only [holtref12_ToInode.j0]; rw [if_pos trivial]
        · rw [if_neg h1]; simp only [holtref12_ToInode.j0]; rw [if_pos (by rw [decide_eq_true_eq]; omega)]
  · refine ⟨(0, 0, 0, 0, 0, 0, 0, 1200), ?_, ?_⟩
    · unfold key_ToInode.f
      rw [if_neg (by omega)]; simp only [key_ToInode.j0]; rw [if_pos trivial]
    · unfold holtref12_ToInode.f
      rw [if_neg (by omega)]; simp only [holtref12_ToInode.j0]; rw [if_pos trivial]
/-! ### lists -/
theorem same_loop (xs : List Int) (hl : xs.length ≤ 140737488351232) (d : Nat) : ∀ (k i : Nat), i + d = xs.length → d < k → holtlaw0_SameNums.l0 k xs xs (i : Int) = some true := by
  induction d with
  | zero =>
    intro k i hi hk
    obtain ⟨k, rfl⟩ : ∃ m, k = m + 1 := ⟨k - 1, by omega⟩
    simp only [holtlaw0_SameNums.l0]
    rw [if_neg (by omega)]
  | succ d ih =>
    intro k i hi hk
    obtain ⟨k, rfl⟩ : ∃ m, k = m + 1 := ⟨k - 1, by omega⟩
    simp only [holtlaw0_SameNums.l0]
    rw [if_pos (by omega), if_pos (by omega), if_pos (by omega), if_pos trivial, wrap64_of (by omega) (by omega)]
    exact ih k (i + 1) (by omega) (by omega)
theorem same_is (k : Nat) (xs : List Int) (hl : xs.length ≤ 140737488351232) (hk : xs.length < k) : holtlaw0_SameNums.f k xs xs = some true := by
  unfold holtlaw0_SameNums.f
  rw [if_pos rfl]
  exact same_loop xs hl xs.length k 0 (by omega) (by omega)
theorem spoil_loop (n : Nat) (hn : n ≤ 140737488351232) (d : Nat) : ∀ (k i : Nat) (xs : List Int), xs.length = n → i + d = n → d < k → ∃ r, holtlaw0_SpoilNums.l0 k xs (i : Int) = some r := by
  induction d with
  | zero =>
    intro k i xs hl hi hk
    obtain ⟨k, rfl⟩ : ∃ m, k = m + 1 := ⟨k - 1, by omega⟩
    simp only [holtlaw0_SpoilNums.l0]
    rw [if_neg (by omega)]
    exact ⟨_, rfl⟩
  | succ d ih =>
    intro k i xs hl hi hk
    obtain ⟨k, rfl⟩ : ∃ m, k = m + 1 := ⟨k - 1, by omega⟩
    simp only [holtlaw0_SpoilNums.l0]
    rw [if_pos (by omega), if_pos (by omega), wrap64_of (by omega) (by omega)]
    exact ih k (i + 1) _ (by simpa using hl) (by omega) (by omega)
theorem spoil_is (k : Nat) (xs : List Int) (hl : xs.length ≤ 140737488351232) (hk : xs.length < k) : ∃ r, holtlaw0_SpoilNums.f k xs = some r :=
  spoil_loop xs.length hl xs.length k 0 xs rfl (by omega) hk
theorem copy_is (xs : List Int) (hl : xs.length < 17592186044416) : holtlaw0_CopyNums.f xs = some xs := by
  unfold holtlaw0_CopyNums.f
  rw [Option.bind_some, if_pos (by simpa using hl), List.nil_append]
theorem awake_is (k : Nat) (hk : 30 ≤ k) : holtlaw12_awake.f k = some true :=
  at_rounds (g := fun k => holtlaw12_awake.f k) (fun k => holtlaw12_awake.mono k) hk (by decide +kernel)
end Go.Proofs.Ytikekepiimaccaa.KeyV

/- KeyBack: there and back is the same: the plain law behind the row. No conditions beyond those in the statement. -/
import Derived.Test.YtikekepiimaccaaNumLKb
import Derived.OpenShut
import Derived.Test.YtikekepiimaccaaKb3
import Derived.Test.YtikekepiimaccaaKb4
import Derived.Test.YtikekepiimaccaaKb5
import Derived.Test.YtikekepiimaccaaKb6
set_option linter.unusedVariables false
set_option linter.unusedSimpArgs false
namespace Go.Proofs.Ytikekepiimaccaa.KeyB
open Go.RowKit Go.Proofs.Ytikekepiimaccaa.Kb Go.Proofs.YtikekepiimaccaaW.PrintWords Go.Proofs.YtikekepiimaccaaW.PrintLast Go.Proofs.YtikekepiimaccaaW.PrintMore Go.Proofs.Ytikekepiimaccaa.NumL

theorem str_append (l m : List Int) : strOfNums l ++ strOfNums m = strOfNums (l ++ m) := by
  unfold strOfNums
  apply ByteArray.ext
  simp
theorem str_extract (l : List Int) (i j : Nat) : (strOfNums l).extract i j = strOfNums ((l.drop i).take (j - i)) := by
  unfold strOfNums
  apply ByteArray.ext
  apply Array.ext'
  simp [List.extract_eq_take_drop, List.map_take, List.map_drop]
theorem p1 : (256 : Int) ^ 1 = 256 := by decide
theorem p4 : (256 : Int) ^ 4 = 4294967296 := by decide
theorem p8 : (256 : Int) ^ 8 = 18446744073709551616 := by decide
def U (x : Int) : Prop := 0 ≤ x ∧ x < 18446744073709551616
theorem le8 (x : Int) (k : Nat) (hk : 10 < k) (h : U x) : key_le.f k x 8 = some (strOfNums (leB x 8)) := by
  have e := le_is x 8 k h.1 h.2 (by omega) (by omega) (by omega)
  rw [if_pos (by rw [p8]; have := h.1; have := h.2; omega), show ((8 : Nat) : Int) = 8 from rfl] at e
  unfold key_le.f; rw [e]; rfl
theorem le4 (x : Int) (k : Nat) (hk : 10 < k) (h0 : 0 ≤ x) (h1 : x < 4294967296) : key_le.f k (IntKind.u64.wrap x) 4 = some (strOfNums (leB x 4)) := by
  have e := le_is x 4 k h0 (by omega) (by omega) (by omega) (by omega)
  rw [if_pos (by rw [p4]; omega), show ((4 : Nat) : Int) = 4 from rfl] at e
  rw [wrap_u64, show x % 18446744073709551616 = x by omega]
  unfold key_le.f; rw [e]; rfl
theorem le1 (x : Int) (k : Nat) (hk : 10 < k) (h0 : 0 ≤ x) (h1 : x < 256) : key_le.f k (IntKind.u64.wrap x) 1 = some (strOfNums (leB x 1)) := by
  have e := le_is x 1 k h0 (by omega) (by omega) (by omega) (by omega)
  rw [if_pos (by rw [p1]; omega), show ((1 : Nat) : Int) = 1 from rfl] at e
  rw [wrap_u64, show x % 18446744073709551616 = x by omega]
  unfold key_le.f; rw [e]; rfl
/-- numbers of eight bytes each -/
def enc (xs : List Int) : List Int := xs.flatMap fun x => leB x 8
theorem enc_cons (x : Int) (xs : List Int) : enc (x :: xs) = leB x 8 ++ enc xs := rfl
theorem enc_length (xs : List Int) : (enc xs).length = 8 * xs.length := by
  induction xs with
  | nil => rfl
  | cons x xs ih => rw [enc_cons, List.length_append, leB_length, ih, List.length_cons]; omega
theorem pack_loop (tail : ByteArray) (ht : tail.size ≤ 140737488351232) (xs : List Int) (hx : ∀ x ∈ xs, U x) (hl : xs.length ≤ 10) (d : Nat) : ∀ (k i : Nat) (acc : List Int), i + d = xs.length → acc.length = 8 * i → d + 12 < k →
    key_Pack.l0 k tail (strOfNums acc) xs (xs.length : Int) (i : Int) = some (strOfNums (acc ++ enc (xs.drop i)) ++ tail, 0) := by
  induction d with
  | zero =>
    intro k i acc hi ha hk
    obtain ⟨k, rfl⟩ : ∃ m, k = m + 1 := ⟨k - 1, by omega⟩
    simp only [key_Pack.l0]
    rw [if_neg (by omega), List.drop_of_length_le (by omega), strOfNums_size, if_pos (by omega)]
    simp [enc]
  | succ d ih =>
    intro k i acc hi ha hk
    obtain ⟨k, rfl⟩ : ∃ m, k = m + 1 := ⟨k - 1, by omega⟩
    simp only [key_Pack.l0]
    have hm : rd xs (i : Int) ∈ xs := by
      unfold rd
      rw [Int.toNat_natCast, List.getD_eq_getElem?_getD, List.getElem?_eq_getElem (by omega)]
      exact List.getElem_mem _
    rw [if_pos (by omega), if_pos (by omega), if_pos (by omega), le8 _ k (by omega) (hx _ hm)]
    simp only [Option.bind_some]
    rw [strOfNums_size, strOfNums_size, leB_length, if_pos (by omega), str_append, wrap64_of (by omega) (by omega)]
    have e : ((i : Int) + 1) = ((i + 1 : Nat) : Int) := by omega
    rw [e, ih k (i + 1) _ (by omega) (by rw [List.length_append, leB_length]; omega) (by omega), rd_cons_drop xs i (by omega), enc_cons, List.append_assoc]
theorem pack_is (k : Nat) (hk : 30 < k) (xs : List Int) (tail : ByteArray) (ht : tail.size ≤ 140737488351232) (hx : ∀ x ∈ xs, U x) (hl : xs.length ≤ 10) (h8 : 8 * xs.length + tail.size ≤ 80) : key_Pack.f k xs tail = some (strOfNums (enc xs) ++ tail, 0) := by
  obtain ⟨k, rfl⟩ : ∃ m, k = m + 1 := ⟨k - 1, by omega⟩
  unfold key_Pack.f
  rw [if_neg (by omega), wrap64_of (x := 8 * (xs.length : Int)) (by omega) (by omega), wrap64_of (by omega) (by omega)]
  simp only [key_Pack.j0]
  rw [if_neg (by simp; omega)]
  have := pack_loop tail ht xs hx hl xs.length k 0 [] (by omega) rfl (by omega)
  simpa [strOfNums] using this
theorem pack_bad (k : Nat) (hk : 1 < k) (xs : List Int) (hx : xs.length ≤ 1152921504606846975) (tail : ByteArray) (ht : tail.size ≤ 140737488351232) (h : 10 < xs.length ∨ 80 < 8 * xs.length + tail.size) : key_Pack.f k xs tail = some (⟨#[]⟩, 1200) := by
  obtain ⟨k, rfl⟩ : ∃ m, k = m + 1 := ⟨k - 1, by omega⟩
  unfold key_Pack.f
  by_cases h1 : 10 < xs.length
  · rw [if_pos (by omega)]; simp [key_Pack.j0]
  · rw [if_neg (by omega), wrap64_of (x := 8 * (xs.length : Int)) (by omega) (by omega), wrap64_of (by omega) (by omega)]
    simp only [key_Pack.j0]
    rw [if_pos (by simp; omega)]
theorem ofle_leB (x : Int) (n k : Nat) (h1 : 1 ≤ n) (h8 : n ≤ 8) (hk : 10 < k) (h0 : 0 ≤ x) (hx : x < 256 ^ n) : num_OfLe.f k (strOfNums (leB x n)) = some (x, 0) := by
  rw [ofle_is _ k (by rw [strOfNums_size, leB_length]; exact h1) (by rw [strOfNums_size, leB_length]; exact h8) (by rw [strOfNums_size, leB_length]; omega), bytesOf_strOfNums _ (leB_range x n), valLe_leB, Int.emod_eq_of_lt h0 hx]
theorem unpack_loop (rest : List Int) (ys : List Int) : ∀ (k i : Nat) (acc : List Int), (∀ y ∈ ys, U y) → i + ys.length ≤ 10 → acc.length ≤ i → ys.length + 12 < k →
    key_Unpack.l0 k (strOfNums (enc ys ++ rest)) acc ((i + ys.length : Nat) : Int) (i : Int) = some (acc ++ ys, strOfNums rest, 0) := by
  induction ys with
  | nil =>
    intro k i acc hy hi ha hk
    obtain ⟨k, rfl⟩ : ∃ m, k = m + 1 := ⟨k - 1, by omega⟩
    simp only [key_Unpack.l0]
    rw [if_neg (by simp)]
    simp [enc]
  | cons y ys ih =>
    intro k i acc hy hi ha hk
    rw [List.length_cons] at hi hk
    obtain ⟨k, rfl⟩ : ∃ m, k = m + 1 := ⟨k - 1, by omega⟩
    simp only [key_Unpack.l0]
    have hu := hy y (List.mem_cons_self ..)
    have e0 : (strOfNums (enc (y :: ys) ++ rest)).size = 8 + 8 * ys.length + rest.length := by rw [strOfNums_size, List.length_append, enc_length, List.length_cons]; omega
    have e1 : (strOfNums (enc (y :: ys) ++ rest)).extract 0 8 = strOfNums (leB y 8) := by
      rw [str_extract, enc_cons, List.drop_zero, List.append_assoc, List.take_append_of_le_length (by rw [leB_length]; omega), List.take_of_length_le (by rw [leB_length]; omega)]
    have e2 : (strOfNums (enc (y :: ys) ++ rest)).extract 8 (strOfNums (enc (y :: ys) ++ rest)).size = strOfNums (enc ys ++ rest) := by
      rw [e0, str_extract, enc_cons, List.append_assoc]
      have : (leB y 8 ++ (enc ys ++ rest)).drop 8 = enc ys ++ rest := List.drop_left' (leB_length y 8)
      rw [this, List.take_of_length_le (by rw [List.length_append, enc_length]; omega)]
    rw [e1, e2, if_pos (by simp; omega), if_pos (by decide), if_pos (by rw [e0]; omega), ofle_leB y 8 k (by decide) (by decide) (by omega) hu.1 (by rw [p8]; exact hu.2)]
    simp only [Option.bind_some]
    rw [if_pos (by omega), wrap64_of (by omega) (by omega)]
    have e : ((i : Int) + 1) = ((i + 1 : Nat) : Int) := by omega
    have e3 : ((i + (y :: ys).length : Nat) : Int) = ((i + 1 + ys.length : Nat) : Int) := by rw [List.length_cons]; omega
    rw [e, e3, ih k (i + 1) _ (fun z hz => hy z (List.mem_cons_of_mem _ hz)) (by omega) (by simp; omega) (by omega)]
    simp
theorem unpack_is (k : Nat) (hk : 30 < k) (ys rest : List Int) (hr : rest.length ≤ 140737488351232) (hy : ∀ y ∈ ys, U y) (hl : ys.length ≤ 10) : key_Unpack.f k (strOfNums (enc ys ++ rest)) (ys.length : Int) = some (ys, strOfNums rest, 0) := by
  obtain ⟨k, rfl⟩ : ∃ m, k = m + 1 := ⟨k - 1, by omega⟩
  unfold key_Unpack.f
  have e0 : (strOfNums (enc ys ++ rest)).size = 8 * ys.length + rest.length := by rw [strOfNums_size, List.length_append, enc_length]
  have e1 : wrap64 (((8 * ys.length + rest.length : Nat) : Int) / 8) = ((8 * ys.length + rest.length : Nat) : Int) / 8 := wrap64_of (by omega) (by omega)
  rw [if_neg (by omega), e0, e1]
  simp only [key_Unpack.j0]
  rw [if_neg (by rw [decide_eq_true_eq]; omega)]
  have := unpack_loop rest ys k 0 [] hy (by omega) (by simp) (by omega)
  simpa using this
/-- an inode's bytes -/
def ino (kind links size change gen parent cookie : Int) : List Int := leB kind 1 ++ (leB links 4 ++ enc [size, change, gen, parent, cookie])
theorem ino_length (a b c d e f g : Int) : (ino a b c d e f g).length = 45 := by simp [ino, leB_length, enc_length]
theorem kinds_ok (a : Int) (h : a = 1 ∨ a = 2 ∨ a = 3) : key_kinds.f a = some true := by
  rcases h with rfl | rfl | rfl <;> rfl
theorem of_is (k : Nat) (hk : 10 < k) (a b c d e f g : Int) (ha : a = 1 ∨ a = 2 ∨ a = 3) (hb : 0 ≤ b ∧ b < 4294967296) (hc : U c) (hd : U d) (he : U e) (hf : U f) (hg : U g) :
    key_OfInode.f k a b c d e f g = some (strOfNums (ino a b c d e f g), 0) := by
  unfold key_OfInode.f
  rw [kinds_ok a ha]
  simp only [Option.bind_some, if_true]
  rw [le1 a k hk (by omega) (by omega), le4 b k hk hb.1 hb.2, le8 c k hk hc, le8 d k hk hd, le8 e k hk he, le8 f k hk hf, le8 g k hk hg]
  simp only [Option.bind_some, str_append, strOfNums_size, List.length_append, leB_length]
  rw [if_pos (by decide), if_pos (by decide), if_pos (by decide), if_pos (by decide), if_pos (by decide), if_pos (by decide)]
  simp [ino, enc]
theorem to_is (k : Nat) (hk : 40 < k) (a b c d e f g : Int) (ha : a = 1 ∨ a = 2 ∨ a = 3) (hb : 0 ≤ b ∧ b < 4294967296) (hc : U c) (hd : U d) (he : U e) (hf : U f) (hg : U g) :
    key_ToInode.f k (strOfNums (ino a b c d e f g)) = some (a, b, c, d, e, f, g, 0) := by
  obtain ⟨k, rfl⟩ : ∃ m, k = m + 1 := ⟨k - 1, by omega⟩
  have e0 : (strOfNums (ino a b c d e f g)).size = 45 := by rw [strOfNums_size, ino_length]
  have eb : wrap64 (bt (strOfNums (ino a b c d e f g)) 0) = a := by
    have hr : ∀ x ∈ ino a b c d e f g, 0 ≤ x ∧ x < 256 := by
      intro x hx
      simp only [ino, enc, List.mem_append, List.mem_flatMap] at hx
      rcases hx with hx | hx | ⟨y, _, hx⟩
      · exact leB_range _ _ x hx
      · exact leB_range _ _ x hx
      · exact leB_range _ _ x hx
    have := rd_bytesOf (strOfNums (ino a b c d e f g)) 0
    rw [bytesOf_strOfNums _ hr] at this
    have e1 : bt (strOfNums (ino a b c d e f g)) 0 = a := by
      rw [← this]
      show (List.getD (a % 256 :: _) _ _) = a
      simp
      omega
    rw [e1, wrap64_of (by omega) (by omega)]
  have x1 : (strOfNums (ino a b c d e f g)).extract 1 5 = strOfNums (leB b 4) := by
    rw [str_extract]
    rfl
  have x2 : (strOfNums (ino a b c d e f g)).extract 5 45 = strOfNums (enc [c, d, e, f, g] ++ []) := by
    rw [str_extract, List.append_nil]
    rfl
  have hu : ∀ y ∈ [c, d, e, f, g], U y := by
    intro y hy
    simp only [List.mem_cons, List.not_mem_nil, or_false] at hy
    rcases hy with rfl | rfl | rfl | rfl | rfl <;> assumption
  have un := unpack_is k (by omega) [c, d, e, f, g] [] (by simp) hu (by simp)
  have u5 : ((([c, d, e, f, g] : List Int).length : Nat) : Int) = 5 := rfl
  rw [u5] at un
  unfold key_ToInode.f
  rw [e0, if_pos (by decide), if_pos (by decide), eb, kinds_ok a ha]
  simp only [Option.bind_some, key_ToInode.j0]
  rw [if_neg (by decide), if_pos (by decide), e0, if_pos (by decide), eb, x1, x2, ofle_leB b 4 k (by decide) (by decide) (by omega) hb.1 (by rw [p4]; exact hb.2), un]
  have : b % 4294967296 = b := by omega
  simp [rd, this]
theorem same_loop (xs : List Int) (hl : xs.length ≤ 10) (d : Nat) : ∀ (k i : Nat), i + d = xs.length → d < k → holtlaw0_SameNums.l0 k xs xs (i : Int) = some true := by
  induction d with
  | zero =>
    intro k i hi hk
    obtain ⟨k, rfl⟩ : ∃ m, k = m + 1 := ⟨k - 1, by omega⟩
    simp only [holtlaw0_SameNums.l0]
    rw [if_neg (by omega)]
  | succ d ih =>
    intro k i hi hk
    obtain ⟨k, rfl⟩ : ∃ m, k = m + 1 := ⟨k - 1, by omega⟩
    simp only [holtlaw0_SameNums.l0]
    rw [if_pos (by omega), if_pos (by omega), if_pos (by omega), if_pos trivial, wrap64_of (by omega) (by omega)]
    exact ih k (i + 1) (by omega) (by omega)
theorem same_is (k : Nat) (hk : 20 < k) (xs : List Int) (hl : xs.length ≤ 10) : holtlaw0_SameNums.f k xs xs = some true := by
  unfold holtlaw0_SameNums.f
  rw [if_pos rfl]
  exact same_loop xs hl xs.length k 0 (by omega) (by omega)
theorem str_bytes (s : ByteArray) : strOfNums (bytesOf s) = s := by
  unfold strOfNums bytesOf
  apply ByteArray.ext
  apply Array.ext'
  show List.map _ (List.map _ s.data.toList) = s.data.toList
  rw [List.map_map]
  conv => rhs; rw [← List.map_id s.data.toList]
  congr 1
  funext b
  simp
theorem awake_is (k : Nat) (hk : 30 ≤ k) : holtlaw12_awake.f k = some true :=
  at_rounds (g := fun k => holtlaw12_awake.f k) (fun k => holtlaw12_awake.mono k) hk (by decide +kernel)
theorem ek (a : Int) : ∃ m : Int, wrap64 (1 + wrap64 (Int.tmod (IntKind.u64.wrap a) 3)) = m ∧ (m = 1 ∨ m = 2 ∨ m = 3) := by
  refine ⟨_, rfl, ?_⟩
  rw [wrap_u64, Int.tmod_eq_emod_of_nonneg (by omega), wrap64_of (x := a % 18446744073709551616 % 3) (by omega) (by omega), wrap64_of (by omega) (by omega)]
  omega
theorem j_bad (k : Nat) (xs : List Int) (tail : ByteArray) (hl : xs.length ≤ 1152921504606846975) (ht : tail.size ≤ 140737488351232) (h : 10 < xs.length ∨ 80 < 8 * xs.length + tail.size) : holtlaw12_KeyBack.j0 (k + 1 + 1) xs tail ⟨#[]⟩ 1200 false = some true := by
  simp only [holtlaw12_KeyBack.j0]
  rw [if_neg (by decide)]
  by_cases h80 : 80 < xs.length
  · rw [if_pos (by omega)]
    simp only [holtlaw12_KeyBack.j1, if_true, holtlaw0_Num.f, Option.bind_some, beq_self_eq_true]
  · rw [if_neg (by omega), wrap64_of (x := 8 * (xs.length : Int)) (by omega) (by omega), wrap64_of (by omega) (by omega), decide_eq_true (by omega)]
    simp only [holtlaw12_KeyBack.j1, if_true, holtlaw0_Num.f, Option.bind_some, beq_self_eq_true]
theorem j_ok (k : Nat) (hk : 50 < k) (xs : List Int) (tail : ByteArray) (hx : ∀ x ∈ xs, U x) (hl : xs.length ≤ 10) (ht : tail.size ≤ 140737488351232) (h8 : 8 * xs.length + tail.size ≤ 80) : holtlaw12_KeyBack.j0 (k + 1 + 1) xs tail (strOfNums (enc xs) ++ tail) 0 false = some true := by
  have un := unpack_is k (by omega) xs (bytesOf tail) (by rw [bytesOf_length]; exact ht) hx hl
  rw [← str_append, str_bytes] at un
  simp only [holtlaw12_KeyBack.j0]
  rw [if_neg (by decide), if_neg (by omega), wrap64_of (x := 8 * (xs.length : Int)) (by omega) (by omega), wrap64_of (by omega) (by omega), decide_eq_false (by omega)]
  simp only [holtlaw12_KeyBack.j1]
  rw [if_neg (by decide), un]
  simp only [Option.bind_some, holtlaw0_Num.f, if_true]
  rw [same_is k (by omega) xs hl]
  simp only [Option.bind_some, if_true, beq_self_eq_true]
theorem back_is (k : Nat) (hk : 50 < k) (a b c d e f g : Int) (xs : List Int) (tail : ByteArray) (hb : 0 ≤ b ∧ b < 4294967296) (hc : U c) (hd : U d) (he : U e) (hf : U f) (hg : U g) (hx : ∀ x ∈ xs, U x) (hl : xs.length ≤ 1152921504606846975) (ht : tail.size ≤ 140737488351232) :
    holtlaw12_KeyBack.f (k + 1 + 1) a b c d e f g xs tail = some true := by
  obtain ⟨m, em, hm⟩ := ek a
  have e1 := awake_is (k + 1 + 1) (by omega)
  have e2 := of_is (k + 1 + 1) (by omega) m b c d e f g hm hb hc hd he hf hg
  have e3 := to_is (k + 1 + 1) (by omega) m b c d e f g hm hb hc hd he hf hg
  have e45 : (((strOfNums (ino m b c d e f g)).size : Int) != 45) = false := by rw [strOfNums_size, ino_length]; decide
  obtain ⟨p, hp, hj⟩ : ∃ p, key_Pack.f (k + 1 + 1) xs tail = some p ∧ holtlaw12_KeyBack.j0 (k + 1 + 1) xs tail p.1 p.2 false = some true := by
    by_cases hbad : 10 < xs.length ∨ 80 < 8 * xs.length + tail.size
    · exact ⟨_, pack_bad (k + 1 + 1) (by omega) xs hl tail ht hbad, j_bad k xs tail hl ht hbad⟩
    · exact ⟨_, pack_is (k + 1 + 1) (by omega) xs tail ht hx (by omega) (by omega), j_ok k hk xs tail hx (by omega) ht (by omega)⟩
  generalize strOfNums (ino m b c d e f g) = s at *
  generalize hK : k + 1 + 1 = K at *
  have e4 : ((!m == m || (!b == b || (!c == c || !d == d))) || (!e == e || (!f == f || !g == g))) = false := by simp
  unfold holtlaw12_KeyBack.f
  rw [em, e1, Option.bind_some, if_pos rfl, e2, Option.bind_some, e3, Option.bind_some, hp, Option.bind_some]
  unfold holtlaw0_Num.f
  rw [Option.bind_some, if_pos rfl, Option.bind_some, if_pos rfl, e4, if_neg Bool.false_ne_true, e45]
  exact hj
end Go.Proofs.Ytikekepiimaccaa.KeyB

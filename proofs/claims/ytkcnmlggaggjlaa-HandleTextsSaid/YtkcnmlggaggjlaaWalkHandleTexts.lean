/- HandleTexts: a handle's bytes, and back: the plain law and the law's walk from its arguments' readings. No conditions beyond those in the statement. -/
import Derived.Test.YtkcnmlggaggjlaaNumLH
import Derived.Test.YtkcnmlggaggjlaaOpenH
import Derived.OpenShut
import Derived.Test.YtkcnmlggaggjlaaHa2
import Derived.Test.YtkcnmlggaggjlaaHa3
import Derived.Test.YtkcnmlggaggjlaaHa4
set_option linter.unusedVariables false
set_option linter.unusedSimpArgs false
namespace Go.Proofs.Ytkcnmlggaggjlaa.HandleP
open Go.RowKit Go.Proofs.Ytkcnmlggaggjlaa.Ha Go.Proofs.YtkcnmlggaggjlaaW.PrintWords Go.Proofs.YtkcnmlggaggjlaaW.PrintLast Go.Proofs.YtkcnmlggaggjlaaW.PrintMore Go.Proofs.Ytkcnmlggaggjlaa.NumL

theorem str_append (l m : List Int) : strOfNums l ++ strOfNums m = strOfNums (l ++ m) := by
  unfold strOfNums
  apply ByteArray.ext
  simp
theorem str_extract (l : List Int) (i j : Nat) : (strOfNums l).extract i j = strOfNums ((l.drop i).take (j - i)) := by
  unfold strOfNums
  apply ByteArray.ext
  simp [List.extract_eq_take_drop, List.map_take, List.map_drop]

def encL (a b c d : Int) : List Int := leB a 4 ++ leB b 8 ++ leB c 8 ++ leB d 8
theorem encL_length (a b c d : Int) : (encL a b c d).length = 28 := by simp [encL, leB_length]
theorem encL_range (a b c d : Int) : ∀ x ∈ encL a b c d, 0 ≤ x ∧ x < 256 := by
  intro x hx
  simp only [encL, List.mem_append] at hx
  rcases hx with ((h | h) | h) | h <;> exact leB_range _ _ x h

theorem p8 : (256 : Int) ^ 8 = 18446744073709551616 := by decide
theorem p4 : (256 : Int) ^ 4 = 4294967296 := by decide
theorem fits4 (x : Int) (h0 : 0 ≤ x) (h1 : x < 4294967296) : x / 256 ^ 4 = 0 := by rw [p4]; omega

theorem enc_is (a b c d : Int) (k : Nat) (hk : 10 < k) (a0 : 0 ≤ a) (a1 : a < 4294967296) (b0 : 0 ≤ b) (b1 : b < 18446744073709551616) (c0 : 0 ≤ c) (c1 : c < 18446744073709551616) (d0 : 0 ≤ d) (d1 : d < 18446744073709551616) :
    handle_Encode.f k a b c d = some (strOfNums (encL a b c d)) := by
  unfold handle_Encode.f
  have ea : IntKind.u64.wrap a = a := by rw [wrap_u64]; omega
  have e1 := le_is a 4 k (by omega) (by omega) (by omega) (by omega) (by omega)
  have e2 := le_is b 8 k (by omega) (by omega) (by omega) (by omega) (by omega)
  have e3 := le_is c 8 k (by omega) (by omega) (by omega) (by omega) (by omega)
  have e4 := le_is d 8 k (by omega) (by omega) (by omega) (by omega) (by omega)
  rw [if_pos (fits4 _ a0 a1), show ((4 : Nat) : Int) = 4 from rfl] at e1
  rw [if_pos (fits8 _ (by omega) (by omega)), show ((8 : Nat) : Int) = 8 from rfl] at e2 e3 e4
  rw [ea, e1, e2, e3, e4]
  simp only [Option.bind_some, strOfNums_size, leB_length]
  rw [if_pos (by decide), if_pos (by decide), if_pos (by decide), str_append, str_append, str_append]
  rfl
theorem renc_is (a b c d : Int) (k : Nat) (hk : 10 < k) (a0 : 0 ≤ a) (a1 : a < 4294967296) (b0 : 0 ≤ b) (b1 : b < 18446744073709551616) (c0 : 0 ≤ c) (c1 : c < 18446744073709551616) (d0 : 0 ≤ d) (d1 : d < 18446744073709551616) :
    holtref21_Encode.f k a b c d = some (strOfNums (encL a b c d)) := by
  unfold holtref21_Encode.f holtref1_L4.f holtref1_L8.f
  have ea : IntKind.u64.wrap a = a := by rw [wrap_u64]; omega
  have e1 := rle_is a 4 k (by omega) (by omega) (by omega) (by omega) (by omega)
  have e2 := rle_is b 8 k (by omega) (by omega) (by omega) (by omega) (by omega)
  have e3 := rle_is c 8 k (by omega) (by omega) (by omega) (by omega) (by omega)
  have e4 := rle_is d 8 k (by omega) (by omega) (by omega) (by omega) (by omega)
  rw [if_pos (fits4 _ a0 a1), show ((4 : Nat) : Int) = 4 from rfl] at e1
  rw [if_pos (fits8 _ (by omega) (by omega)), show ((8 : Nat) : Int) = 8 from rfl] at e2 e3 e4
  rw [ea, e1, e2, e3, e4]
  simp only [Option.bind_some, str_append, strOfNums_size, List.length_append, leB_length]
  rw [if_pos (by decide), if_pos (by decide), if_pos (by decide)]
  rfl

/-- what 28 bytes say -/
def dec (s : ByteArray) (i j : Nat) : Int := valLe (bytesOf (s.extract i j))
theorem num_is (s : ByteArray) (k i n : Nat) (hk : 10 < k) (hs : s.size = 28) (hn : 1 ≤ n) (h8 : n ≤ 8) (hi : i + n ≤ 28) :
    handle_reader_number.f k s (i : Int) (n : Int) = some (dec s i (i + n), s, ((i + n : Nat) : Int)) := by
  unfold handle_reader_number.f
  have e : wrap64 ((i : Int) + n) = ((i + n : Nat) : Int) := by rw [wrap64_of (by omega) (by omega)]; omega
  have z : (s.extract i (i + n)).size = n := by rw [ByteArray.size_extract]; omega
  rw [if_pos (by omega), e, if_pos (by omega), if_pos (by omega), Int.toNat_natCast, Int.toNat_natCast, ofle_is _ k (by omega) (by omega) (by omega)]
  rfl
theorem dec_is (s : ByteArray) (k : Nat) (hk : 10 < k) (hs : s.size = 28) :
    handle_Decode.f k s = some (dec s 0 4 % 4294967296, dec s 4 12, dec s 12 20, dec s 20 28, 0) := by
  unfold handle_Decode.f
  rw [if_pos (by omega)]
  have e1 := num_is s k 0 4 hk hs (by decide) (by decide) (by decide)
  have e2 := num_is s k 4 8 hk hs (by decide) (by decide) (by decide)
  have e3 := num_is s k 12 8 hk hs (by decide) (by decide) (by decide)
  have e4 := num_is s k 20 8 hk hs (by decide) (by decide) (by decide)
  simp only [Nat.reduceAdd] at e1 e2 e3 e4
  rw [show ((0 : Nat) : Int) = 0 from rfl, show ((4 : Nat) : Int) = 4 from rfl] at e1
  rw [show ((4 : Nat) : Int) = 4 from rfl, show ((8 : Nat) : Int) = 8 from rfl, show ((12 : Nat) : Int) = 12 from rfl] at e2
  rw [show ((8 : Nat) : Int) = 8 from rfl, show ((12 : Nat) : Int) = 12 from rfl, show ((20 : Nat) : Int) = 20 from rfl] at e3
  rw [show ((8 : Nat) : Int) = 8 from rfl, show ((20 : Nat) : Int) = 20 from rfl] at e4
  rw [e1]
  simp only [Option.bind_some]
  rw [e2]
  simp only [Option.bind_some]
  rw [e3]
  simp only [Option.bind_some]
  rw [e4]
  rfl
theorem dec_bad (s : ByteArray) (k : Nat) (hs : ¬ s.size = 28) : handle_Decode.f k s = some (0, 0, 0, 0, 2100) := by
  unfold handle_Decode.f
  rw [if_neg (by omega)]
theorem rdec_is (s : ByteArray) (k : Nat) (hk : 10 < k) (hs : s.size = 28) :
    holtref21_Decode.f k s = some (dec s 0 4 % 4294967296, dec s 4 12, dec s 12 20, dec s 20 28, 0) := by
  unfold holtref21_Decode.f
  have z1 : (s.extract 0 4).size = 4 := by rw [ByteArray.size_extract]; omega
  have z2 : (s.extract 4 12).size = 8 := by rw [ByteArray.size_extract]; omega
  have z3 : (s.extract 12 20).size = 8 := by rw [ByteArray.size_extract]; omega
  have z4 : (s.extract 20 28).size = 8 := by rw [ByteArray.size_extract]; omega
  rw [if_pos (by omega), if_pos (by decide), if_pos (by omega), rofle_is _ k (by omega) (by omega) (by omega)]
  simp only [Option.bind_some]
  rw [if_pos (by decide), if_pos (by omega), rofle_is _ k (by omega) (by omega) (by omega)]
  simp only [Option.bind_some]
  rw [if_pos (by decide), if_pos (by omega), rofle_is _ k (by omega) (by omega) (by omega), hs]
  simp only [Option.bind_some]
  rw [rofle_is _ k (by omega) (by omega) (by omega)]
  rfl
theorem rdec_bad (s : ByteArray) (k : Nat) (hs : ¬ s.size = 28) : holtref21_Decode.f k s = some (0, 0, 0, 0, 2100) := by
  unfold holtref21_Decode.f
  rw [if_neg (by omega)]

theorem dec_enc (a b c d : Int) (i n : Nat) (x : Int) (h : ((encL a b c d).drop i).take n = leB x n) : dec (strOfNums (encL a b c d)) i (i + n) = x % 256 ^ n := by
  unfold dec
  rw [str_extract, bytesOf_strOfNums _ (fun y hy => encL_range a b c d y (List.mem_of_mem_drop (List.mem_of_mem_take hy))), show i + n - i = n by omega, h, valLe_leB]
theorem back_is (a b c d : Int) (k : Nat) (hk : 10 < k) (a0 : 0 ≤ a) (a1 : a < 4294967296) (b0 : 0 ≤ b) (b1 : b < 18446744073709551616) (c0 : 0 ≤ c) (c1 : c < 18446744073709551616) (d0 : 0 ≤ d) (d1 : d < 18446744073709551616) :
    handle_Decode.f k (strOfNums (encL a b c d)) = some (a, b, c, d, 0) := by
  rw [dec_is _ k hk (by rw [strOfNums_size, encL_length])]
  have e1 := dec_enc a b c d 0 4 a (by simp [encL, leB])
  have e2 := dec_enc a b c d 4 8 b (by simp [encL, leB])
  have e3 := dec_enc a b c d 12 8 c (by simp [encL, leB])
  have e4 := dec_enc a b c d 20 8 d (by simp [encL, leB])
  rw [p4] at e1
  rw [p8] at e2 e3 e4
  simp only [Nat.reduceAdd, Nat.zero_add] at e1 e2 e3 e4
  rw [e1, e2, e3, e4]
  have f1 : a % 4294967296 % 4294967296 = a := by omega
  have f2 : b % 18446744073709551616 = b := by omega
  have f3 : c % 18446744073709551616 = c := by omega
  have f4 : d % 18446744073709551616 = d := by omega
  rw [f1, f2, f3, f4]

theorem awake_is (k : Nat) (hk : 10 < k) : holtlaw21_awake.f k = some true := by
  unfold holtlaw21_awake.f
  rw [enc_is 1 2 3 4 k hk (by decide) (by decide) (by decide) (by decide) (by decide) (by decide) (by decide) (by decide)]
  simp only [Option.bind_some]
  rw [back_is 1 2 3 4 k hk (by decide) (by decide) (by decide) (by decide) (by decide) (by decide) (by decide) (by decide)]
  simp only [Option.bind_some]
  have z : (strOfNums (encL 1 2 3 4)).size = 28 := by rw [strOfNums_size, encL_length]
  rw [z, if_pos (by decide), dec_bad _ k (by rw [ByteArray.size_append, z]; decide)]
  simp [holtlaw0_Num.f]

theorem texts_is (k : Nat) (hk : 10 < k) (a b c d : Int) (s : ByteArray) (a0 : 0 ≤ a) (a1 : a < 4294967296) (b0 : 0 ≤ b) (b1 : b < 18446744073709551616) (c0 : 0 ≤ c) (c1 : c < 18446744073709551616) (d0 : 0 ≤ d) (d1 : d < 18446744073709551616) :
    holtlaw21_HandleTexts.f k a b c d s = some true := by
  unfold holtlaw21_HandleTexts.f
  have e : handle_Decode.f k s = holtref21_Decode.f k s ∧ ∃ p, holtref21_Decode.f k s = some p := by
    by_cases hs : s.size = 28
    · rw [dec_is s k hk hs, rdec_is s k hk hs]; exact ⟨rfl, _, rfl⟩
    · rw [dec_bad s k hs, rdec_bad s k hs]; exact ⟨rfl, _, rfl⟩
  obtain ⟨e1, p, e2⟩ := e
  rw [e1, e2, enc_is a b c d k hk a0 a1 b0 b1 c0 c1 d0 d1, renc_is a b c d k hk a0 a1 b0 b1 c0 c1 d0 d1]
  simp only [Option.bind_some]
  rw [back_is a b c d k hk a0 a1 b0 b1 c0 c1 d0 d1, awake_is k hk]
  simp [holtlaw0_Num.f]
end Go.Proofs.Ytkcnmlggaggjlaa.HandleP
namespace Go.Proofs.Ytkcnmlggaggjlaa.Walk
open Go.RowKit Go.ChangeShapes Go.WideShapes Go.Proofs.Ytkcnmlggaggjlaa.Ha Go.Proofs.Ytkcnmlggaggjlaa.HandleP
open Go.ChangeMaps (open_string)
theorem HandleTexts {H : Type} {enc : TypeId × Value → H} (W : World) (base : Nat) (v0 : Value) (d0 : DataW H) (p0 : List MemPlace) (v1 : Value) (d1 : DataW H) (p1 : List MemPlace)
    (h0 : DataW.Trod enc Try.prog W 0 (fun _ => true) true 29 v0 d0 p0) (o0 : Value.okWide Try.prog W .any base 29 v0)
    (h1 : DataW.Trod enc Try.prog W 0 (fun _ => true) true 9 v1 d1 p1) (o1 : Value.okWide Try.prog W .any base 9 v1)
    (hsz : (DataW.weightsEach Try.prog [29, 9] [d0, d1]).all (· ≤ reachBytes) = true) :
    Calls Try.prog 6 #[v0, v1] W fun e w' => e = .returned (.bool true) ∧ Below W.heap.size W w' := by
  obtain ⟨a0, a1, a2, a3, rfl, w0, w1, w2, w3⟩ := Open.open29 o0 h0
  obtain ⟨s, rfl, rfl, rfl, y1⟩ := open_string Try.underlying9 o1 h1
  have b0 := bounds_u32 w0
  have b1 := bounds_u64 w1
  have b2 := bounds_u64 w2
  have b3 := bounds_u64 w3
  exact holtlaw21_HandleTexts.calls 11 a0 a1 a2 a3 s true W (texts_is 11 (by decide) a0 a1 a2 a3 s (by omega) (by omega) (by omega) (by omega) (by omega) (by omega) (by omega) (by omega))
end Go.Proofs.Ytkcnmlggaggjlaa.Walk

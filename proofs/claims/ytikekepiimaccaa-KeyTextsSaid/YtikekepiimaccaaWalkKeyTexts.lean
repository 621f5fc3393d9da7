/- KeyTexts: every key of package key is the document's: the plain law and the law's walk from its arguments' readings. No conditions beyond those in the statement. -/
import Derived.Test.YtikekepiimaccaaNumLKt
import Derived.OpenShut
import Derived.Test.YtikekepiimaccaaKt1
import Derived.Test.YtikekepiimaccaaKt3
import Derived.Test.YtikekepiimaccaaKt4
import Derived.Test.YtikekepiimaccaaKt5
import Derived.ShutString
import Derived.SizedLaws
set_option linter.unusedVariables false
set_option linter.unusedSimpArgs false
namespace Go.Proofs.Ytikekepiimaccaa.KeyT
open Go.RowKit Go.Proofs.Ytikekepiimaccaa.Kt Go.Proofs.YtikekepiimaccaaW.PrintWords Go.Proofs.YtikekepiimaccaaW.PrintLast Go.Proofs.YtikekepiimaccaaW.PrintMore Go.Proofs.Ytikekepiimaccaa.NumL

def be8 (x : Int) : ByteArray := strOfNums (leB x 8).reverse
def be4 (x : Int) : ByteArray := strOfNums (leB x 4).reverse
theorem be8_size (x : Int) : (be8 x).size = 8 := by unfold be8; rw [strOfNums_size, List.length_reverse, leB_length]
theorem be4_size (x : Int) : (be4 x).size = 4 := by unfold be4; rw [strOfNums_size, List.length_reverse, leB_length]
theorem nbe8 (x : Int) (k : Nat) (hk : 10 < k) (h0 : 0 ≤ x) (h1 : x < 18446744073709551616) : num_Be.f k x 8 = some (be8 x, 0) := by
  have e := be_is x 8 k h0 h1 (by omega) (by omega) (by omega)
  rwa [if_pos (fits8 _ h0 h1), show ((8 : Nat) : Int) = 8 from rfl] at e
theorem wu32 (x : Int) (h0 : 0 ≤ x) (h1 : x < 4294967296) : IntKind.u64.wrap x = x := by rw [wrap_u64]; omega
theorem fits4 (x : Int) (h0 : 0 ≤ x) (h1 : x < 4294967296) : x / 256 ^ 4 = 0 := by
  have e : (256 : Int) ^ 4 = 4294967296 := by decide
  rw [e]; omega
theorem nbe4 (x : Int) (k : Nat) (hk : 10 < k) (h0 : 0 ≤ x) (h1 : x < 4294967296) : num_Be.f k (IntKind.u64.wrap x) 4 = some (be4 x, 0) := by
  have e := be_is x 4 k h0 (by omega) (by omega) (by omega) (by omega)
  rw [wu32 x h0 h1]
  rwa [if_pos (fits4 _ h0 h1), show ((4 : Nat) : Int) = 4 from rfl] at e
theorem rb8 (x : Int) (k : Nat) (hk : 10 < k) (h0 : 0 ≤ x) (h1 : x < 18446744073709551616) : holtref12_b.f k x = some (be8 x) := by
  unfold holtref12_b.f holtref1_B8.f
  have e := rbe_is x 8 k h0 h1 (by omega) (by omega) (by omega)
  rw [if_pos (fits8 _ h0 h1), show ((8 : Nat) : Int) = 8 from rfl] at e
  rw [e]; rfl
theorem rb4 (x : Int) (k : Nat) (hk : 10 < k) (h0 : 0 ≤ x) (h1 : x < 4294967296) : holtref1_B4.f k x = some (be4 x) := by
  unfold holtref1_B4.f
  have e := rbe_is x 4 k h0 (by omega) (by omega) (by omega) (by omega)
  rw [if_pos (fits4 _ h0 h1), show ((4 : Nat) : Int) = 4 from rfl] at e
  rw [wu32 x h0 h1, e]; rfl
theorem eight (p : ByteArray) (x : Int) (k : Nat) (hk : 10 < k) (h0 : 0 ≤ x) (h1 : x < 18446744073709551616) (hp : p.size ≤ 100) : key_kind_eight.f k p x = some (p ++ be8 x) := by
  unfold key_kind_eight.f
  rw [nbe8 x k hk h0 h1]
  simp only [Option.bind_some, be8_size]
  rw [if_pos (by omega)]
theorem four (p : ByteArray) (x : Int) (k : Nat) (hk : 10 < k) (h0 : 0 ≤ x) (h1 : x < 4294967296) (hp : p.size ≤ 100) : key_kind_four.f k p x = some (p ++ be4 x) := by
  unfold key_kind_four.f
  rw [nbe4 x k hk h0 h1]
  simp only [Option.bind_some, be4_size]
  rw [if_pos (by omega)]
theorem one_size (l : List UInt8) : (ByteArray.mk l.toArray).size = l.length := rfl
theorem k_Inode (a b c : Int) (s : ByteArray) (k : Nat) (hk : 10 < k) (ha0 : 0 ≤ a) (ha1 : a < 18446744073709551616) (hb0 : 0 ≤ b) (hb1 : b < 18446744073709551616) (hc0 : 0 ≤ c) (hc1 : c < 4294967296) (hs : s.size ≤ 140737488351232) : key_Inode.f k a = some ((⟨#[97]⟩ : ByteArray) ++ be8 a) := by
  unfold key_Inode.f
  rw [eight _ a k hk ha0 ha1 (by decide)]
  simp only [Option.bind_some]
theorem r_Inode (a b c : Int) (s : ByteArray) (k : Nat) (hk : 10 < k) (ha0 : 0 ≤ a) (ha1 : a < 18446744073709551616) (hb0 : 0 ≤ b) (hb1 : b < 18446744073709551616) (hc0 : 0 ≤ c) (hc1 : c < 4294967296) (hs : s.size ≤ 140737488351232) : holtref12_Inode.f k a = some ((⟨#[97]⟩ : ByteArray) ++ be8 a) := by
  unfold holtref12_Inode.f
  have z : (⟨#[97]⟩ : ByteArray).size = 1 := rfl
  rw [rb8 a k hk ha0 ha1]
  simp only [Option.bind_some, ByteArray.size_append, be4_size, be8_size, z]
  rw [if_pos (by omega)]
theorem k_Data (a b c : Int) (s : ByteArray) (k : Nat) (hk : 10 < k) (ha0 : 0 ≤ a) (ha1 : a < 18446744073709551616) (hb0 : 0 ≤ b) (hb1 : b < 18446744073709551616) (hc0 : 0 ≤ c) (hc1 : c < 4294967296) (hs : s.size ≤ 140737488351232) : key_Data.f k a b = some (((⟨#[100]⟩ : ByteArray) ++ be8 a) ++ be8 b) := by
  unfold key_Data.f
  rw [eight _ a k hk ha0 ha1 (by decide)]
  simp only [Option.bind_some]
  rw [eight _ b k hk hb0 hb1 (by rw [ByteArray.size_append, be8_size]; decide)]
  rfl
theorem r_Data (a b c : Int) (s : ByteArray) (k : Nat) (hk : 10 < k) (ha0 : 0 ≤ a) (ha1 : a < 18446744073709551616) (hb0 : 0 ≤ b) (hb1 : b < 18446744073709551616) (hc0 : 0 ≤ c) (hc1 : c < 4294967296) (hs : s.size ≤ 140737488351232) : holtref12_Data.f k a b = some (((⟨#[100]⟩ : ByteArray) ++ be8 a) ++ be8 b) := by
  unfold holtref12_Data.f
  have z : (⟨#[100]⟩ : ByteArray).size = 1 := rfl
  rw [rb8 a k hk ha0 ha1]
  simp only [Option.bind_some, ByteArray.size_append, be4_size, be8_size, z]
  rw [if_pos (by omega)]
  rw [rb8 b k hk hb0 hb1]
  simp only [Option.bind_some, be8_size]
  rw [if_pos (by omega)]
theorem k_Entry (a b c : Int) (s : ByteArray) (k : Nat) (hk : 10 < k) (ha0 : 0 ≤ a) (ha1 : a < 18446744073709551616) (hb0 : 0 ≤ b) (hb1 : b < 18446744073709551616) (hc0 : 0 ≤ c) (hc1 : c < 4294967296) (hs : s.size ≤ 140737488351232) : key_Entry.f k a s = some (((⟨#[101]⟩ : ByteArray) ++ be8 a) ++ s) := by
  unfold key_Entry.f
  rw [eight _ a k hk ha0 ha1 (by decide)]
  simp only [Option.bind_some]
  rw [if_pos (by rw [ByteArray.size_append, be8_size]; have : (⟨#[101]⟩ : ByteArray).size = 1 := rfl; omega)]
theorem r_Entry (a b c : Int) (s : ByteArray) (k : Nat) (hk : 10 < k) (ha0 : 0 ≤ a) (ha1 : a < 18446744073709551616) (hb0 : 0 ≤ b) (hb1 : b < 18446744073709551616) (hc0 : 0 ≤ c) (hc1 : c < 4294967296) (hs : s.size ≤ 140737488351232) : holtref12_Entry.f k a s = some (((⟨#[101]⟩ : ByteArray) ++ be8 a) ++ s) := by
  unfold holtref12_Entry.f
  have z : (⟨#[101]⟩ : ByteArray).size = 1 := rfl
  rw [rb8 a k hk ha0 ha1]
  simp only [Option.bind_some, ByteArray.size_append, be4_size, be8_size, z]
  rw [if_pos (by omega)]
  rw [if_pos (by omega)]
theorem k_Cookie (a b c : Int) (s : ByteArray) (k : Nat) (hk : 10 < k) (ha0 : 0 ≤ a) (ha1 : a < 18446744073709551616) (hb0 : 0 ≤ b) (hb1 : b < 18446744073709551616) (hc0 : 0 ≤ c) (hc1 : c < 4294967296) (hs : s.size ≤ 140737488351232) : key_Cookie.f k a b = some (((⟨#[99]⟩ : ByteArray) ++ be8 a) ++ be8 b) := by
  unfold key_Cookie.f
  rw [eight _ a k hk ha0 ha1 (by decide)]
  simp only [Option.bind_some]
  rw [eight _ b k hk hb0 hb1 (by rw [ByteArray.size_append, be8_size]; decide)]
  rfl
theorem r_Cookie (a b c : Int) (s : ByteArray) (k : Nat) (hk : 10 < k) (ha0 : 0 ≤ a) (ha1 : a < 18446744073709551616) (hb0 : 0 ≤ b) (hb1 : b < 18446744073709551616) (hc0 : 0 ≤ c) (hc1 : c < 4294967296) (hs : s.size ≤ 140737488351232) : holtref12_Cookie.f k a b = some (((⟨#[99]⟩ : ByteArray) ++ be8 a) ++ be8 b) := by
  unfold holtref12_Cookie.f
  have z : (⟨#[99]⟩ : ByteArray).size = 1 := rfl
  rw [rb8 a k hk ha0 ha1]
  simp only [Option.bind_some, ByteArray.size_append, be4_size, be8_size, z]
  rw [if_pos (by omega)]
  rw [rb8 b k hk hb0 hb1]
  simp only [Option.bind_some, be8_size]
  rw [if_pos (by omega)]
theorem k_Target (a b c : Int) (s : ByteArray) (k : Nat) (hk : 10 < k) (ha0 : 0 ≤ a) (ha1 : a < 18446744073709551616) (hb0 : 0 ≤ b) (hb1 : b < 18446744073709551616) (hc0 : 0 ≤ c) (hc1 : c < 4294967296) (hs : s.size ≤ 140737488351232) : key_Target.f k a = some ((⟨#[108]⟩ : ByteArray) ++ be8 a) := by
  unfold key_Target.f
  rw [eight _ a k hk ha0 ha1 (by decide)]
  simp only [Option.bind_some]
theorem r_Target (a b c : Int) (s : ByteArray) (k : Nat) (hk : 10 < k) (ha0 : 0 ≤ a) (ha1 : a < 18446744073709551616) (hb0 : 0 ≤ b) (hb1 : b < 18446744073709551616) (hc0 : 0 ≤ c) (hc1 : c < 4294967296) (hs : s.size ≤ 140737488351232) : holtref12_Target.f k a = some ((⟨#[108]⟩ : ByteArray) ++ be8 a) := by
  unfold holtref12_Target.f
  have z : (⟨#[108]⟩ : ByteArray).size = 1 := rfl
  rw [rb8 a k hk ha0 ha1]
  simp only [Option.bind_some, ByteArray.size_append, be4_size, be8_size, z]
  rw [if_pos (by omega)]
theorem k_Orphan (a b c : Int) (s : ByteArray) (k : Nat) (hk : 10 < k) (ha0 : 0 ≤ a) (ha1 : a < 18446744073709551616) (hb0 : 0 ≤ b) (hb1 : b < 18446744073709551616) (hc0 : 0 ≤ c) (hc1 : c < 4294967296) (hs : s.size ≤ 140737488351232) : key_Orphan.f k a = some ((⟨#[111]⟩ : ByteArray) ++ be8 a) := by
  unfold key_Orphan.f
  rw [eight _ a k hk ha0 ha1 (by decide)]
  simp only [Option.bind_some]
theorem r_Orphan (a b c : Int) (s : ByteArray) (k : Nat) (hk : 10 < k) (ha0 : 0 ≤ a) (ha1 : a < 18446744073709551616) (hb0 : 0 ≤ b) (hb1 : b < 18446744073709551616) (hc0 : 0 ≤ c) (hc1 : c < 4294967296) (hs : s.size ≤ 140737488351232) : holtref12_Orphan.f k a = some ((⟨#[111]⟩ : ByteArray) ++ be8 a) := by
  unfold holtref12_Orphan.f
  have z : (⟨#[111]⟩ : ByteArray).size = 1 := rfl
  rw [rb8 a k hk ha0 ha1]
  simp only [Option.bind_some, ByteArray.size_append, be4_size, be8_size, z]
  rw [if_pos (by omega)]
theorem k_Counters (a b c : Int) (s : ByteArray) (k : Nat) (hk : 10 < k) (ha0 : 0 ≤ a) (ha1 : a < 18446744073709551616) (hb0 : 0 ≤ b) (hb1 : b < 18446744073709551616) (hc0 : 0 ≤ c) (hc1 : c < 4294967296) (hs : s.size ≤ 140737488351232) : key_Counters.f = some (⟨#[115]⟩ : ByteArray) := by
  rfl
theorem r_Counters (a b c : Int) (s : ByteArray) (k : Nat) (hk : 10 < k) (ha0 : 0 ≤ a) (ha1 : a < 18446744073709551616) (hb0 : 0 ≤ b) (hb1 : b < 18446744073709551616) (hc0 : 0 ≤ c) (hc1 : c < 4294967296) (hs : s.size ≤ 140737488351232) : holtref12_Counters.f = some (⟨#[115]⟩ : ByteArray) := by
  rfl
theorem k_Export (a b c : Int) (s : ByteArray) (k : Nat) (hk : 10 < k) (ha0 : 0 ≤ a) (ha1 : a < 18446744073709551616) (hb0 : 0 ≤ b) (hb1 : b < 18446744073709551616) (hc0 : 0 ≤ c) (hc1 : c < 4294967296) (hs : s.size ≤ 140737488351232) : key_Export.f k c = some ((⟨#[120]⟩ : ByteArray) ++ be4 c) := by
  unfold key_Export.f
  rw [four _ c k hk hc0 hc1 (by decide)]
  simp only [Option.bind_some]
theorem r_Export (a b c : Int) (s : ByteArray) (k : Nat) (hk : 10 < k) (ha0 : 0 ≤ a) (ha1 : a < 18446744073709551616) (hb0 : 0 ≤ b) (hb1 : b < 18446744073709551616) (hc0 : 0 ≤ c) (hc1 : c < 4294967296) (hs : s.size ≤ 140737488351232) : holtref12_Export.f k c = some ((⟨#[120]⟩ : ByteArray) ++ be4 c) := by
  unfold holtref12_Export.f
  have z : (⟨#[120]⟩ : ByteArray).size = 1 := rfl
  rw [rb4 c k hk hc0 hc1]
  simp only [Option.bind_some, ByteArray.size_append, be4_size, be8_size, z]
  rw [if_pos (by omega)]
theorem k_Snap (a b c : Int) (s : ByteArray) (k : Nat) (hk : 10 < k) (ha0 : 0 ≤ a) (ha1 : a < 18446744073709551616) (hb0 : 0 ≤ b) (hb1 : b < 18446744073709551616) (hc0 : 0 ≤ c) (hc1 : c < 4294967296) (hs : s.size ≤ 140737488351232) : key_Snap.f k c a = some (((⟨#[110]⟩ : ByteArray) ++ be4 c) ++ be8 a) := by
  unfold key_Snap.f
  rw [four _ c k hk hc0 hc1 (by decide)]
  simp only [Option.bind_some]
  rw [eight _ a k hk ha0 ha1 (by rw [ByteArray.size_append, be4_size]; decide)]
  rfl
theorem r_Snap (a b c : Int) (s : ByteArray) (k : Nat) (hk : 10 < k) (ha0 : 0 ≤ a) (ha1 : a < 18446744073709551616) (hb0 : 0 ≤ b) (hb1 : b < 18446744073709551616) (hc0 : 0 ≤ c) (hc1 : c < 4294967296) (hs : s.size ≤ 140737488351232) : holtref12_Snap.f k c a = some (((⟨#[110]⟩ : ByteArray) ++ be4 c) ++ be8 a) := by
  unfold holtref12_Snap.f
  have z : (⟨#[110]⟩ : ByteArray).size = 1 := rfl
  rw [rb4 c k hk hc0 hc1]
  simp only [Option.bind_some, ByteArray.size_append, be4_size, be8_size, z]
  rw [if_pos (by omega)]
  rw [rb8 a k hk ha0 ha1]
  simp only [Option.bind_some, be8_size]
  rw [if_pos (by omega)]
theorem k_Pend (a b c : Int) (s : ByteArray) (k : Nat) (hk : 10 < k) (ha0 : 0 ≤ a) (ha1 : a < 18446744073709551616) (hb0 : 0 ≤ b) (hb1 : b < 18446744073709551616) (hc0 : 0 ≤ c) (hc1 : c < 4294967296) (hs : s.size ≤ 140737488351232) : key_Pend.f k a = some ((⟨#[112]⟩ : ByteArray) ++ be8 a) := by
  unfold key_Pend.f
  rw [eight _ a k hk ha0 ha1 (by decide)]
  simp only [Option.bind_some]
theorem r_Pend (a b c : Int) (s : ByteArray) (k : Nat) (hk : 10 < k) (ha0 : 0 ≤ a) (ha1 : a < 18446744073709551616) (hb0 : 0 ≤ b) (hb1 : b < 18446744073709551616) (hc0 : 0 ≤ c) (hc1 : c < 4294967296) (hs : s.size ≤ 140737488351232) : holtref12_Pend.f k a = some ((⟨#[112]⟩ : ByteArray) ++ be8 a) := by
  unfold holtref12_Pend.f
  have z : (⟨#[112]⟩ : ByteArray).size = 1 := rfl
  rw [rb8 a k hk ha0 ha1]
  simp only [Option.bind_some, ByteArray.size_append, be4_size, be8_size, z]
  rw [if_pos (by omega)]
theorem k_Answer (a b c : Int) (s : ByteArray) (k : Nat) (hk : 10 < k) (ha0 : 0 ≤ a) (ha1 : a < 18446744073709551616) (hb0 : 0 ≤ b) (hb1 : b < 18446744073709551616) (hc0 : 0 ≤ c) (hc1 : c < 4294967296) (hs : s.size ≤ 140737488351232) : key_Answer.f k c a = some (((⟨#[114]⟩ : ByteArray) ++ be4 c) ++ be8 a) := by
  unfold key_Answer.f
  rw [four _ c k hk hc0 hc1 (by decide)]
  simp only [Option.bind_some]
  rw [eight _ a k hk ha0 ha1 (by rw [ByteArray.size_append, be4_size]; decide)]
  rfl
theorem r_Answer (a b c : Int) (s : ByteArray) (k : Nat) (hk : 10 < k) (ha0 : 0 ≤ a) (ha1 : a < 18446744073709551616) (hb0 : 0 ≤ b) (hb1 : b < 18446744073709551616) (hc0 : 0 ≤ c) (hc1 : c < 4294967296) (hs : s.size ≤ 140737488351232) : holtref12_Answer.f k c a = some (((⟨#[114]⟩ : ByteArray) ++ be4 c) ++ be8 a) := by
  unfold holtref12_Answer.f
  have z : (⟨#[114]⟩ : ByteArray).size = 1 := rfl
  rw [rb4 c k hk hc0 hc1]
  simp only [Option.bind_some, ByteArray.size_append, be4_size, be8_size, z]
  rw [if_pos (by omega)]
  rw [rb8 a k hk ha0 ha1]
  simp only [Option.bind_some, be8_size]
  rw [if_pos (by omega)]
theorem k_High (a b c : Int) (s : ByteArray) (k : Nat) (hk : 10 < k) (ha0 : 0 ≤ a) (ha1 : a < 18446744073709551616) (hb0 : 0 ≤ b) (hb1 : b < 18446744073709551616) (hc0 : 0 ≤ c) (hc1 : c < 4294967296) (hs : s.size ≤ 140737488351232) : key_High.f k c = some ((⟨#[104]⟩ : ByteArray) ++ be4 c) := by
  unfold key_High.f
  rw [four _ c k hk hc0 hc1 (by decide)]
  simp only [Option.bind_some]
theorem r_High (a b c : Int) (s : ByteArray) (k : Nat) (hk : 10 < k) (ha0 : 0 ≤ a) (ha1 : a < 18446744073709551616) (hb0 : 0 ≤ b) (hb1 : b < 18446744073709551616) (hc0 : 0 ≤ c) (hc1 : c < 4294967296) (hs : s.size ≤ 140737488351232) : holtref12_High.f k c = some ((⟨#[104]⟩ : ByteArray) ++ be4 c) := by
  unfold holtref12_High.f
  have z : (⟨#[104]⟩ : ByteArray).size = 1 := rfl
  rw [rb4 c k hk hc0 hc1]
  simp only [Option.bind_some, ByteArray.size_append, be4_size, be8_size, z]
  rw [if_pos (by omega)]
theorem k_Global (a b c : Int) (s : ByteArray) (k : Nat) (hk : 10 < k) (ha0 : 0 ≤ a) (ha1 : a < 18446744073709551616) (hb0 : 0 ≤ b) (hb1 : b < 18446744073709551616) (hc0 : 0 ≤ c) (hc1 : c < 4294967296) (hs : s.size ≤ 140737488351232) : key_Global.f = some (⟨#[103]⟩ : ByteArray) := by
  rfl
theorem r_Global (a b c : Int) (s : ByteArray) (k : Nat) (hk : 10 < k) (ha0 : 0 ≤ a) (ha1 : a < 18446744073709551616) (hb0 : 0 ≤ b) (hb1 : b < 18446744073709551616) (hc0 : 0 ≤ c) (hc1 : c < 4294967296) (hs : s.size ≤ 140737488351232) : holtref12_Global.f = some (⟨#[103]⟩ : ByteArray) := by
  rfl
theorem awake_is (k : Nat) (hk : 30 ≤ k) : holtlaw12_awake.f k = some true :=
  at_rounds (g := fun k => holtlaw12_awake.f k) (fun k => holtlaw12_awake.mono k) hk (by decide +kernel)

set_option maxHeartbeats 4000000 in
set_option maxRecDepth 100000 in
theorem law (a b c : Int) (s : ByteArray) (ha0 : 0 ≤ a) (ha1 : a < 18446744073709551616) (hb0 : 0 ≤ b) (hb1 : b < 18446744073709551616) (hc0 : 0 ≤ c) (hc1 : c < 4294967296) (hs : s.size ≤ 140737488351232) (w : World) :
    Calls Try.prog 8 #[.int .u64 a, .int .u64 b, .int .u32 c, .string s] w fun e w' => e = .returned (.bool true) ∧ Below w.heap.size w w' := by
  have KInode := Aside0.mk (k_Inode a b c s 30 (by decide) ha0 ha1 hb0 hb1 hc0 hc1 hs)
  have RInode := Aside0.mk (r_Inode a b c s 30 (by decide) ha0 ha1 hb0 hb1 hc0 hc1 hs)
  have KData := Aside0.mk (k_Data a b c s 30 (by decide) ha0 ha1 hb0 hb1 hc0 hc1 hs)
  have RData := Aside0.mk (r_Data a b c s 30 (by decide) ha0 ha1 hb0 hb1 hc0 hc1 hs)
  have KEntry := Aside0.mk (k_Entry a b c s 30 (by decide) ha0 ha1 hb0 hb1 hc0 hc1 hs)
  have REntry := Aside0.mk (r_Entry a b c s 30 (by decide) ha0 ha1 hb0 hb1 hc0 hc1 hs)
  have KCookie := Aside0.mk (k_Cookie a b c s 30 (by decide) ha0 ha1 hb0 hb1 hc0 hc1 hs)
  have RCookie := Aside0.mk (r_Cookie a b c s 30 (by decide) ha0 ha1 hb0 hb1 hc0 hc1 hs)
  have KTarget := Aside0.mk (k_Target a b c s 30 (by decide) ha0 ha1 hb0 hb1 hc0 hc1 hs)
  have RTarget := Aside0.mk (r_Target a b c s 30 (by decide) ha0 ha1 hb0 hb1 hc0 hc1 hs)
  have KOrphan := Aside0.mk (k_Orphan a b c s 30 (by decide) ha0 ha1 hb0 hb1 hc0 hc1 hs)
  have ROrphan := Aside0.mk (r_Orphan a b c s 30 (by decide) ha0 ha1 hb0 hb1 hc0 hc1 hs)
  have KCounters := Aside0.mk (k_Counters a b c s 30 (by decide) ha0 ha1 hb0 hb1 hc0 hc1 hs)
  have RCounters := Aside0.mk (r_Counters a b c s 30 (by decide) ha0 ha1 hb0 hb1 hc0 hc1 hs)
  have KExport := Aside0.mk (k_Export a b c s 30 (by decide) ha0 ha1 hb0 hb1 hc0 hc1 hs)
  have RExport := Aside0.mk (r_Export a b c s 30 (by decide) ha0 ha1 hb0 hb1 hc0 hc1 hs)
  have KSnap := Aside0.mk (k_Snap a b c s 30 (by decide) ha0 ha1 hb0 hb1 hc0 hc1 hs)
  have RSnap := Aside0.mk (r_Snap a b c s 30 (by decide) ha0 ha1 hb0 hb1 hc0 hc1 hs)
  have KPend := Aside0.mk (k_Pend a b c s 30 (by decide) ha0 ha1 hb0 hb1 hc0 hc1 hs)
  have RPend := Aside0.mk (r_Pend a b c s 30 (by decide) ha0 ha1 hb0 hb1 hc0 hc1 hs)
  have KAnswer := Aside0.mk (k_Answer a b c s 30 (by decide) ha0 ha1 hb0 hb1 hc0 hc1 hs)
  have RAnswer := Aside0.mk (r_Answer a b c s 30 (by decide) ha0 ha1 hb0 hb1 hc0 hc1 hs)
  have KHigh := Aside0.mk (k_High a b c s 30 (by decide) ha0 ha1 hb0 hb1 hc0 hc1 hs)
  have RHigh := Aside0.mk (r_High a b c s 30 (by decide) ha0 ha1 hb0 hb1 hc0 hc1 hs)
  have KGlobal := Aside0.mk (k_Global a b c s 30 (by decide) ha0 ha1 hb0 hb1 hc0 hc1 hs)
  have RGlobal := Aside0.mk (r_Global a b c s 30 (by decide) ha0 ha1 hb0 hb1 hc0 hc1 hs)
  have AW := Aside0.mk (awake_is 30 (Nat.le_refl _))
  have HB := Aside0.mk (Below.refl w.heap.size w)
  clear ha0 ha1 hb0 hb1 hc0 hc1 hs
  generalize ((⟨#[97]⟩ : ByteArray) ++ be8 a) = sInode at KInode RInode
  generalize (((⟨#[100]⟩ : ByteArray) ++ be8 a) ++ be8 b) = sData at KData RData
  generalize (((⟨#[101]⟩ : ByteArray) ++ be8 a) ++ s) = sEntry at KEntry REntry
  generalize (((⟨#[99]⟩ : ByteArray) ++ be8 a) ++ be8 b) = sCookie at KCookie RCookie
  generalize ((⟨#[108]⟩ : ByteArray) ++ be8 a) = sTarget at KTarget RTarget
  generalize ((⟨#[111]⟩ : ByteArray) ++ be8 a) = sOrphan at KOrphan ROrphan
  generalize (⟨#[115]⟩ : ByteArray) = sCounters at KCounters RCounters
  generalize ((⟨#[120]⟩ : ByteArray) ++ be4 c) = sExport at KExport RExport
  generalize (((⟨#[110]⟩ : ByteArray) ++ be4 c) ++ be8 a) = sSnap at KSnap RSnap
  generalize ((⟨#[112]⟩ : ByteArray) ++ be8 a) = sPend at KPend RPend
  generalize (((⟨#[114]⟩ : ByteArray) ++ be4 c) ++ be8 a) = sAnswer at KAnswer RAnswer
  generalize ((⟨#[104]⟩ : ByteArray) ++ be4 c) = sHigh at KHigh RHigh
  generalize (⟨#[103]⟩ : ByteArray) = sGlobal at KGlobal RGlobal
  go_enter Try.func8, Try.ntmps8
  go_wp2_with fail
  (with_reducible refine (key_Inode.calls _ _ _ _ KInode.out).mono ?_)
  rintro e w' ⟨rfl, hb⟩
  replace HB := Aside0.mk (below_then HB.out HB.out.size hb)
  clear hb
  clear KInode
  go_wp2_with fail
  (with_reducible refine (holtref12_Inode.calls _ _ _ _ RInode.out).mono ?_)
  rintro e w' ⟨rfl, hb⟩
  replace HB := Aside0.mk (below_then HB.out HB.out.size hb)
  clear hb
  clear RInode
  go_wp2_with fail
  (with_reducible refine (key_Data.calls _ _ _ _ _ KData.out).mono ?_)
  rintro e w' ⟨rfl, hb⟩
  replace HB := Aside0.mk (below_then HB.out HB.out.size hb)
  clear hb
  clear KData
  go_wp2_with fail
  (with_reducible refine (holtref12_Data.calls _ _ _ _ _ RData.out).mono ?_)
  rintro e w' ⟨rfl, hb⟩
  replace HB := Aside0.mk (below_then HB.out HB.out.size hb)
  clear hb
  clear RData
  go_wp2_with fail
  (with_reducible refine (key_Entry.calls _ _ _ _ _ KEntry.out).mono ?_)
  rintro e w' ⟨rfl, hb⟩
  replace HB := Aside0.mk (below_then HB.out HB.out.size hb)
  clear hb
  clear KEntry
  go_wp2_with fail
  (with_reducible refine (holtref12_Entry.calls _ _ _ _ _ REntry.out).mono ?_)
  rintro e w' ⟨rfl, hb⟩
  replace HB := Aside0.mk (below_then HB.out HB.out.size hb)
  clear hb
  clear REntry
  go_wp2_with fail
  (with_reducible refine (key_Cookie.calls _ _ _ _ _ KCookie.out).mono ?_)
  rintro e w' ⟨rfl, hb⟩
  replace HB := Aside0.mk (below_then HB.out HB.out.size hb)
  clear hb
  clear KCookie
  go_wp2_with fail
  (with_reducible refine (holtref12_Cookie.calls _ _ _ _ _ RCookie.out).mono ?_)
  rintro e w' ⟨rfl, hb⟩
  replace HB := Aside0.mk (below_then HB.out HB.out.size hb)
  clear hb
  clear RCookie
  go_wp2_with fail
  (with_reducible refine (key_Target.calls _ _ _ _ KTarget.out).mono ?_)
  rintro e w' ⟨rfl, hb⟩
  replace HB := Aside0.mk (below_then HB.out HB.out.size hb)
  clear hb
  clear KTarget
  go_wp2_with fail
  (with_reducible refine (holtref12_Target.calls _ _ _ _ RTarget.out).mono ?_)
  rintro e w' ⟨rfl, hb⟩
  replace HB := Aside0.mk (below_then HB.out HB.out.size hb)
  clear hb
  clear RTarget
  go_wp2_with fail
  (with_reducible refine (key_Orphan.calls _ _ _ _ KOrphan.out).mono ?_)
  rintro e w' ⟨rfl, hb⟩
  replace HB := Aside0.mk (below_then HB.out HB.out.size hb)
  clear hb
  clear KOrphan
  go_wp2_with fail
  (with_reducible refine (holtref12_Orphan.calls _ _ _ _ ROrphan.out).mono ?_)
  rintro e w' ⟨rfl, hb⟩
  replace HB := Aside0.mk (below_then HB.out HB.out.size hb)
  clear hb
  clear ROrphan
  go_wp2_with fail
  (with_reducible refine (key_Counters.calls _ _ KCounters.out).mono ?_)
  rintro e w' ⟨rfl, hd⟩
  replace HB := Aside0.mk (below_then HB.out HB.out.size hd.below)
  clear hd
  clear KCounters
  go_wp2_with fail
  (with_reducible refine (holtref12_Counters.calls _ _ RCounters.out).mono ?_)
  rintro e w' ⟨rfl, hd⟩
  replace HB := Aside0.mk (below_then HB.out HB.out.size hd.below)
  clear hd
  clear RCounters
  go_wp2_with fail
  (with_reducible refine (key_Export.calls _ _ _ _ KExport.out).mono ?_)
  rintro e w' ⟨rfl, hb⟩
  replace HB := Aside0.mk (below_then HB.out HB.out.size hb)
  clear hb
  clear KExport
  go_wp2_with fail
  (with_reducible refine (holtref12_Export.calls _ _ _ _ RExport.out).mono ?_)
  rintro e w' ⟨rfl, hb⟩
  replace HB := Aside0.mk (below_then HB.out HB.out.size hb)
  clear hb
  clear RExport
  go_wp2_with fail
  (with_reducible refine (key_Snap.calls _ _ _ _ _ KSnap.out).mono ?_)
  rintro e w' ⟨rfl, hb⟩
  replace HB := Aside0.mk (below_then HB.out HB.out.size hb)
  clear hb
  clear KSnap
  go_wp2_with fail
  (with_reducible refine (holtref12_Snap.calls _ _ _ _ _ RSnap.out).mono ?_)
  rintro e w' ⟨rfl, hb⟩
  replace HB := Aside0.mk (below_then HB.out HB.out.size hb)
  clear hb
  clear RSnap
  go_wp2_with fail
  (with_reducible refine (key_Pend.calls _ _ _ _ KPend.out).mono ?_)
  rintro e w' ⟨rfl, hb⟩
  replace HB := Aside0.mk (below_then HB.out HB.out.size hb)
  clear hb
  clear KPend
  go_wp2_with fail
  (with_reducible refine (holtref12_Pend.calls _ _ _ _ RPend.out).mono ?_)
  rintro e w' ⟨rfl, hb⟩
  replace HB := Aside0.mk (below_then HB.out HB.out.size hb)
  clear hb
  clear RPend
  go_wp2_with fail
  (with_reducible refine (key_Answer.calls _ _ _ _ _ KAnswer.out).mono ?_)
  rintro e w' ⟨rfl, hb⟩
  replace HB := Aside0.mk (below_then HB.out HB.out.size hb)
  clear hb
  clear KAnswer
  go_wp2_with fail
  (with_reducible refine (holtref12_Answer.calls _ _ _ _ _ RAnswer.out).mono ?_)
  rintro e w' ⟨rfl, hb⟩
  replace HB := Aside0.mk (below_then HB.out HB.out.size hb)
  clear hb
  clear RAnswer
  go_wp2_with fail
  (with_reducible refine (key_High.calls _ _ _ _ KHigh.out).mono ?_)
  rintro e w' ⟨rfl, hb⟩
  replace HB := Aside0.mk (below_then HB.out HB.out.size hb)
  clear hb
  clear KHigh
  go_wp2_with fail
  (with_reducible refine (holtref12_High.calls _ _ _ _ RHigh.out).mono ?_)
  rintro e w' ⟨rfl, hb⟩
  replace HB := Aside0.mk (below_then HB.out HB.out.size hb)
  clear hb
  clear RHigh
  go_wp2_with fail
  (with_reducible refine (key_Global.calls _ _ KGlobal.out).mono ?_)
  rintro e w' ⟨rfl, hd⟩
  replace HB := Aside0.mk (below_then HB.out HB.out.size hd.below)
  clear hd
  clear KGlobal
  go_wp2_with fail
  (with_reducible refine (holtref12_Global.calls _ _ RGlobal.out).mono ?_)
  rintro e w' ⟨rfl, hd⟩
  replace HB := Aside0.mk (below_then HB.out HB.out.size hd.below)
  clear hd
  clear RGlobal
  go_wp2_with fail
  (with_reducible refine (holtlaw12_awake.calls _ _ _ AW.out).mono ?_)
  rintro e w' ⟨rfl, hb⟩
  replace HB := Aside0.mk (below_then HB.out HB.out.size hb)
  clear hb
  go_wp2
  go_ret
  exact ⟨rfl, HB.out⟩
end Go.Proofs.Ytikekepiimaccaa.KeyT
namespace Go.Proofs.Ytikekepiimaccaa.Walk
open Go.RowKit Go.ChangeShapes Go.WideShapes Go.Proofs.Ytikekepiimaccaa.Kt Go.Proofs.Ytikekepiimaccaa.KeyT
open Go.ChangeMaps (open_string)
set_option maxRecDepth 100000 in
theorem KeyTexts {H : Type} {enc : TypeId × Value → H} (W : World) (base : Nat) (v0 : Value) (d0 : DataW H) (p0 : List MemPlace) (v1 : Value) (d1 : DataW H) (p1 : List MemPlace) (v2 : Value) (d2 : DataW H) (p2 : List MemPlace) (v3 : Value) (d3 : DataW H) (p3 : List MemPlace)
    (h0 : DataW.Trod enc Try.prog W 0 (fun _ => true) true 22 v0 d0 p0) (o0 : Value.okWide Try.prog W .any base 22 v0)
    (h1 : DataW.Trod enc Try.prog W 0 (fun _ => true) true 22 v1 d1 p1) (o1 : Value.okWide Try.prog W .any base 22 v1)
    (h2 : DataW.Trod enc Try.prog W 0 (fun _ => true) true 28 v2 d2 p2) (o2 : Value.okWide Try.prog W .any base 28 v2)
    (h3 : DataW.Trod enc Try.prog W 0 (fun _ => true) true 9 v3 d3 p3) (o3 : Value.okWide Try.prog W .any base 9 v3)
    (hsz : (DataW.weightsEach Try.prog [22, 22, 28, 9] [d0, d1, d2, d3]).all (· ≤ reachBytes) = true) :
    Calls Try.prog 8 #[v0, v1, v2, v3] W fun e w' => e = .returned (.bool true) ∧ Below W.heap.size W w' := by
  obtain ⟨a, rfl, rfl, rfl, w0⟩ := open_int Try.underlying22 o0 h0
  obtain ⟨b, rfl, rfl, rfl, w1⟩ := open_int Try.underlying22 o1 h1
  obtain ⟨c, rfl, rfl, rfl, w2⟩ := open_int Try.underlying28 o2 h2
  obtain ⟨s, rfl, rfl, rfl, y3⟩ := open_string Try.underlying9 o3 h3
  have w3 : s.size ≤ 140737488351232 := by
    have z := sized_string hsz (j := 3) (t := 9) rfl rfl
    rw [Array.length_toList] at z
    exact z
  have b0 := bounds_u64 w0
  have b1 := bounds_u64 w1
  have b2 := bounds_u32 w2
  exact KeyT.law a b c s (by omega) (by omega) (by omega) (by omega) (by omega) (by omega) w3 W
end Go.Proofs.Ytikekepiimaccaa.Walk

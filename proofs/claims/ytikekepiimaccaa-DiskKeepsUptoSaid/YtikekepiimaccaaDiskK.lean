/- Package disk, for DiskKeeps: what no write of the cache names stays; an image's parts. No conditions beyond those written. -/
import Derived.Test.YtikekepiimaccaaDiskF
set_option linter.unusedVariables false
set_option linter.unusedSimpArgs false
namespace Go.Proofs.Ytikekepiimaccaa.Dk
open Go Go.RowKit Go.Maps Go.Lib
theorem sec_untouched (pick torn cut : Int) (cache : List (Int × ByteArray)) (img : List Int) (h : AtsOk img.length cache) (b : Nat) (hb : ∀ p ∈ cache, p.1 ≠ (b : Int)) : ∀ i, sec (imgAt pick torn cut cache img i) b = sec img b
  | 0 => rfl
  | i + 1 => by
    have ih := sec_untouched pick torn cut cache img h b hb i
    cases hp : cache[i]? with
    | none => show sec (match cache[i]? with | some p => _ | none => _ : List Int) b = _; rw [hp]; exact ih
    | some p =>
      have hmem := List.mem_of_getElem? hp
      obtain ⟨h0, h1, h2⟩ := h p hmem
      have hl := imgAt_length pick torn cut cache img h i
      have hn := landed_len pick torn cut i p.2 h2
      have := landed_le pick torn cut i
      have hne := hb p hmem
      rw [imgAt_succ _ _ _ _ _ _ p hp, sec_splice _ _ _ _ (by omega) (by omega), if_neg (by omega), ih]
/-- part i of an image's text -/
theorem image_part (img : List Int) (i : Nat) (h : i * 64 + 64 ≤ img.length) : (strOfNums img).extract (i * 64) (i * 64 + 64) = strOfNums (sec img i) := by
  apply ByteArray.ext
  apply Array.ext'
  have e1 : (strOfNums img).data.toList = img.map fun n => UInt8.ofNat n.toNat := strOfNums_data _
  rw [strOfNums_data]
  simp only [ByteArray.data_extract, Array.toList_extract, List.extract_eq_take_drop, e1]
  unfold sec
  rw [List.map_take, List.map_drop, show i * 64 + 64 - i * 64 = 64 by omega]
end Go.Proofs.Ytikekepiimaccaa.Dk

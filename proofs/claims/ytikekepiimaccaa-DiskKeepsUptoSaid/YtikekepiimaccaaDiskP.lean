/- Package disk: what is read: plain laws. No conditions beyond those written. -/
import Derived.Test.YtikekepiimaccaaDiskD
set_option linter.unusedVariables false
set_option linter.unusedSimpArgs false
namespace Go.Proofs.Ytikekepiimaccaa.Dk
open Go Go.RowKit Go.Maps Go.Lib
def sec (img : List Int) (a : Nat) : List Int := (img.drop (a * 64)).take 64
theorem sec_at (img : List Int) (a j : Nat) (h : j < 64) : (sec img a)[j]? = img[a * 64 + j]? := by
  unfold sec; rw [List.getElem?_take, if_pos h, List.getElem?_drop]
theorem sec_past (img : List Int) (a j : Nat) (h : ¬ j < 64) : (sec img a)[j]? = none := by
  unfold sec; rw [List.getElem?_take, if_neg h]
theorem splice_at (l : List Int) (o : Nat) (bs : List Int) (h : o + bs.length ≤ l.length) (j : Nat) : (splice l o bs)[j]? = if j < o then l[j]? else if j < o + bs.length then bs[j - o]? else l[j]? := by
  unfold splice
  rw [List.append_assoc, List.getElem?_append, List.length_take, Nat.min_eq_left (by omega)]
  by_cases h1 : j < o
  · rw [if_pos h1, if_pos h1, List.getElem?_take, if_pos h1]
  · rw [if_neg h1, if_neg h1, List.getElem?_append]
    by_cases h2 : j < o + bs.length
    · rw [if_pos h2, if_pos (by omega)]
    · rw [if_neg h2, if_neg (by omega), List.getElem?_drop]
      congr 1; omega
theorem sec_splice (img : List Int) (a b : Nat) (bs : List Int) (hb : bs.length ≤ 64) (h : a * 64 + 64 ≤ img.length) : sec (splice img (a * 64) bs) b = if a = b then bs ++ (sec img a).drop bs.length else sec img b := by
  apply List.ext_getElem?
  intro j
  by_cases hj : j < 64
  · rw [sec_at _ _ _ hj, splice_at _ _ _ (by omega)]
    by_cases e : a = b
    · subst e
      rw [if_pos rfl, List.getElem?_append, if_neg (by omega)]
      by_cases h2 : j < bs.length
      · rw [if_pos (by omega), if_pos h2]; congr 1; omega
      · rw [if_neg (by omega), if_neg h2, List.getElem?_drop, sec_at _ _ _ (by omega)]; congr 1; omega
    · rw [if_neg e, sec_at _ _ _ hj]
      by_cases h1 : b * 64 + j < a * 64
      · rw [if_pos h1]
      · rw [if_neg h1, if_neg (by omega)]
  · rw [sec_past _ _ _ hj]
    by_cases e : a = b
    · rw [if_pos e, List.getElem?_append, if_neg (by omega), List.getElem?_drop, sec_past _ _ _ (by omega)]
    · rw [if_neg e, sec_past _ _ _ hj]
theorem sec_length (img : List Int) (a : Nat) (h : a * 64 + 64 ≤ img.length) : (sec img a).length = 64 := by
  unfold sec; rw [List.length_take, List.length_drop]; omega
theorem strOf_bytesOf (s : ByteArray) : strOfNums (bytesOf s) = s := by
  unfold strOfNums bytesOf
  apply ByteArray.ext
  apply Array.ext'
  show List.map _ (List.map _ s.data.toList) = s.data.toList
  rw [List.map_map]
  conv => rhs; rw [← List.map_id s.data.toList]
  congr 1
  funext b
  simp
theorem bytesOf_strOf (l : List Int) (h : ∀ b ∈ l, 0 ≤ b ∧ b < 256) : bytesOf (strOfNums l) = l := by
  unfold bytesOf
  rw [strOfNums_data, List.map_map]
  conv => rhs; rw [← List.map_id l]
  apply List.map_congr_left
  intro b hb
  have := h b hb
  simp only [Function.comp, UInt8.toNat_ofNat', id]
  omega
theorem readOf_nil (img : List Int) (a : Nat) : readOf img [] a = strOfNums (sec img a) := rfl
theorem readOf_snoc (img : List Int) (cache : List (Int × ByteArray)) (a : Nat) (s : ByteArray) (b : Nat) : readOf img (cache ++ [((a : Int), s)]) b = if a = b then s else readOf img cache b := by
  unfold readOf
  rw [lastIdx_snoc]
  by_cases e : a = b
  · rw [if_pos e, if_pos (by rw [e])]; simp
  · rw [if_neg e, if_neg (by show ¬ (a : Int) = (b : Int); omega)]
    cases hl : lastIdx cache (b : Int) with
    | none => rfl
    | some i =>
      have hi := (lastIdx_some hl).1
      simp [List.getElem?_append_left hi]
def AtsOk (n : Nat) (cache : List (Int × ByteArray)) : Prop := ∀ p ∈ cache, 0 ≤ p.1 ∧ p.1 * 64 + 64 ≤ (n : Int) ∧ p.2.size = 64
theorem imgAt_succ (pick torn cut : Int) (cache : List (Int × ByteArray)) (img : List Int) (i : Nat) (p : Int × ByteArray) (h : cache[i]? = some p) : imgAt pick torn cut cache img (i + 1) = splice (imgAt pick torn cut cache img i) (p.1.toNat * 64) ((bytesOf p.2).take (landed pick torn cut i)) := by
  show (match cache[i]? with | some p => _ | none => _) = _
  rw [h]
theorem landed_len (pick torn cut : Int) (i : Nat) (s : ByteArray) (hs : s.size = 64) : ((bytesOf s).take (landed pick torn cut i)).length = landed pick torn cut i := by
  rw [List.length_take, bytesOf_length, hs]; have := landed_le pick torn cut i; omega
theorem imgAt_length (pick torn cut : Int) (cache : List (Int × ByteArray)) (img : List Int) (h : AtsOk img.length cache) : ∀ i, (imgAt pick torn cut cache img i).length = img.length
  | 0 => rfl
  | i + 1 => by
    have ih := imgAt_length pick torn cut cache img h i
    cases hp : cache[i]? with
    | none => show (match cache[i]? with | some p => _ | none => _ : List Int).length = _; rw [hp]; exact ih
    | some p =>
      obtain ⟨h0, h1, h2⟩ := h p (List.mem_of_getElem? hp)
      have := landed_le pick torn cut i
      rw [imgAt_succ _ _ _ _ _ _ p hp, splice_length _ _ _ (by rw [landed_len _ _ _ _ _ h2, ih]; omega), ih]
theorem tst_all (i : Nat) : tst 18446744073709551615 i = true := by
  have key : ∀ k : Fin 64, (bits BinOp.and IntKind.u64 (18446744073709551615 / 2 ^ (k : Nat)) 1 == 1) = true := by decide +kernel
  exact key ⟨i % 64, Nat.mod_lt _ (by decide)⟩
theorem landed_all (cut : Int) (i : Nat) : landed 18446744073709551615 (-1) cut i = 64 := by
  unfold landed
  rw [if_neg (by omega), if_pos (tst_all i)]
/-- behind a flush every sector reads as before -/
theorem flush_reads_at (cut : Int) (cache : List (Int × ByteArray)) (img : List Int) (h : AtsOk img.length cache) (b : Nat) : ∀ i, i ≤ cache.length → readOf (imgAt 18446744073709551615 (-1) cut cache img i) [] b = readOf img (cache.take i) b
  | 0, _ => by rw [List.take_zero]; rfl
  | i + 1, hi => by
    have ih := flush_reads_at cut cache img h b i (by omega)
    have hp : cache[i]? = some cache[i] := List.getElem?_eq_getElem (by omega)
    generalize cache[i] = p at hp
    obtain ⟨h0, h1, h2⟩ := h p (List.mem_of_getElem? hp)
    obtain ⟨a, s⟩ := p
    obtain ⟨a, rfl⟩ := Int.eq_ofNat_of_zero_le h0
    have e1 : cache.take (i + 1) = cache.take i ++ [((a : Int), s)] := by rw [List.take_add_one, hp]; rfl
    have hl := imgAt_length 18446744073709551615 (-1) cut cache img h i
    simp only at h1 h2
    rw [e1, readOf_snoc, imgAt_succ _ _ _ _ _ _ _ hp, readOf_nil, landed_all, List.take_of_length_le (by rw [bytesOf_length, h2]; exact Nat.le_refl _)]
    show strOfNums (sec (splice _ (a * 64) (bytesOf s)) b) = _
    rw [sec_splice _ _ _ _ (by rw [bytesOf_length, h2]; exact Nat.le_refl _) (by rw [hl]; omega)]
    by_cases e : a = b
    · rw [if_pos e, if_pos e, bytesOf_length, h2, List.drop_of_length_le (by rw [sec_length _ _ (by rw [hl]; omega)]; exact Nat.le_refl _), List.append_nil, strOf_bytesOf]
    · rw [if_neg e, if_neg e, ← ih]; rfl
theorem flush_reads (cache : List (Int × ByteArray)) (img : List Int) (h : AtsOk img.length cache) (b : Nat) : readOf (flushed cache img) [] b = readOf img cache b := by
  have := flush_reads_at 0 cache img h b cache.length (Nat.le_refl _)
  rwa [List.take_length] at this
theorem flushed_length (cache : List (Int × ByteArray)) (img : List Int) (h : AtsOk img.length cache) : (flushed cache img).length = img.length := imgAt_length _ _ _ _ _ h _
theorem On.ats {W w : World} {g : Nat} {img : List Int} {cache : List (Int × ByteArray)} (h : On W w g img cache) : AtsOk img.length cache := by
  obtain ⟨⟨ib, bm, cv, n, D, h, _⟩, _⟩ := h
  exact h.ats
theorem IsDisk.rng {w : World} {g : Nat} {fp : Nat → Prop} {img : List Int} {cache : List (Int × ByteArray)} (h : IsDisk w g fp img cache) : ∀ b ∈ img, 0 ≤ b ∧ b < 256 := by
  obtain ⟨ib, bm, cv, n, D, h, _⟩ := h
  exact h.rng
theorem torn_read (pick : Int) (c : Nat) (hc : c ≤ 64) (img : List Int) (a : Nat) (new old : ByteArray) (hn : new.size = 64) (ho : old.size = 64) (ha : a * 64 + 64 ≤ img.length) (hr : readOf img [] a = old) :
    readOf (imgAt pick 0 (c : Int) [((a : Int), new)] img 1) [] a = new.extract 0 c ++ old.extract c 64 := by
  have hl : landed pick 0 (c : Int) 0 = c := by
    unfold landed
    rw [if_pos (show ((0 : Nat) : Int) = 0 from rfl)]; omega
  rw [imgAt_succ pick 0 (c : Int) [((a : Int), new)] img 0 ((a : Int), new) rfl, hl, readOf_nil]
  show strOfNums (sec (splice img (a * 64) ((bytesOf new).take c)) a) = _
  have hbl : ((bytesOf new).take c).length = c := by rw [List.length_take, bytesOf_length, hn]; omega
  rw [sec_splice _ _ _ _ (by omega) ha, if_pos rfl, hbl]
  rw [readOf_nil] at hr
  rw [← hr]
  apply ByteArray.ext
  apply Array.ext'
  have e1 : (strOfNums (sec img a)).data.toList = (sec img a).map fun n => UInt8.ofNat n.toNat := strOfNums_data _
  have e2 : (bytesOf new).map (fun n : Int => UInt8.ofNat n.toNat) = new.data.toList := by
    have := congrArg (fun z : ByteArray => z.data.toList) (strOf_bytesOf new)
    simpa [strOfNums] using this
  rw [strOfNums_data, List.map_append, List.map_take, List.map_drop, e2]
  have l1 : (sec img a).length = 64 := sec_length _ _ ha
  simp only [ByteArray.data_append, ByteArray.data_extract, Array.toList_append, Array.toList_extract, List.extract_eq_take_drop, List.drop_zero, Nat.sub_zero, e1]
  congr 1
  rw [List.take_of_length_le (by simp; omega)]
end Go.Proofs.Ytikekepiimaccaa.Dk

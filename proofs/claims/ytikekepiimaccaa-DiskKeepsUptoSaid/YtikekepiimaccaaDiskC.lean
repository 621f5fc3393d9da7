/- Package disk: Crash, Flush. Conditions: as in the statements. -/
import Derived.Test.YtikekepiimaccaaDiskB
import Derived.StillTailTactics
import Derived.LoopTactic
import Derived.Lib.BufferWrite
set_option linter.unusedVariables false
set_option linter.unusedSimpArgs false
namespace Go.Proofs.Ytikekepiimaccaa.Dk
open Go Go.RowKit Go.Maps Go.Lib Go.ChangeMaps Go.Proofs.Ytikekepiimaccaa.Sep Go.Proofs.YtikekepiimaccaaW.PrintWords Go.Proofs.YtikekepiimaccaaW.PrintLast
set_option maxRecDepth 100000 in
theorem info93 : (Try.prog.info? 5).map (·.size) = some 1 := by kernel_rfl
/-- a string's bytes -/
def bytesOf (s : ByteArray) : List Int := s.data.toList.map fun b => (b.toNat : Int)
theorem bytesOf_length (s : ByteArray) : (bytesOf s).length = s.size := by unfold bytesOf; rw [List.length_map]; exact (Lib.size_eq s).symm
def splice (l : List Int) (o : Nat) (bs : List Int) : List Int := l.take o ++ bs ++ l.drop (o + bs.length)
theorem splice_length (l : List Int) (o : Nat) (bs : List Int) (h : o + bs.length ≤ l.length) : (splice l o bs).length = l.length := by simp [splice]; omega
theorem run_copy_cut {P : Program} (w : World) (dT sT ty elem : TypeId) (g o dLen dCap : Nat) (s : ByteArray) (cur : Array Value) (t : TypeId)
    (hu : P.underlying dT = some (.slice elem)) (hs : (P.info? elem).map (·.size) = some 1) (hg : w.heap[g]? = some (.cells cur t (0, 0))) (hle : dLen ≤ s.size) (hfit : o + dLen ≤ cur.size) :
    (Builtin.copy_ #[dT, sT] ty #[.slice (some ⟨g, o, none⟩) dLen dCap, .string s]).run P w =
      .ok (goInt dLen) (w.setRow g (cur.toList.take o ++ byteCells (s.data.toList.take dLen) ++ cur.toList.drop (o + dLen)).toArray) := by
  have hlen : (byteCells (s.data.toList.take dLen)).length = dLen := by rw [byteCells_length, List.length_take, ← Lib.size_eq]; omega
  have hst := run_storeCells_at P g o t (byteCells (s.data.toList.take dLen)) 0 cur w hg (by rw [hlen]; simpa using hfit) (byteCells_one _)
  have hmin : Nat.min s.size dLen = dLen := Nat.min_eq_right hle
  have htk : List.take dLen (List.map (fun b : UInt8 => Value.int IntKind.u8 (b.toNat : Int)) s.data.toList) = byteCells (s.data.toList.take dLen) := by
    unfold byteCells; rw [List.map_take]
  rw [hlen] at hst
  simp only [Nat.add_zero] at hst
  cases hq : P.info? elem with
  | none => simp [hq] at hs
  | some i =>
    simp [Builtin.copy_, run_underlying hu, Builtin.lenOf, Builtin.firstCells, sizeOf, typeInfo, hq, hmin]
    rw [htk, hst]
    simp [Result.andThen]
theorem run_clear {P : Program} {w : World} {r : Nat} {mty kt et ty : TypeId} {es : Array MapEntry} {clock : Nat} (hm : P.underlying mty = some (.map kt et)) (hb : w.heap[r]? = some (.map es clock)) :
    (Builtin.clear_ #[mty] ty #[.map (some r)]).run P w = .ok (.tuple #[]) (setBlock w r (.map #[] clock)) := by
  simp [Builtin.clear_, run_underlying hm, MapKept.run_getObj_map hb, MapKept.run_setObj_map _ hb, Result.andThen, setBlock]
/-- the bit of write i -/
def tst (pick : Int) (i : Nat) : Bool := bits BinOp.and IntKind.u64 (pick / 2 ^ (i % 64)) 1 == 1
/-- how many bytes of write i come onto the device -/
def landed (pick torn cut : Int) (i : Nat) : Nat := if (i : Int) = torn then (min (max cut 0) 64).toNat else if tst pick i then 64 else 0
theorem landed_le (pick torn cut : Int) (i : Nat) : landed pick torn cut i ≤ 64 := by
  unfold landed
  split
  · omega
  · split <;> omega
/-- the device's bytes after i writes -/
def imgAt (pick torn cut : Int) (cache : List (Int × ByteArray)) (img : List Int) : Nat → List Int
  | 0 => img
  | i + 1 => match cache[i]? with
    | some p => splice (imgAt pick torn cut cache img i) (p.1.toNat * 64) ((bytesOf p.2).take (landed pick torn cut i))
    | none => imgAt pick torn cut cache img i
theorem still_tail {P : Program} {id : Nat} {Q : Exit → Act → World → Prop} {a : Act} {w : World} {l : List Oper} (n : Nat) (hm : P.follows .mixedOrders = true) (hB : Region.lexTailB .any l.toArray n = true)
    (h : wpStill P l.toArray w.drew (fun a' => wpList P l.toArray Q (l.drop n) a' w.drew) (l.take n) a) : (Code.region id l.toArray true).wp P Q a w := wp_region_still_tail n hm hB h
set_option maxHeartbeats 1000000 in
set_option maxRecDepth 100000 in
theorem crash_ok {g : Nat} {fp : Nat → Prop} {img : List Int} {cache : List (Int × ByteArray)} {w : World} (h : IsDisk w g fp img cache) (pick torn cut : Int) (h0 : 0 ≤ pick) :
    Calls Try.prog 42 #[.pointer (some ⟨g, 0, none⟩), .agg #[.int .u64 pick, .int .i64 torn, .int .i64 cut]] w fun e w' => e = .returned (.int .i64 0) ∧ IsDisk w' g fp (imgAt pick torn cut cache img cache.length) [] ∧ Turned fp w w' := by
  obtain ⟨ib, bm, cv, n, D, h, hf⟩ := h
  have HF := Aside0.mk hf
  have HD := Aside0.mk h
  obtain ⟨A0, cap, ecv⟩ := own_slice h.hr
  have hal : DiskAt (w.alloc (.cells #[.int .u64 pick, .int .i64 torn, .int .i64 cut] 65)) g ib bm cv n D img cache := h.keep fun i hi => Below.heap_alloc _ _ _ (h.lt i hi)
  have hfa := blk_new w (.cells #[.int .u64 pick, .int .i64 torn, .int .i64 cut] 65)
  have hsz : (w.alloc (.cells #[.int .u64 pick, .int .i64 torn, .int .i64 cut] 65)).heap.size = w.heap.size + 1 := by simp
  have hta := (Turned.refl fp w).alloc (.cells #[.int .u64 pick, .int .i64 torn, .int .i64 cut] 65)
  have x1 := (cell_of hal.hg 1).trans rfl
  have hcl : cache.length ≤ 9223372036854775807 := by have := h.many; omega
  subst ecv
  clear hf h
  go_enter Try.func42, Try.ntmps42
  go_wp2
  generalize w.alloc (.cells #[.int .u64 pick, .int .i64 torn, .int .i64 cut] 65) = w1 at hal hfa hsz hta ⊢
  clear x1
  go_loopw [15] (fun v15 w' => ∃ i : Nat, v15 = .int .i64 (i : Int) ∧ i ≤ cache.length ∧ DiskAt w' g ib bm (.slice A0 cache.length cap) n D (imgAt pick torn cut cache img i) cache ∧ w'.heap[w.heap.size]? = some (.cells #[.int .u64 pick, .int .i64 torn, .int .i64 cut] 65 (0, 0)) ∧ Turned fp w w') (fun v15 _ => cache.length + 1 - (intOf v15).toNat)
  · exact ⟨0, rfl, Nat.zero_le _, hal, hfa, hta⟩
  · obtain ⟨i, rfl, hi, hd, hfa, ht⟩ := hrel
    clear hal hsz hta
    by_cases hlt : i < cache.length
    · have c1 : decide ((i : Int) < (cache.length : Int)) = true := decide_eq_true (by omega)
      obtain ⟨p, hp⟩ : ∃ p, cache[i]? = some p := ⟨_, List.getElem?_eq_getElem hlt⟩
      obtain ⟨cb, cap', ecv, k1, k2, k3, k4⟩ := hd.cache_at i p hp
      obtain ⟨ba, bs⟩ := p
      injection ecv with e1 _ e2
      subst e1 e2
      have H1 := Lib.hid hlt
      have H2 := Lib.hid hp
      have H3 := Lib.hid hi
      unfold maxLen at k2
      have k5 : (i : Int) < (cache.length : Int) := by omega
      clear hlt hp hi
      have hd2 : DiskAt (wr.alloc (.cells #[.int .i64 ba, .string bs] 163)) g ib bm (.slice (some ⟨cb, 0, none⟩) cache.length cap) n D (imgAt pick torn cut cache img i) cache := hd.keep fun i hi => Below.heap_alloc _ _ _ (hd.lt i hi)
      have hfa2 : (wr.alloc (.cells #[.int .i64 ba, .string bs] 163)).heap[w.heap.size]? = _ := (Below.heap_alloc _ _ _ (here_lt hfa)).trans hfa
      have hw2 := blk_new wr (.cells #[.int .i64 ba, .string bs] 163)
      have ht2 := ht.alloc (.cells #[.int .i64 ba, .string bs] 163)
      have f0 := (cell_of hfa2 0).trans rfl
      have f1 := (cell_of hfa2 1).trans rfl
      have f2 := (cell_of hfa2 2).trans rfl
      have HD2 := Aside0.mk hd2
      have HF2 := Aside0.mk hfa2
      have HW2 := Aside0.mk hw2
      have HT2 := Aside0.mk ht2
      clear hfa hfa2 hw2 ht2 hd hd2 ht
      have hat := HD2.out.ats (ba, bs) (List.mem_of_getElem? H2.out)
      have hlen := HD2.out.len
      obtain ⟨a, rfl⟩ := Int.eq_ofNat_of_zero_le hat.1
      obtain ⟨m, hm, hml, hcase⟩ : ∃ m : Nat, landed pick torn cut i = m ∧ m ≤ 64 ∧ (((i : Int) = torn ∧ cut < 0 ∧ m = 0) ∨ ((i : Int) = torn ∧ 0 ≤ cut ∧ cut ≤ 64 ∧ cut = m) ∨ ((i : Int) = torn ∧ 64 < cut ∧ m = 64) ∨ ((i : Int) ≠ torn ∧ tst pick i = true ∧ m = 64) ∨ ((i : Int) ≠ torn ∧ tst pick i = false ∧ m = 0)) := by
        refine ⟨_, rfl, landed_le _ _ _ _, ?_⟩
        unfold landed
        by_cases e : (i : Int) = torn
        · rw [if_pos e]; omega
        · rw [if_neg e]
          cases htst : tst pick i <;> simp [e]
      have hil : a * 64 + 64 ≤ (imgAt pick torn cut cache img i).length := by have := hat.2.1; simp only at this; omega
      obtain ⟨w2, hw2⟩ : ∃ w2, w2 = (wr.alloc (.cells #[.int .i64 (a : Int), .string bs] 163)).drew := ⟨_, rfl⟩
      have HD3 : DiskAt w2 g ib bm (.slice (some ⟨cb, 0, none⟩) cache.length cap) n D (imgAt pick torn cut cache img i) cache := by rw [hw2]; exact HD2.out.keep fun _ _ => rfl
      have HF3 : w2.heap[w.heap.size]? = some (.cells #[.int .u64 pick, .int .i64 torn, .int .i64 cut] 65 (0, 0)) := by rw [hw2]; exact HF2.out
      have HT3 : Turned fp w w2 := by rw [hw2]; exact HT2.out.drew
      have HW3 : w2.heap[wr.heap.size]? = some (.cells #[.int .i64 (a : Int), .string bs] 163 (0, 0)) := by rw [hw2]; exact HW2.out
      have HS := (sector_ok HD3 a hil).mono (R' := fun e w'' => e = .returned (.slice (some ⟨ib, a * 64, none⟩) 64 ((imgAt pick torn cut cache img i).length - a * 64)) ∧ w'' = w2) (fun e w'' h => ⟨h.1, h.2.symm⟩)
      have hcopy := fun ty => run_copy_cut (P := Try.prog) w2 148 9 ty 5 ib (a * 64) m ((imgAt pick torn cut cache img i).length - a * 64) bs _ 5 Try.underlying148 info93 HD3.hi (by rw [hat.2.2]; exact hml) (by simp; omega)
      have hcells : ((List.map (Value.int IntKind.u8) (imgAt pick torn cut cache img i)).toArray.toList.take (a * 64) ++ byteCells (bs.data.toList.take m) ++ (List.map (Value.int IntKind.u8) (imgAt pick torn cut cache img i)).toArray.toList.drop (a * 64 + m)).toArray = ((imgAt pick torn cut cache img (i + 1)).map (Value.int .u8)).toArray := by
        have e : imgAt pick torn cut cache img (i + 1) = splice (imgAt pick torn cut cache img i) (a * 64) ((bytesOf bs).take m) := by
          show (match cache[i]? with | some p => _ | none => _) = _
          rw [H2.out, hm]; rfl
        rw [e]
        have hbl : ((bytesOf bs).take m).length = m := by rw [List.length_take, bytesOf_length, hat.2.2]; omega
        unfold splice
        rw [hbl]
        simp only [byteCells, bytesOf, List.map_append, List.map_take, List.map_drop, List.map_map]
        rfl
      rw [hcells] at hcopy
      have hbn : ∀ j, j ≠ ib → (w2.setRow ib ((imgAt pick torn cut cache img (i + 1)).map (Value.int .u8)).toArray).heap[j]? = w2.heap[j]? := fun j hj => setRow_other _ _ _ _ hj
      have himg1 : (imgAt pick torn cut cache img (i + 1)).length = (imgAt pick torn cut cache img i).length ∧ ∀ b ∈ imgAt pick torn cut cache img (i + 1), 0 ≤ b ∧ b < 256 := by
        have e : imgAt pick torn cut cache img (i + 1) = splice (imgAt pick torn cut cache img i) (a * 64) ((bytesOf bs).take m) := by
          show (match cache[i]? with | some p => _ | none => _) = _
          rw [H2.out, hm]; rfl
        rw [e]
        refine ⟨splice_length _ _ _ (by rw [List.length_take]; omega), ?_⟩
        intro b hb
        unfold splice at hb
        rcases List.mem_append.1 hb with hb | hb
        · rcases List.mem_append.1 hb with hb | hb
          · exact HD3.rng b (List.mem_of_mem_take hb)
          · have := List.mem_of_mem_take hb
            unfold bytesOf at this
            obtain ⟨c, _, rfl⟩ := List.mem_map.1 this
            have := c.toNat_lt
            omega
        · exact HD3.rng b (List.mem_of_mem_drop hb)
      have hnew : DiskAt (w2.setRow ib ((imgAt pick torn cut cache img (i + 1)).map (Value.int .u8)).toArray) g ib bm (.slice (some ⟨cb, 0, none⟩) cache.length cap) n D (imgAt pick torn cut cache img (i + 1)) cache :=
        { hg := by rw [himg1.1]; exact (hbn g HD3.ne1).trans HD3.hg
          hi := setRow_heap _ _ _ _ _ _ HD3.hi
          hr := own_keep HD3.hr fun k hk => hbn k (HD3.ne4 k hk).2.1
          hm := map_keep HD3.hm (hbn bm (Ne.symm HD3.ne3))
          hn := HD3.hn
          hl := HD3.hl
          rng := himg1.2
          len := by rw [himg1.1]; exact HD3.len
          many := HD3.many
          ats := by rw [himg1.1]; exact HD3.ats
          ne1 := HD3.ne1
          ne2 := HD3.ne2
          ne3 := HD3.ne3
          ne4 := HD3.ne4 }
      have hfnew : (w2.setRow ib ((imgAt pick torn cut cache img (i + 1)).map (Value.int .u8)).toArray).heap[w.heap.size]? = some (.cells #[.int .u64 pick, .int .i64 torn, .int .i64 cut] 65 (0, 0)) := (hbn _ (by have := here_lt HD.out.hi; omega)).trans HF3
      have htnew : Turned fp w (w2.setRow ib ((imgAt pick torn cut cache img (i + 1)).map (Value.int .u8)).toArray) :=
        HT3.trans (fp' := fun j => j = ib) ⟨rfl, rfl, rfl, by simp [World.setRow], fun j _ hn => hbn j hn⟩ (fun j _ hj => HF.out j (.inr (.inl hj)))
      have g0 := (cell_of HW3 0).trans rfl
      have g1 := (cell_of HW3 1).trans rfl
      have k6 : (64 : Int) ≤ ((((imgAt pick torn cut cache img i).length - a * 64 : Nat)) : Int) := by omega
      have k7 : (m : Int) ≤ ((((imgAt pick torn cut cache img i).length - a * 64 : Nat)) : Int) := by omega
      have k8 : ((m : Int) < 0) = False := by simp
      have HN := Aside0.mk hnew
      have HFN := Aside0.mk hfnew
      have HTN := Aside0.mk htnew
      have HH := Aside0.mk HS
      have HC := Aside0.mk hcopy
      have HE := Aside0.mk hw2
      clear hnew hfnew htnew hcells hm hat HS hcopy HD3 HF3 HT3 HW3 hw2 himg1 hbn
      rcases hcase with ⟨ht, hq, rfl⟩ | ⟨ht, hq, hq2, rfl⟩ | ⟨ht, hq, rfl⟩ | ⟨ht, hq, rfl⟩ | ⟨ht, hq, rfl⟩
      · have c2 : ((i : Int) == torn) = true := by simpa using ht
        clear ht
        go_wp2
        refine still_tail 8 (by kernel_rfl) (by kernel_rfl) ?_
        rw [← HE.out]
        simp only [List.take_succ_cons, List.take_zero, List.drop_succ_cons, List.drop_zero]
        repeat still_step
        still_call HH.out
        repeat still_step
        refine wpStill_nil ?_
        have hc := HC.out
        go_wp2
        go_roundw
        case measure => have := H1.out; simp [intOf]; omega
        case rel => exact ⟨i + 1, rfl, H1.out, HN.out, HFN.out, HTN.out⟩
      · have c2 : ((i : Int) == torn) = true := by simpa using ht
        clear ht
        go_wp2
        refine still_tail 8 (by kernel_rfl) (by kernel_rfl) ?_
        rw [← HE.out]
        simp only [List.take_succ_cons, List.take_zero, List.drop_succ_cons, List.drop_zero]
        repeat still_step
        still_call HH.out
        repeat still_step
        refine wpStill_nil ?_
        have hc := HC.out
        go_wp2
        go_roundw
        case measure => have := H1.out; simp [intOf]; omega
        case rel => exact ⟨i + 1, rfl, H1.out, HN.out, HFN.out, HTN.out⟩
      · have c2 : ((i : Int) == torn) = true := by simpa using ht
        clear ht
        go_wp2
        refine still_tail 8 (by kernel_rfl) (by kernel_rfl) ?_
        rw [← HE.out]
        simp only [List.take_succ_cons, List.take_zero, List.drop_succ_cons, List.drop_zero]
        repeat still_step
        still_call HH.out
        repeat still_step
        refine wpStill_nil ?_
        have hc := HC.out
        go_wp2
        go_roundw
        case measure => have := H1.out; simp [intOf]; omega
        case rel => exact ⟨i + 1, rfl, H1.out, HN.out, HFN.out, HTN.out⟩
      · have c2 : ((i : Int) == torn) = false := by simpa using ht
        have c3 : (bits BinOp.and IntKind.u64 (pick / 2 ^ (i % 64)) 1 == 1) = true := hq
        clear ht
        go_wp2
        refine still_tail 8 (by kernel_rfl) (by kernel_rfl) ?_
        rw [← HE.out]
        simp only [List.take_succ_cons, List.take_zero, List.drop_succ_cons, List.drop_zero]
        repeat still_step
        still_call HH.out
        repeat still_step
        refine wpStill_nil ?_
        have hc := HC.out
        go_wp2
        go_roundw
        case measure => have := H1.out; simp [intOf]; omega
        case rel => exact ⟨i + 1, rfl, H1.out, HN.out, HFN.out, HTN.out⟩
      · have c2 : ((i : Int) == torn) = false := by simpa using ht
        have c3 : (bits BinOp.and IntKind.u64 (pick / 2 ^ (i % 64)) 1 == 1) = false := hq
        clear ht
        go_wp2
        refine still_tail 8 (by kernel_rfl) (by kernel_rfl) ?_
        rw [← HE.out]
        simp only [List.take_succ_cons, List.take_zero, List.drop_succ_cons, List.drop_zero]
        repeat still_step
        still_call HH.out
        repeat still_step
        refine wpStill_nil ?_
        have hc := HC.out
        go_wp2
        go_roundw
        case measure => have := H1.out; simp [intOf]; omega
        case rel => exact ⟨i + 1, rfl, H1.out, HN.out, HFN.out, HTN.out⟩
    · have c1 : decide ((i : Int) < (cache.length : Int)) = false := decide_eq_false (by omega)
      obtain rfl : i = cache.length := by omega
      obtain ⟨es, clock, hb, F, hstamp, hD⟩ := hd.hm
      have x1 := (cell_of hd.hg 1).trans rfl
      have fz := frozen_of hd.hg 1
      have hb5 : (wr.setCell ⟨g, 1, none⟩ (.slice none 0 0)).heap[bm]? = some (.map es clock) := (Below.heap_setCell _ _ _ _ (Ne.symm hd.ne2)).trans hb
      have hg5 := block_set hd.hg 1 (.slice none 0 0)
      have x2 := (cell_of hg5 2).trans rfl
      have hclr := fun ty => run_clear (P := Try.prog) (ty := ty) Try.underlying153 hb5
      have HD4 := Aside0.mk hd
      have HT4 := Aside0.mk ht
      have HG5 := Aside0.mk hg5
      have HB5 := Aside0.mk hb5
      clear hd ht hfa hb F hstamp hD hg5 hb5
      go_wp2
      go_ret
      have hd := HD4.out
      have hbg : ∀ j, j ≠ g → j ≠ bm → (setBlock (wr.setCell ⟨g, 1, none⟩ (.slice none 0 0)) bm (.map #[] clock)).heap[j]? = wr.heap[j]? := fun j h1 h2 => ((MapKept.heap_set HB5.out).2 j h2).trans (Below.heap_setCell _ _ _ _ h1)
      refine ⟨rfl, ⟨ib, bm, .slice none 0 0, 0, .map [], { hg := ((MapKept.heap_set HB5.out).2 g hd.ne2).trans HG5.out, hi := (hbg ib (Ne.symm hd.ne1) hd.ne3).trans hd.hi, hr := ⟨rfl, .inl ⟨rfl, rfl⟩⟩, hm := ⟨#[], clock, (MapKept.heap_set HB5.out).1, ⟨by simp, MapKept.stamped_empty clock, by simp⟩, Nat.le_refl _, rfl⟩, hn := Nat.le_refl _, hl := lastOk_nil, rng := hd.rng, len := hd.len, many := by simp, ats := by simp, ne1 := hd.ne1, ne2 := hd.ne2, ne3 := hd.ne3, ne4 := fun k h => by cases h }, ?_⟩, ?_⟩
      · rintro j (rfl | rfl | rfl | h)
        · exact HF.out _ (.inl rfl)
        · exact HF.out _ (.inr (.inl rfl))
        · exact HF.out _ (.inr (.inr (.inl rfl)))
        · cases h
      · refine HT4.out.trans (fp' := fun j => j = g ∨ j = bm) ⟨rfl, rfl, rfl, by simp [setBlock, World.setCell], fun j _ hn => hbg j (fun e => hn (.inl e)) (fun e => hn (.inr e))⟩ ?_
        rintro j _ (rfl | rfl)
        · exact HF.out _ (.inl rfl)
        · exact HF.out _ (.inr (.inr (.inl rfl)))
end Go.Proofs.Ytikekepiimaccaa.Dk

/- A device beside a map of the last writes: for DiskReads. Conditions: as in the statements. -/
import Derived.Test.YtikekepiimaccaaDiskP
import Derived.ChangeSlices
set_option linter.unusedVariables false
set_option linter.unusedSimpArgs false
namespace Go.Proofs.Ytikekepiimaccaa.Dk
open Go Go.RowKit Go.Maps Go.Lib Go.ChangeShapes Go.WideShapes Go.Proofs.Ytikekepiimaccaa.Sep
set_option maxRecDepth 100000 in
theorem zeroU8 (w : World) : (zeroValue 5).run Try.prog w = .ok (.int .u8 0) w := by kernel_rfl
/-- a device whose sectors read as lv says, beside block mb -/
def Rd (W w : World) (mb g : Nat) (lv : Nat → Int) (m : Nat) : Prop := ∃ img cache, IsDisk w g (fun k => W.heap.size ≤ k ∧ k ≠ mb) img cache ∧ img.length = 512 ∧ cache.length ≤ m ∧ (∀ b, b < 8 → readOf img cache b = secStr (lv b)) ∧ Below W.heap.size W w ∧ W.heap.size ≤ mb ∧ mb < w.heap.size
/-- the map of the last writes -/
def Mp (w : World) (mb n : Nat) (lv : Nat → Int) : Prop := ∃ D : DataW Unit, w.ownsMap Try.prog 3 (plainElem Try.prog 5) mb n D ∧ ∀ b : Nat, b < 8 → 0 ≤ lv b ∧ lv b < 256 ∧ D.atKey (.int .i64 (b : Int)) (.lit (.int .u8 0)) = .lit (.int .u8 (lv b))
def upd (lv : Nat → Int) (a : Nat) (c : Int) (b : Nat) : Int := if a = b then c else lv b
theorem Rd.bel {W w : World} {mb g m : Nat} {lv : Nat → Int} (h : Rd W w mb g lv m) : Below W.heap.size W w := by
  obtain ⟨_, _, _, _, _, _, hb, _⟩ := h; exact hb
theorem Rd.mb_lt {W w : World} {mb g m : Nat} {lv : Nat → Int} (h : Rd W w mb g lv m) : mb < w.heap.size := by
  obtain ⟨_, _, _, _, _, _, _, _, hb⟩ := h; exact hb
theorem Rd.mb_le {W w : World} {mb g m : Nat} {lv : Nat → Int} (h : Rd W w mb g lv m) : W.heap.size ≤ mb := by
  obtain ⟨_, _, _, _, _, _, _, hb, _⟩ := h; exact hb
theorem bel_of {W w w' : World} (h : Below W.heap.size W w) (hb : Below w.heap.size w w') : Below W.heap.size W w' := h.trans (hb.mono h.size)
theorem Rd.later {W w w' : World} {mb g m : Nat} {lv : Nat → Int} (h : Rd W w mb g lv m) (hb : Below w.heap.size w w') : Rd W w' mb g lv m := by
  obtain ⟨img, cache, hd, h1, h2, h3, h4, h5, h6⟩ := h
  exact ⟨img, cache, hd.later hb, h1, h2, h3, bel_of h4 hb, h5, Nat.lt_of_lt_of_le h6 hb.size⟩
theorem Rd.more {W w : World} {mb g m m' : Nat} {lv : Nat → Int} (h : Rd W w mb g lv m) (hm : m ≤ m') : Rd W w mb g lv m' := by
  obtain ⟨img, cache, hd, h1, h2, h3, h4⟩ := h
  exact ⟨img, cache, hd, h1, Nat.le_trans h2 hm, h3, h4⟩
theorem Rd.map {W w w' : World} {mb g m : Nat} {lv : Nat → Int} (h : Rd W w mb g lv m) (hg : w.grownBy w' (some mb)) : Rd W w' mb g lv m := by
  obtain ⟨img, cache, hd, h1, h2, h3, h4, h5, h6⟩ := h
  have ht := (Turned.refl (fun k => k = mb) w).grown hg (fun k hk => .inl (Option.some.inj hk).symm)
  refine ⟨img, cache, hd.keep ht (fun i _ hi => hi.2), h1, h2, h3, h4.trans (ht.below h4.size (fun i hi => hi ▸ h5)), h5, Nat.lt_of_lt_of_le h6 hg.size⟩
theorem Mp.keep {w w' : World} {mb n : Nat} {lv : Nat → Int} (h : Mp w mb n lv) (hm : w'.heap[mb]? = w.heap[mb]?) : Mp w' mb n lv := by
  obtain ⟨D, h, hD⟩ := h
  exact ⟨D, map_keep h hm, hD⟩
theorem Mp.later {w w' : World} {mb n : Nat} {lv : Nat → Int} (h : Mp w mb n lv) (hb : Below w.heap.size w w') : Mp w' mb n lv := by
  obtain ⟨D, h, hD⟩ := h
  exact ⟨D, map_keep h (hb.block _ h.lt), hD⟩
theorem rd_write {W w : World} {mb g m : Nat} {lv : Nat → Int} (h : Rd W w mb g lv m) (a : Nat) (ha : a < 8) (c : Int) (hm : m < 1000) :
    Calls Try.prog 38 #[.pointer (some ⟨g, 0, none⟩), .int .i64 (a : Int), .string (secStr c)] w fun e w' => e = .returned (.int .i64 0) ∧ Rd W w' mb g (upd lv a c) (m + 1) ∧ w'.heap[mb]? = w.heap[mb]? := by
  obtain ⟨img, cache, hd, h1, h2, h3, h4, h5, h6⟩ := h
  refine (write_ok hd a (by omega) _ (secStr_size c) (by omega)).mono ?_
  rintro e w' ⟨rfl, hd', ht⟩
  refine ⟨rfl, ⟨img, _, hd'.mono (fun i _ hi => hi.elim id (fun hi => ⟨Nat.le_trans h4.size hi, by omega⟩)), h1, by simp; omega, ?_, h4.trans (ht.below h4.size (fun i hi => hi.1)), h5, Nat.lt_of_lt_of_le h6 ht.size⟩, ht.block mb h6 (fun hi => hi.2 rfl)⟩
  intro b hb
  rw [readOf_snoc]
  unfold upd
  by_cases e : a = b
  · rw [if_pos e, if_pos e]
  · rw [if_neg e, if_neg e, h3 b hb]
theorem IsDisk.ats {w : World} {g : Nat} {fp : Nat → Prop} {img : List Int} {cache : List (Int × ByteArray)} (h : IsDisk w g fp img cache) : AtsOk img.length cache := by
  obtain ⟨ib, bm, cv, n, D, h, _⟩ := h
  exact h.ats
theorem rd_flush {W w : World} {mb g m : Nat} {lv : Nat → Int} (h : Rd W w mb g lv m) :
    Calls Try.prog 40 #[.pointer (some ⟨g, 0, none⟩)] w fun e w' => e = .returned (.int .i64 0) ∧ Rd W w' mb g lv m ∧ w'.heap[mb]? = w.heap[mb]? := by
  obtain ⟨img, cache, hd, h1, h2, h3, h4, h5, h6⟩ := h
  refine (flush_ok hd).mono ?_
  rintro e w' ⟨rfl, hd', ht⟩
  exact ⟨rfl, ⟨_, [], hd', by rw [flushed_length _ _ hd.ats, h1], Nat.zero_le _, fun b hb => by rw [flush_reads _ _ hd.ats, h3 b hb], h4.trans (ht.below h4.size (fun i hi => hi.1)), h5, Nat.lt_of_lt_of_le h6 ht.size⟩, ht.block mb h6 (fun hi => hi.2 rfl)⟩
theorem rd_read {W w : World} {mb g m : Nat} {lv : Nat → Int} (h : Rd W w mb g lv m) (a : Nat) (ha : a < 8) :
    Calls Try.prog 100 #[.pointer (some ⟨g, 0, none⟩), .int .i64 (a : Int)] w fun e w' => e = .returned (.tuple #[.string (secStr (lv a)), .int .i64 0]) ∧ w = w' := by
  obtain ⟨img, cache, hd, h1, h2, h3, h4, h5, h6⟩ := h
  have := read_ok hd a (by omega)
  rwa [h3 a ha] at this
set_option maxRecDepth 100000 in
theorem mp_look {w : World} {mb n : Nat} {lv : Nat → Int} (h : Mp w mb n lv) (b : Nat) (hb : b < 8) :
    (Instr.lookup 70 (.map (some mb)) (.int .i64 (b : Int)) false).run Try.prog w = .ok (.int .u8 (lv b)) w := by
  obtain ⟨D, h, hD⟩ := h
  have hkey : keyOf Try.prog 3 (.int .i64 (b : Int)) = some (.int .i64 (b : Int)) := keyOf_int_mk Try.underlying3 (WalkArith.wf_i64 (by omega))
  obtain ⟨c, hrun, hat, _⟩ := h.lookup_int law Try.underlying70 Try.underlying5 (zeroU8 w) hkey
  have := (hD b hb).2.2
  rw [hat] at this
  rw [hrun]
  injection this with h1
  injection h1 with _ h2
  rw [h2]
set_option maxRecDepth 100000 in
theorem mp_put {w : World} {mb n : Nat} {lv : Nat → Int} (h : Mp w mb n lv) (hn : n < 1000) (a : Nat) (ha : a < 8) (c : Int) (h0 : 0 ≤ c) (h1 : c < 256) :
    ∃ w', (Instr.mapUpdate 70 (.map (some mb)) (.int .i64 (a : Int)) (.int .u8 c)).run Try.prog w = .ok () w' ∧ Mp w' mb (n + 1) (upd lv a c) ∧ w.grownBy w' (some mb) := by
  obtain ⟨D, h, hD⟩ := h
  have hkey : keyOf Try.prog 3 (.int .i64 (a : Int)) = some (.int .i64 (a : Int)) := keyOf_int_mk Try.underlying3 (WalkArith.wf_i64 (by omega))
  obtain ⟨w', hrun, ho, hg⟩ := h.update law Try.underlying70 (by unfold maxLen; omega) hkey (plainElem_int Try.underlying5 (WalkArith.wf_u8 (n := c) (by omega)))
  refine ⟨w', hrun, ⟨_, ho, ?_⟩, hg⟩
  intro b hb
  unfold upd
  by_cases e : a = b
  · subst e
    rw [if_pos rfl]
    have hk : WideAt.IsKeyLit (.int .i64 (a : Int)) := trivial
    exact ⟨h0, h1, atKey_put_same h.isMap hk _ _⟩
  · rw [if_neg e]
    obtain ⟨q1, q2, q3⟩ := hD b hb
    exact ⟨q1, q2, by rw [atKey_put_other (by intro h; injection h with _ h; omega)]; exact q3⟩
theorem mp_rng {w : World} {mb n : Nat} {lv : Nat → Int} (h : Mp w mb n lv) (b : Nat) (hb : b < 8) : 0 ≤ lv b ∧ lv b < 256 := by
  obtain ⟨D, h, hD⟩ := h
  exact ⟨(hD b hb).1, (hD b hb).2.1⟩
theorem upd_same (lv : Nat → Int) (a : Nat) (c : Int) : upd lv a c a = c := if_pos rfl
/-- a list of whole numbers that came in -/
theorem open_nums {H : Type} {enc : TypeId × Value → H} {P : Program} {W : World} {base : Nat} {t e : TypeId} {v : Value} {d : DataW H} {p : List MemPlace} (ht : P.underlying t = some (.slice e)) (he : P.underlying e = some (.int .i64)) (hc : P.cellsOf e = 1)
    (h : DataW.Trod enc P W 0 (fun _ => true) true t v d p) (o : Value.okWide P W .any base t v) :
    ∃ (A : Option Addr) (l c : Nat) (xs : List Int), v = .slice A l c ∧ xs.length = l ∧ l ≤ maxLen ∧ (∀ x ∈ xs, (Lit.int .i64 x).wf = true) ∧ ∀ i, i < l → ∃ a, A = some a ∧ (a.add i).block < W.heap.size ∧ W.cell? (a.add i) = some (.int .i64 (xs.getD i 0)) := by
  obtain ⟨A, l, c, rfl⟩ := okWide_slice ht o
  obtain ⟨fuel, hf⟩ := h
  rcases open_ints ht he hc hf with ⟨hcs, _⟩ | ⟨a, len, cap, zs, hcs, _, hl, hm, hz, _, hcell, hw⟩
  · simp [Value.cells] at hcs
    obtain ⟨rfl, rfl, rfl⟩ := hcs
    exact ⟨none, 0, 0, [], rfl, rfl, Nat.zero_le _, by simp, fun i hi => by omega⟩
  · simp [Value.cells] at hcs
    obtain ⟨rfl, rfl, rfl⟩ := hcs
    have hz' : zs.length = c := by simpa using hz
    refine ⟨some a, l, c, zs.take l, rfl, by rw [List.length_take]; omega, by omega, fun x hx => hw x (List.mem_of_mem_take hx), fun i hi => ⟨a, rfl, ?_, ?_⟩⟩
    · exact World.block_lt_of_cell? W _ (hcell i (by omega))
    · rw [hcell i (by omega)]
      congr 2
      simp [List.getD_eq_getElem?_getD, List.getElem?_take, hi]
end Go.Proofs.Ytikekepiimaccaa.Dk

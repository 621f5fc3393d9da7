/- Package disk: what a device is in memory, and the contracts of its small functions. Conditions: as in the statements. -/
import Derived.Test.YtikekepiimaccaaProg
import Derived.Test.YtikekepiimaccaaSep
import Derived.Test.YtikekepiimaccaaX0
import Derived.Test.YtikekepiimaccaaWWords
import Derived.Test.YtikekepiimaccaaWLast
import Derived.Test.YtikekepiimaccaaWMore
import Derived.KernelRfl
import Derived.Maps.OwnOps
import Derived.RowKit3
import Derived.Deep.QuietTactic
import Derived.BigQuiet
import Derived.WalkLawsBesides
import Derived.WalkSpells
import Derived.Lib.Hide
set_option linter.unusedVariables false
set_option linter.unusedSimpArgs false
namespace Go.Proofs.Ytikekepiimaccaa.Dk
open Go Go.RowKit Go.Maps Go.Proofs.Ytikekepiimaccaa.Sep Go.Proofs.YtikekepiimaccaaW.PrintWords Go.Proofs.YtikekepiimaccaaW.PrintLast

theorem law : Keyed Try.prog 3 := int_keyed Try.underlying3
theorem zeroE (w : World) : (zeroValue 3).run Try.prog w = .ok (.int .i64 0) w := by kernel_rfl
theorem infoU8 : (Try.prog.info? 5).map (fun i => (i.zero, i.size, i.bytes)) = some (some (.int .u8 0), 1, 1) := by kernel_rfl

/-- the writes in the cache, as cells -/
def wcells (l : List (Int × ByteArray)) : List Value := l.flatMap fun p => [.int .i64 p.1, .string p.2]
theorem wcells_length (l : List (Int × ByteArray)) : (wcells l).length = l.length * 2 := by
  induction l with
  | nil => rfl
  | cons p l ih => simp only [wcells, List.flatMap_cons, List.length_append] at ih ⊢; rw [ih]; simp; omega
/-- the number of the last write of a sector -/
def lastIdx (l : List (Int × ByteArray)) (a : Int) : Option Nat := (List.range l.length).reverse.find? fun i => ((l[i]?).map (·.1)) == some a
/-- the map 'last' is the cache's -/
def LastOk (D : DataW Unit) (l : List (Int × ByteArray)) : Prop :=
  ∀ a : Int, (lastIdx l a = none → has D (.int .i64 a) = false) ∧ (∀ i, lastIdx l a = some i → has D (.int .i64 a) = true ∧ ∀ z, D.atKey (.int .i64 a) z = .lit (.int .i64 (i : Int)))

structure DiskAt (w : World) (g ib bm : Nat) (cv : Value) (n : Nat) (D : DataW Unit) (img : List Int) (cache : List (Int × ByteArray)) : Prop where
  hg : w.heap[g]? = some (.cells #[.slice (some ⟨ib, 0, none⟩) img.length img.length, cv, .map (some bm)] 155 (0, 0))
  hi : w.heap[ib]? = some (.cells (img.map (Value.int .u8)).toArray 5 (0, 0))
  hr : w.ownsRow 0 163 2 cv cache.length (wcells cache)
  hm : w.ownsMap Try.prog 3 (plainElem Try.prog 3) bm n D
  hn : n ≤ cache.length
  hl : LastOk D cache
  rng : ∀ b ∈ img, 0 ≤ b ∧ b < 256
  len : img.length ≤ 67108864
  many : cache.length ≤ 1099511627776
  ats : ∀ p ∈ cache, 0 ≤ p.1 ∧ p.1 * 64 + 64 ≤ img.length ∧ p.2.size = 64
  ne1 : g ≠ ib
  ne2 : g ≠ bm
  ne3 : ib ≠ bm
  ne4 : ∀ k, cv.ownBlock = some k → k ≠ g ∧ k ≠ ib ∧ k ≠ bm

/-- which blocks a device lies in -/
def foot (g ib bm : Nat) (cv : Value) (i : Nat) : Prop := i = g ∨ i = ib ∨ i = bm ∨ cv.ownBlock = some i
/-- A DEVICE: in the blocks fp -/
def IsDisk (w : World) (g : Nat) (fp : Nat → Prop) (img : List Int) (cache : List (Int × ByteArray)) : Prop :=
  ∃ ib bm cv n D, DiskAt w g ib bm cv n D img cache ∧ ∀ i, foot g ib bm cv i → fp i

theorem DiskAt.lt {w : World} {g ib bm n : Nat} {cv : Value} {D : DataW Unit} {img : List Int} {cache : List (Int × ByteArray)} (h : DiskAt w g ib bm cv n D img cache) (i : Nat) (hf : foot g ib bm cv i) : i < w.heap.size := by
  rcases hf with rfl | rfl | rfl | hf
  · exact here_lt h.hg
  · exact here_lt h.hi
  · exact h.hm.lt
  · exact Sep.own_lt h.hr i hf
/-- what does not write a device's blocks leaves it -/
theorem DiskAt.keep {w w' : World} {g ib bm n : Nat} {cv : Value} {D : DataW Unit} {img : List Int} {cache : List (Int × ByteArray)} (h : DiskAt w g ib bm cv n D img cache) (hk : ∀ i, foot g ib bm cv i → w'.heap[i]? = w.heap[i]?) : DiskAt w' g ib bm cv n D img cache :=
  { h with
    hg := (hk g (.inl rfl)).trans h.hg
    hi := (hk ib (.inr (.inl rfl))).trans h.hi
    hr := own_keep h.hr fun k e => hk k (.inr (.inr (.inr e)))
    hm := map_keep h.hm (hk bm (.inr (.inr (.inl rfl)))) }
theorem IsDisk.keep {w w' : World} {g : Nat} {fp gp : Nat → Prop} {img : List Int} {cache : List (Int × ByteArray)} (h : IsDisk w g fp img cache) (ht : Turned gp w w') (hn : ∀ i, i < w.heap.size → fp i → ¬ gp i) : IsDisk w' g fp img cache := by
  obtain ⟨ib, bm, cv, n, D, h, hf⟩ := h
  exact ⟨ib, bm, cv, n, D, h.keep fun i hi => ht.block i (h.lt i hi) (hn i (h.lt i hi) (hf i hi)), hf⟩

theorem lastOk_nil : LastOk (.map []) [] := fun a => ⟨fun _ => rfl, fun i h => by simp [lastIdx] at h⟩

theorem made_is (m : Nat) : madeCells #[Value.int .u8 0] m = ((List.replicate m (0 : Int)).map (Value.int .u8)).toArray := by
  apply Array.ext'
  apply List.ext_getElem
  · simp [madeCells]
  · intro i h1 h2
    simp [madeCells, Nat.mod_one]

theorem new_ok (n : Int) (w : World) (h1 : 1 ≤ n) (h2 : n ≤ 1048576) :
    Calls Try.prog 34 #[.int .i64 n] w fun e w' => ∃ g, e = .returned (.tuple #[.pointer (some ⟨g, 0, none⟩), .int .i64 0]) ∧ IsDisk w' g (fun i => w.heap.size ≤ i) (List.replicate (64 * n.toNat) 0) [] ∧ Below w.heap.size w w' := by
  obtain ⟨m, rfl⟩ := Int.eq_ofNat_of_zero_le (show 0 ≤ n by omega)
  have hw : IntKind.i64.wrap ((m : Int) * 64) = ((64 * m : Nat) : Int) := by rw [IntKind.wrap_i64]; omega
  have hmk := print_make (P := Try.prog) 148 5 .u8 1 Try.underlying148 infoU8 (by decide) (64 * m) (by omega)
  have hmm := @run_makeMap Try.prog
  have c1 : decide ((m : Int) < 1) = false := decide_eq_false (by omega)
  have c2 : decide ((1048576 : Int) < m) = false := decide_eq_false (by omega)
  have Hm := Lib.hid (show m ≤ 1048576 by omega)
  clear h1 h2
  rw [show ((64 * m : Nat) : Int) = 64 * (m : Int) by omega] at hmk hw
  go_enter Try.func34, Try.ntmps34
  go_wp2
  go_ret2
  have hm := Hm.out
  have b0 := blk_alloc (blk_alloc (blk_new w (.cells (madeCells #[.int .u8 0] (64 * m)) 5)) (.map #[] 0)) (.cells #[.slice (some ⟨w.heap.size, 0, none⟩) (64 * m) (64 * m), .slice none 0 0, .map (some (w.heap.size + 1))] 155)
  have o1 := (World.ownsMap_made (H := Unit) (w.alloc (.cells (madeCells #[.int .u8 0] (64 * m)) 5)) Try.prog 3 (plainElem Try.prog 3)).alloc (.cells #[.slice (some ⟨w.heap.size, 0, none⟩) (64 * m) (64 * m), .slice none 0 0, .map (some (w.heap.size + 1))] 155)
  have b2 := blk_new ((w.alloc (.cells (madeCells #[.int .u8 0] (64 * m)) 5)).alloc (.map #[] 0)) (.cells #[.slice (some ⟨w.heap.size, 0, none⟩) (64 * m) (64 * m), .slice none 0 0, .map (some (w.heap.size + 1))] 155)
  have s1 : (w.alloc (.cells (madeCells #[.int .u8 0] (64 * m)) 5)).heap.size = w.heap.size + 1 := by simp
  have s2 : ((w.alloc (.cells (madeCells #[.int .u8 0] (64 * m)) 5)).alloc (.map #[] 0)).heap.size = w.heap.size + 1 + 1 := by simp
  rw [s1] at o1
  rw [s2] at b2
  refine ⟨w.heap.size + 1 + 1, rfl, ⟨w.heap.size, w.heap.size + 1, .slice none 0 0, 0, .map [], ?_, ?_⟩, below_alloc (below_alloc (below_alloc (Below.refl w.heap.size w) _) _) _⟩
  · refine { hg := ?_, hi := ?_, hr := ⟨rfl, .inl ⟨rfl, rfl⟩⟩, hm := o1, hn := Nat.le_refl _, hl := lastOk_nil, rng := ?_, len := ?_, many := by simp, ats := by simp, ne1 := by omega, ne2 := by omega, ne3 := by omega, ne4 := fun k h => by cases h }
    · simpa using b2
    · refine b0.trans ?_
      rw [made_is]; simp
    · intro b hb; rw [List.eq_of_mem_replicate hb]; decide
    · simp; omega
  · rintro i (rfl | rfl | rfl | h)
    · show w.heap.size ≤ w.heap.size + 1 + 1; omega
    · exact Nat.le_refl _
    · show w.heap.size ≤ w.heap.size + 1; omega
    · cases h
theorem new_bad (n : Int) (w : World) (h : n < 1 ∨ 1048576 < n) :
    Calls Try.prog 34 #[.int .i64 n] w fun e w' => e = .returned (.tuple #[.pointer none, .int .i64 300]) ∧ w = w' := by
  by_cases h1 : n < 1
  · have c1 : decide (n < 1) = true := decide_eq_true h1
    clear h h1
    go_enter Try.func34, Try.ntmps34
    go_wp2
    go_ret2
    exact ⟨rfl, rfl⟩
  · have c1 : decide (n < 1) = false := decide_eq_false h1
    have c2 : decide (1048576 < n) = true := decide_eq_true (by omega)
    clear h h1
    go_enter Try.func34, Try.ntmps34
    go_wp2
    go_ret2
    exact ⟨rfl, rfl⟩
/-- Sectors -/
theorem sectors_ok {g : Nat} {fp : Nat → Prop} {img : List Int} {cache : List (Int × ByteArray)} {w : World} (h : IsDisk w g fp img cache) :
    Calls Try.prog 104 #[.pointer (some ⟨g, 0, none⟩)] w fun e w' => e = .returned (.int .i64 ((img.length / 64 : Nat) : Int)) ∧ w = w' := by
  obtain ⟨ib, bm, cv, n, D, h, _⟩ := h
  have x0 := (cell_of h.hg 0).trans rfl
  have hlen := h.len
  go_enter Try.func104, Try.ntmps104
  go_wp2
  go_ret
  exact ⟨congrArg (fun z => Ending.returned (.int .i64 z)) (Int.natCast_ediv _ _).symm, rfl⟩
/-- may: a place that is one -/
theorem may_ok {g : Nat} {fp : Nat → Prop} {img : List Int} {cache : List (Int × ByteArray)} {w : World} (h : IsDisk w g fp img cache) (a : Int) (h0 : 0 ≤ a) (h1 : a < ((img.length / 64 : Nat) : Int)) :
    Calls Try.prog 105 #[.pointer (some ⟨g, 0, none⟩), .int .i64 a] w fun e w' => e = .returned (.int .i64 0) ∧ w = w' := by
  have c0 : decide (a < 0) = false := decide_eq_false (by omega)
  have c1 : decide (((img.length / 64 : Nat) : Int) ≤ a) = false := decide_eq_false (by omega)
  have hs := sectors_ok h
  generalize img.length / 64 = m at *
  have H := Lib.hid hs
  clear h h0 h1 hs
  go_enter Try.func105, Try.ntmps105
  go_wp2_with (go_at_call 104; refine H.out.mono ?_; rintro e w' ⟨rfl, rfl⟩)
  go_ret
  exact ⟨rfl, rfl⟩
theorem may_bad {g : Nat} {fp : Nat → Prop} {img : List Int} {cache : List (Int × ByteArray)} {w : World} (h : IsDisk w g fp img cache) (a : Int) (hb : a < 0 ∨ ((img.length / 64 : Nat) : Int) ≤ a) :
    Calls Try.prog 105 #[.pointer (some ⟨g, 0, none⟩), .int .i64 a] w fun e w' => e = .returned (.int .i64 301) ∧ w = w' := by
  have hs := sectors_ok h
  generalize img.length / 64 = m at *
  have H := Lib.hid hs
  clear h hs
  by_cases h0 : a < 0
  · have c0 : decide (a < 0) = true := decide_eq_true h0
    clear h0 hb
    go_enter Try.func105, Try.ntmps105
    go_wp2
    go_ret
    exact ⟨rfl, rfl⟩
  · have c0 : decide (a < 0) = false := decide_eq_false h0
    have c1 : decide ((m : Int) ≤ a) = true := decide_eq_true (by omega)
    clear h0 hb
    go_enter Try.func105, Try.ntmps105
    go_wp2_with (go_at_call 104; refine H.out.mono ?_; rintro e w' ⟨rfl, rfl⟩)
    go_ret
    exact ⟨rfl, rfl⟩
/-- a sector's bytes, as they lie -/
theorem sector_ok {g ib bm n : Nat} {cv : Value} {D : DataW Unit} {img : List Int} {cache : List (Int × ByteArray)} {w : World} (h : DiskAt w g ib bm cv n D img cache) (a : Nat) (h1 : a * 64 + 64 ≤ img.length) :
    Calls Try.prog 106 #[.pointer (some ⟨g, 0, none⟩), .int .i64 (a : Int)] w fun e w' => e = .returned (.slice (some ⟨ib, a * 64, none⟩) 64 (img.length - a * 64)) ∧ w = w' := by
  have x0 := (cell_of h.hg 0).trans rfl
  have hlen := h.len
  go_enter Try.func106, Try.ntmps106
  go_wp2
  go_ret
  refine ⟨?_, rfl⟩
  show Ending.returned (.slice _ ((a + 1) * 64 - a * 64) _) = _
  rw [show (a + 1) * 64 - a * 64 = 64 by omega]
theorem DiskAt.reads {g ib bm n : Nat} {cv : Value} {D : DataW Unit} {img : List Int} {cache : List (Int × ByteArray)} {w : World} (h : DiskAt w g ib bm cv n D img cache) (j m : Nat) (hj : j + m ≤ img.length) : ReadsInt w .u8 (some ⟨ib, j, none⟩) m ((img.drop j).take m) := by
  have hlen := h.len
  refine ⟨by simp; omega, by omega, fun _ => ⟨_, rfl, fun q hq => ?_⟩⟩
  have e : (⟨ib, j, none⟩ : Addr).add q = ⟨ib, j + q, none⟩ := by unfold Addr.add; split <;> simp_all
  rw [e, cell_of h.hi (j + q)]
  have hlt : j + q < img.length := by omega
  simp [List.getD_eq_getElem?_getD, List.getElem?_take, hq, List.getElem?_drop, hlt]
/-- Image -/
theorem image_ok {g : Nat} {fp : Nat → Prop} {img : List Int} {cache : List (Int × ByteArray)} {w : World} (h : IsDisk w g fp img cache) :
    Calls Try.prog 41 #[.pointer (some ⟨g, 0, none⟩)] w fun e w' => e = .returned (.string (strOfNums img)) ∧ w = w' := by
  obtain ⟨ib, bm, cv, n, D, h, _⟩ := h
  have x0 := (cell_of h.hg 0).trans rfl
  have hr := h.reads 0 img.length (by omega)
  rw [List.drop_zero, List.take_length] at hr
  have hs := string_of_reads (c := img.length) Try.underlying148 Try.underlying5 Try.underlying9 hr
  clear hr h
  go_enter Try.func41, Try.ntmps41
  go_wp2
  go_ret
  exact ⟨rfl, rfl⟩
/-- what is read of a sector -/
def readOf (img : List Int) (cache : List (Int × ByteArray)) (a : Nat) : ByteArray :=
  match lastIdx cache (a : Int) with
  | some i => ((cache[i]?).map (·.2)).getD ByteArray.empty
  | none => strOfNums ((img.drop (a * 64)).take 64)
theorem lastIdx_some {l : List (Int × ByteArray)} {a : Int} {i : Nat} (h : lastIdx l a = some i) : i < l.length ∧ (l[i]?).map (·.1) = some a := by
  unfold lastIdx at h
  have h1 := List.mem_of_find?_eq_some h
  have h2 := List.find?_some h
  simp at h1
  exact ⟨h1, by simpa using h2⟩
/-- cell j of write i -/
theorem wcells_at (l : List (Int × ByteArray)) (i : Nat) (p : Int × ByteArray) (h : l[i]? = some p) : (wcells l)[2 * i]? = some (.int .i64 p.1) ∧ (wcells l)[2 * i + 1]? = some (.string p.2) := by
  induction l generalizing i with
  | nil => simp at h
  | cons q l ih =>
    cases i with
    | zero => simp at h; subst h; simp [wcells]
    | succ i =>
      have := ih i (by simpa using h)
      have e : wcells (q :: l) = [.int .i64 q.1, .string q.2] ++ wcells l := rfl
      rw [e, List.getElem?_append_right (by simp; omega), List.getElem?_append_right (by simp; omega)]
      simp only [List.length_cons, List.length_nil]
      rw [show 2 * (i + 1) - (0 + 1 + 1) = 2 * i by omega, show 2 * (i + 1) + 1 - (0 + 1 + 1) = 2 * i + 1 by omega]
      exact this
theorem DiskAt.cache_at {g ib bm n : Nat} {cv : Value} {D : DataW Unit} {img : List Int} {cache : List (Int × ByteArray)} {w : World} (h : DiskAt w g ib bm cv n D img cache) (i : Nat) (p : Int × ByteArray) (hp : cache[i]? = some p) :
    ∃ cb cap, cv = .slice (some ⟨cb, 0, none⟩) cache.length cap ∧ cache.length ≤ cap ∧ cap ≤ maxLen ∧ w.cell? ⟨cb, i * 2, none⟩ = some (.int .i64 p.1) ∧ w.cell? ⟨cb, i * 2 + 1, none⟩ = some (.string p.2) := by
  have hi : i < cache.length := (List.getElem?_eq_some_iff.1 hp).1
  rcases h.hr.2 with ⟨_, h0⟩ | ⟨cb, cap, cur, rfl, _, hc, h1, h2, h3, h4⟩
  · omega
  · have := wcells_at cache i p hp
    rw [← h4] at this
    have q1 : cur.toList[2 * i]? = some (.int .i64 p.1) := by rw [← this.1, List.getElem?_take, if_pos (by omega)]
    have q2 : cur.toList[2 * i + 1]? = some (.string p.2) := by rw [← this.2, List.getElem?_take, if_pos (by omega)]
    refine ⟨cb, cap, rfl, h1, h2, ?_, ?_⟩
    · rw [cell_of hc, ← Array.getElem?_toList, Nat.mul_comm]; exact q1
    · rw [cell_of hc, ← Array.getElem?_toList, Nat.mul_comm]; exact q2
set_option maxHeartbeats 1000000 in
theorem read_ok {g : Nat} {fp : Nat → Prop} {img : List Int} {cache : List (Int × ByteArray)} {w : World} (h : IsDisk w g fp img cache) (a : Nat) (h1 : a < img.length / 64) :
    Calls Try.prog 100 #[.pointer (some ⟨g, 0, none⟩), .int .i64 (a : Int)] w fun e w' => e = .returned (.tuple #[.string (readOf img cache a), .int .i64 0]) ∧ w = w' := by
  have HM := Lib.hid (may_ok h (a : Int) (by omega) (by omega))
  obtain ⟨ib, bm, cv, n, D, h, _⟩ := h
  have HS := Lib.hid (sector_ok h a (by omega))
  have hkey : keyOf Try.prog 3 (.int .i64 (a : Int)) = some (.int .i64 (a : Int)) := keyOf_int_mk Try.underlying3 (by have := h.len; exact WalkArith.wf_i64 (by omega))
  obtain ⟨v, ps, hrun, hv⟩ := h.hm.look_ok law Try.underlying153 (zeroE w) (plainElem_int Try.underlying3 (by decide)) hkey
  obtain ⟨c, rfl, hc, hwc⟩ := plainElem_int_inv Try.underlying3 hv
  have hL := h.hl (a : Int)
  have x0 := (cell_of h.hg 0).trans rfl
  have x1 := (cell_of h.hg 1).trans rfl
  have x2 := (cell_of h.hg 2).trans rfl
  cases hlast : lastIdx cache (a : Int) with
  | none =>
    rw [hL.1 hlast] at hrun
    have hr := h.reads (a * 64) 64 (by omega)
    have hs := string_of_reads (c := img.length - a * 64) Try.underlying148 Try.underlying5 Try.underlying9 hr
    have e : readOf img cache a = strOfNums ((img.drop (a * 64)).take 64) := by unfold readOf; rw [hlast]
    rw [e]
    generalize strOfNums ((img.drop (a * 64)).take 64) = s at hs ⊢
    clear hr e hlast hL hv hkey h h1 hwc hc
    go_enter Try.func100, Try.ntmps100
    go_wp2_with (first | (go_at_call 105; refine HM.out.mono ?_; rintro e w' ⟨rfl, rfl⟩) | (go_at_call 106; refine HS.out.mono ?_; rintro e w' ⟨rfl, rfl⟩))
    go_ret2
    exact ⟨rfl, rfl⟩
  | some i =>
    obtain ⟨g1, g2⟩ := hL.2 i hlast
    rw [g1] at hrun
    obtain ⟨hi, hp⟩ := lastIdx_some hlast
    obtain ⟨p, hp1⟩ : ∃ p, cache[i]? = some p := ⟨_, List.getElem?_eq_getElem hi⟩
    obtain ⟨cb, cap, rfl, k1, k2, k3, k4⟩ := h.cache_at i p hp1
    have ec : c = (i : Int) := by
      have := g2 (.lit (.int .i64 0))
      simp only [Prod.mk.injEq] at hc
      rw [hc.1] at this
      simpa using this
    subst ec
    have e : readOf img cache a = p.2 := by unfold readOf; rw [hlast]; simp [hp1]
    rw [e]
    have hmany := h.many
    have hil : (i : Int) < (cache.length : Int) := by omega
    clear hlast hL hv hkey h h1 hwc hc g1 g2 hp hp1 e
    unfold maxLen at k2
    go_enter Try.func100, Try.ntmps100
    go_wp2_with (first | (go_at_call 105; refine HM.out.mono ?_; rintro e w' ⟨rfl, rfl⟩) | (go_at_call 106; refine HS.out.mono ?_; rintro e w' ⟨rfl, rfl⟩))
    go_ret2
    exact ⟨rfl, rfl⟩
end Go.Proofs.Ytikekepiimaccaa.Dk

/- A device beside blocks of the law's own (maps). Conditions: as in the statements. -/
import Derived.Test.YtikekepiimaccaaDiskK
set_option linter.unusedVariables false
set_option linter.unusedSimpArgs false
namespace Go.Proofs.Ytikekepiimaccaa.Dk
open Go Go.RowKit Go.Maps Go.Lib Go.ChangeShapes Go.WideShapes Go.Proofs.Ytikekepiimaccaa.Sep
/-- a device that the call made, outside the blocks ex -/
def Dv (W w : World) (g : Nat) (ex : Nat → Prop) (img : List Int) (cache : List (Int × ByteArray)) : Prop := IsDisk w g (fun k => W.heap.size ≤ k ∧ ¬ ex k) img cache ∧ Below W.heap.size W w ∧ ∀ k, ex k → k < w.heap.size
theorem Dv.bel {W w : World} {g : Nat} {ex : Nat → Prop} {img : List Int} {cache : List (Int × ByteArray)} (h : Dv W w g ex img cache) : Below W.heap.size W w := h.2.1
theorem Dv.ats {W w : World} {g : Nat} {ex : Nat → Prop} {img : List Int} {cache : List (Int × ByteArray)} (h : Dv W w g ex img cache) : AtsOk img.length cache := h.1.ats
theorem Dv.later {W w w' : World} {g : Nat} {ex : Nat → Prop} {img : List Int} {cache : List (Int × ByteArray)} (h : Dv W w g ex img cache) (hb : Below w.heap.size w w') : Dv W w' g ex img cache :=
  ⟨h.1.later hb, bel_of h.2.1 hb, fun k hk => Nat.lt_of_lt_of_le (h.2.2 k hk) hb.size⟩
theorem Dv.drew {W w : World} {g : Nat} {ex : Nat → Prop} {img : List Int} {cache : List (Int × ByteArray)} (h : Dv W w g ex img cache) : Dv W w.drew g ex img cache := h.later (Below.refl _ _).drew
/-- a new block beside it -/
theorem Dv.beside {W w w' : World} {g : Nat} {ex : Nat → Prop} {img : List Int} {cache : List (Int × ByteArray)} (h : Dv W w g ex img cache) (hb : Below w.heap.size w w') (hlt : w.heap.size < w'.heap.size) : Dv W w' g (fun k => ex k ∨ k = w.heap.size) img cache :=
  ⟨(h.1.mono fun i hi a => ⟨a.1, fun e => e.elim a.2 (fun e => by omega)⟩).later hb, bel_of h.2.1 hb, fun k hk => hk.elim (fun a => Nat.lt_of_lt_of_le (h.2.2 k a) hb.size) (fun e => by omega)⟩
/-- one of those blocks is written -/
theorem Dv.map {W w w' : World} {g b : Nat} {ex : Nat → Prop} {img : List Int} {cache : List (Int × ByteArray)} (h : Dv W w g ex img cache) (hb : ex b) (hW : W.heap.size ≤ b) (hg : w.grownBy w' (some b)) : Dv W w' g ex img cache := by
  have ht := (Turned.refl (fun k => k = b) w).grown hg (fun k hk => .inl (Option.some.inj hk).symm)
  exact ⟨h.1.keep ht (fun i _ hi e => hi.2 (e ▸ hb)), h.2.1.trans (ht.below h.2.1.size (fun i hi => hi ▸ hW)), fun k hk => Nat.lt_of_lt_of_le (h.2.2 k hk) hg.size⟩
theorem dv_turn {W w w' : World} {g : Nat} {ex fp' : Nat → Prop} {img img' : List Int} {cache cache' : List (Int × ByteArray)} (h : Dv W w g ex img cache) (hd : IsDisk w' g fp' img' cache') (hf : ∀ i, fp' i → (W.heap.size ≤ i ∧ ¬ ex i) ∨ w.heap.size ≤ i) (ht : Turned (fun k => W.heap.size ≤ k ∧ ¬ ex k) w w') :
    Dv W w' g ex img' cache' ∧ ∀ k, ex k → w'.heap[k]? = w.heap[k]? := by
  refine ⟨⟨hd.mono fun i _ hi => ?_, h.2.1.trans (ht.below h.2.1.size fun i a => a.1), fun k hk => Nat.lt_of_lt_of_le (h.2.2 k hk) ht.size⟩, fun k hk => ht.block k (h.2.2 k hk) (fun a => a.2 hk)⟩
  rcases hf i hi with a | a
  · exact a
  · exact ⟨Nat.le_trans h.2.1.size a, fun e => by have := h.2.2 i e; omega⟩
theorem dv_write {W w : World} {g : Nat} {ex : Nat → Prop} {img : List Int} {cache : List (Int × ByteArray)} (h : Dv W w g ex img cache) (a : Nat) (h1 : a < img.length / 64) (s : ByteArray) (hs : s.size = 64) (hmany : cache.length < 1099511627776) :
    Calls Try.prog 38 #[.pointer (some ⟨g, 0, none⟩), .int .i64 (a : Int), .string s] w fun e w' => e = .returned (.int .i64 0) ∧ Dv W w' g ex img (cache ++ [((a : Int), s)]) ∧ ∀ k, ex k → w'.heap[k]? = w.heap[k]? := by
  refine (write_ok h.1 a h1 s hs hmany).mono ?_
  rintro e w' ⟨rfl, hd, ht⟩
  exact ⟨rfl, dv_turn h hd (fun i a => a) ht⟩
theorem dv_crash {W w : World} {g : Nat} {ex : Nat → Prop} {img : List Int} {cache : List (Int × ByteArray)} (h : Dv W w g ex img cache) (pick torn cut : Int) (h0 : 0 ≤ pick) :
    Calls Try.prog 42 #[.pointer (some ⟨g, 0, none⟩), .agg #[.int .u64 pick, .int .i64 torn, .int .i64 cut]] w fun e w' => e = .returned (.int .i64 0) ∧ Dv W w' g ex (imgAt pick torn cut cache img cache.length) [] ∧ ∀ k, ex k → w'.heap[k]? = w.heap[k]? := by
  refine (crash_ok h.1 pick torn cut h0).mono ?_
  rintro e w' ⟨rfl, hd, ht⟩
  exact ⟨rfl, dv_turn h hd (fun i a => .inl a) ht⟩
theorem dv_flush {W w : World} {g : Nat} {ex : Nat → Prop} {img : List Int} {cache : List (Int × ByteArray)} (h : Dv W w g ex img cache) :
    Calls Try.prog 40 #[.pointer (some ⟨g, 0, none⟩)] w fun e w' => e = .returned (.int .i64 0) ∧ Dv W w' g ex (flushed cache img) [] ∧ ∀ k, ex k → w'.heap[k]? = w.heap[k]? := by
  refine (flush_ok h.1).mono ?_
  rintro e w' ⟨rfl, hd, ht⟩
  exact ⟨rfl, dv_turn h hd (fun i a => .inl a) ht⟩
theorem dv_image {W w : World} {g : Nat} {ex : Nat → Prop} {img : List Int} {cache : List (Int × ByteArray)} (h : Dv W w g ex img cache) :
    Calls Try.prog 41 #[.pointer (some ⟨g, 0, none⟩)] w fun e w' => e = .returned (.string (strOfNums img)) ∧ w = w' := image_ok h.1
end Go.Proofs.Ytikekepiimaccaa.Dk

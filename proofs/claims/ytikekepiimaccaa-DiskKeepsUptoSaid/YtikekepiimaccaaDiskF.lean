/- Two devices side by side: for DiskFlush. Conditions: as in the statements. -/
import Derived.Test.YtikekepiimaccaaDiskR
set_option linter.unusedVariables false
set_option linter.unusedSimpArgs false
namespace Go.Proofs.Ytikekepiimaccaa.Dk
open Go Go.RowKit Go.Maps Go.Lib Go.ChangeShapes Go.WideShapes Go.Proofs.Ytikekepiimaccaa.Sep
/-- two devices that share nothing, both made by the call -/
def Two (W w : World) (x y : Nat) (ix : List Int) (cx : List (Int × ByteArray)) (iy : List Int) (cy : List (Int × ByteArray)) : Prop :=
  ∃ fx fy : Nat → Prop, IsDisk w x fx ix cx ∧ IsDisk w y fy iy cy ∧ (∀ i, fx i → fy i → False) ∧ (∀ i, fx i → W.heap.size ≤ i ∧ i < w.heap.size) ∧ (∀ i, fy i → W.heap.size ≤ i ∧ i < w.heap.size) ∧ Below W.heap.size W w
theorem Two.bel {W w : World} {x y : Nat} {ix iy : List Int} {cx cy : List (Int × ByteArray)} (h : Two W w x y ix cx iy cy) : Below W.heap.size W w := by
  obtain ⟨_, _, _, _, _, _, _, h⟩ := h; exact h
theorem Two.symm {W w : World} {x y : Nat} {ix iy : List Int} {cx cy : List (Int × ByteArray)} (h : Two W w x y ix cx iy cy) : Two W w y x iy cy ix cx := by
  obtain ⟨fx, fy, hx, hy, hd, h1, h2, h3⟩ := h
  exact ⟨fy, fx, hy, hx, fun i a b => hd i b a, h2, h1, h3⟩
theorem Two.later {W w w' : World} {x y : Nat} {ix iy : List Int} {cx cy : List (Int × ByteArray)} (h : Two W w x y ix cx iy cy) (hb : Below w.heap.size w w') : Two W w' x y ix cx iy cy := by
  obtain ⟨fx, fy, hx, hy, hd, h1, h2, h3⟩ := h
  exact ⟨fx, fy, hx.later hb, hy.later hb, hd, fun i a => ⟨(h1 i a).1, Nat.lt_of_lt_of_le (h1 i a).2 hb.size⟩, fun i a => ⟨(h2 i a).1, Nat.lt_of_lt_of_le (h2 i a).2 hb.size⟩, bel_of h3 hb⟩
theorem Two.drew {W w : World} {x y : Nat} {ix iy : List Int} {cx cy : List (Int × ByteArray)} (h : Two W w x y ix cx iy cy) : Two W w.drew x y ix cx iy cy := h.later (Below.refl _ _).drew
theorem Two.turn {W w w' : World} {x y : Nat} {iy ix' : List Int} {cy cx' : List (Int × ByteArray)} {fx fy fx' : Nat → Prop} (hy : IsDisk w y fy iy cy) (hd : ∀ i, fx i → fy i → False) (h1 : ∀ i, fx i → W.heap.size ≤ i ∧ i < w.heap.size) (h2 : ∀ i, fy i → W.heap.size ≤ i ∧ i < w.heap.size) (h3 : Below W.heap.size W w)
    (hx' : IsDisk w' x fx' ix' cx') (hf : ∀ i, fx' i → fx i ∨ w.heap.size ≤ i) (ht : Turned fx w w') : Two W w' x y ix' cx' iy cy := by
  refine ⟨fun i => fx' i ∧ i < w'.heap.size, fy, hx'.mono fun i a b => ⟨b, a⟩, hy.keep ht fun i _ a b => hd i b a, ?_, fun i a => ⟨?_, a.2⟩, fun i a => ⟨(h2 i a).1, Nat.lt_of_lt_of_le (h2 i a).2 ht.size⟩, h3.trans (ht.below h3.size fun i a => (h1 i a).1)⟩
  · intro i a b
    rcases hf i a.1 with c | c
    · exact hd i c b
    · have := (h2 i b).2; omega
  · rcases hf i a.1 with c | c
    · exact (h1 i c).1
    · exact Nat.le_trans h3.size c
theorem two_new {W w : World} {x : Nat} (n : Int) (h1 : 1 ≤ n) (h2 : n ≤ 1048576) {ix : List Int} (h : On W w x ix []) :
    Calls Try.prog 34 #[.int .i64 n] w fun e w' => ∃ g, e = .returned (.tuple #[.pointer (some ⟨g, 0, none⟩), .int .i64 0]) ∧ Two W w' x g ix [] (List.replicate (64 * n.toNat) 0) [] := by
  refine (new_ok n w h1 h2).mono ?_
  rintro e w' ⟨g, rfl, hd, hb⟩
  have h3 := h.2.size
  refine ⟨g, rfl, fun i => W.heap.size ≤ i ∧ i < w.heap.size, fun i => w.heap.size ≤ i ∧ i < w'.heap.size, (h.1.mono fun i a b => ⟨b, a⟩).later hb, hd.mono fun i a b => ⟨b, a⟩, fun i a b => by omega, fun i a => ⟨a.1, Nat.lt_of_lt_of_le a.2 hb.size⟩, fun i a => ⟨by omega, a.2⟩, bel_of h.2 hb⟩
theorem two_write {W w : World} {x y : Nat} {ix iy : List Int} {cx cy : List (Int × ByteArray)} (h : Two W w x y ix cx iy cy) (a : Nat) (h1 : a < ix.length / 64) (s : ByteArray) (hs : s.size = 64) (hmany : cx.length < 1099511627776) :
    Calls Try.prog 38 #[.pointer (some ⟨x, 0, none⟩), .int .i64 (a : Int), .string s] w fun e w' => e = .returned (.int .i64 0) ∧ Two W w' x y ix (cx ++ [((a : Int), s)]) iy cy := by
  obtain ⟨fx, fy, hx, hy, hd, k1, k2, k3⟩ := h
  refine (write_ok hx a h1 s hs hmany).mono ?_
  rintro e w' ⟨rfl, hd', ht⟩
  exact ⟨rfl, Two.turn hy hd k1 k2 k3 hd' (fun i a => a) ht⟩
theorem two_crash {W w : World} {x y : Nat} {ix iy : List Int} {cx cy : List (Int × ByteArray)} (h : Two W w x y ix cx iy cy) (pick torn cut : Int) (h0 : 0 ≤ pick) :
    Calls Try.prog 42 #[.pointer (some ⟨x, 0, none⟩), .agg #[.int .u64 pick, .int .i64 torn, .int .i64 cut]] w fun e w' => e = .returned (.int .i64 0) ∧ Two W w' x y (imgAt pick torn cut cx ix cx.length) [] iy cy := by
  obtain ⟨fx, fy, hx, hy, hd, k1, k2, k3⟩ := h
  refine (crash_ok hx pick torn cut h0).mono ?_
  rintro e w' ⟨rfl, hd', ht⟩
  exact ⟨rfl, Two.turn hy hd k1 k2 k3 hd' (fun i a => .inl a) ht⟩
theorem two_flush {W w : World} {x y : Nat} {ix iy : List Int} {cx cy : List (Int × ByteArray)} (h : Two W w x y ix cx iy cy) :
    Calls Try.prog 40 #[.pointer (some ⟨x, 0, none⟩)] w fun e w' => e = .returned (.int .i64 0) ∧ Two W w' x y (flushed cx ix) [] iy cy := by
  obtain ⟨fx, fy, hx, hy, hd, k1, k2, k3⟩ := h
  refine (flush_ok hx).mono ?_
  rintro e w' ⟨rfl, hd', ht⟩
  exact ⟨rfl, Two.turn hy hd k1 k2 k3 hd' (fun i a => .inl a) ht⟩
theorem two_image {W w : World} {x y : Nat} {ix iy : List Int} {cx cy : List (Int × ByteArray)} (h : Two W w x y ix cx iy cy) :
    Calls Try.prog 41 #[.pointer (some ⟨x, 0, none⟩)] w fun e w' => e = .returned (.string (strOfNums ix)) ∧ w = w' := by
  obtain ⟨fx, fy, hx, hy, _⟩ := h
  exact image_ok hx
end Go.Proofs.Ytikekepiimaccaa.Dk

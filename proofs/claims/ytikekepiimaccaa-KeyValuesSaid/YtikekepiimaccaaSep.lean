/- Which blocks a call may have written: 'Turned fp w w'': but for the blocks of fp and new ones the world is as it was. And what a struct, a row, a map of the program's own lies in. No conditions. -/
import Derived.Below
import Derived.WalkKit
import Derived.Carry
import Derived.Deep.Draws
import Derived.Maps.OwnSet
import Derived.Laws.AppendOwn
namespace Go.Proofs.Ytikekepiimaccaa.Sep
open Go Go.RowKit

structure Turned (fp : Nat → Prop) (w w' : World) : Prop where
  os : w'.os = w.os
  tape : w'.tape = w.tape
  output : w'.output = w.output
  size : w.heap.size ≤ w'.heap.size
  block : ∀ i, i < w.heap.size → ¬ fp i → w'.heap[i]? = w.heap[i]?

theorem Turned.refl (fp : Nat → Prop) (w : World) : Turned fp w w := ⟨rfl, rfl, rfl, Nat.le_refl _, fun _ _ _ => rfl⟩
theorem Turned.trans {fp fp' : Nat → Prop} {a b c : World} (h : Turned fp a b) (k : Turned fp' b c) (hf : ∀ i, i < a.heap.size → fp' i → fp i) : Turned fp a c :=
  ⟨k.os.trans h.os, k.tape.trans h.tape, k.output.trans h.output, Nat.le_trans h.size k.size, fun i hi hn => (k.block i (Nat.lt_of_lt_of_le hi h.size) (fun g => hn (hf i hi g))).trans (h.block i hi hn)⟩
theorem Turned.mono {fp fp' : Nat → Prop} {a b : World} (h : Turned fp a b) (hf : ∀ i, i < a.heap.size → fp i → fp' i) : Turned fp' a b :=
  ⟨h.os, h.tape, h.output, h.size, fun i hi hn => h.block i hi (fun g => hn (hf i hi g))⟩
theorem Turned.of_below {w w' : World} (h : Below w.heap.size w w') (fp : Nat → Prop) : Turned fp w w' := ⟨h.os, h.tape, h.output, h.size, fun i hi _ => h.block i hi⟩
theorem Turned.below {fp : Nat → Prop} {w w' : World} (h : Turned fp w w') {B : Nat} (hB : B ≤ w.heap.size) (hf : ∀ i, fp i → B ≤ i) : Below B w w' :=
  ⟨h.os, h.tape, h.output, h.size, fun i hi => h.block i (by omega) (fun g => by have := hf i g; omega)⟩
theorem Turned.drew {fp : Nat → Prop} {a w : World} (h : Turned fp a w) : Turned fp a w.drew := ⟨h.os, h.tape, h.output, h.size, h.block⟩
theorem Turned.drewN {fp : Nat → Prop} {a w : World} (h : Turned fp a w) (n : Nat) : Turned fp a (w.drewN n) := ⟨h.os, h.tape, h.output, h.size, h.block⟩
theorem Turned.alloc {fp : Nat → Prop} {a w : World} (h : Turned fp a w) (o : Obj) : Turned fp a (w.alloc o) :=
  h.trans (fp' := fp) ⟨rfl, rfl, rfl, by simp, fun i hi _ => Below.heap_alloc _ _ _ hi⟩ (fun _ _ g => g)
theorem Turned.setCell {fp : Nat → Prop} {a w : World} (h : Turned fp a w) {p : Addr} (hp : fp p.block ∨ a.heap.size ≤ p.block) (u : Value) : Turned fp a (w.setCell p u) :=
  h.trans (fp' := fun i => i = p.block) ⟨rfl, rfl, rfl, by simp [World.setCell], fun i hi hn => Below.heap_setCell _ _ _ _ hn⟩ (fun i hi g => by subst g; exact hp.resolve_right (by omega))
theorem Turned.grown {fp : Nat → Prop} {a w w' : World} {row : Option Nat} (h : Turned fp a w) (hg : w.grownBy w' row) (hr : ∀ k, row = some k → fp k ∨ a.heap.size ≤ k) : Turned fp a w' :=
  h.trans (fp' := fun i => row = some i) ⟨hg.os, hg.tape, hg.output, hg.size, fun i hi hn => hg.block i hi (fun e => hn e.symm)⟩ (fun i hi g => (hr i g).resolve_right (by omega))
theorem Turned.later {fp : Nat → Prop} {a w w' : World} (h : Turned fp a w) (hb : Below w.heap.size w w') : Turned fp a w' :=
  h.trans (Turned.of_below hb (fun _ => False)) (fun _ _ g => g.elim)
/-- a block that is not written stands -/
theorem Turned.keep {fp : Nat → Prop} {w w' : World} (h : Turned fp w w') {i : Nat} {o : Obj} (hb : w.heap[i]? = some o) (hn : ¬ fp i) : w'.heap[i]? = some o :=
  (h.block i (Array.getElem?_eq_some_iff.1 hb).1 hn).trans hb
theorem here_lt {w : World} {g : Nat} {o : Obj} (h : w.heap[g]? = some o) : g < w.heap.size := (Array.getElem?_eq_some_iff.1 h).1
/-- a row and a map stand if their own block does -/
theorem own_keep {w w' : World} {base : Nat} {e : TypeId} {size n : Nat} {v : Value} {xs : List Value} (h : w.ownsRow base e size v n xs) (hm : ∀ k, v.ownBlock = some k → w'.heap[k]? = w.heap[k]?) : w'.ownsRow base e size v n xs := by
  refine ⟨h.1, ?_⟩
  rcases h.2 with h | ⟨g, cap, cur, rfl, hb, hg, hc⟩
  · exact .inl h
  · exact .inr ⟨g, cap, cur, rfl, hb, (hm g rfl).trans hg, hc⟩
theorem own_lt {w : World} {base : Nat} {e : TypeId} {size n : Nat} {v : Value} {xs : List Value} (h : w.ownsRow base e size v n xs) (k : Nat) (hk : v.ownBlock = some k) : k < w.heap.size := by
  rcases h.2 with ⟨rfl, _⟩ | ⟨g, cap, cur, rfl, _, hg, _⟩
  · cases hk
  · obtain rfl : g = k := Option.some.inj hk
    exact here_lt hg
theorem map_keep {H : Type} {P : Program} {k : TypeId} {R : Value → Option (DataW H × List MemPlace)} {w w' : World} {b n : Nat} {D : DataW H} (h : w.ownsMap P k R b n D) (hm : w'.heap[b]? = w.heap[b]?) : w'.ownsMap P k R b n D := by
  obtain ⟨es, clock, hb, F, hs, hD⟩ := h
  exact ⟨es, clock, hm.trans hb, F, hs, hD⟩
theorem map_lt {H : Type} {P : Program} {k : TypeId} {R : Value → Option (DataW H × List MemPlace)} {w : World} {b n : Nat} {D : DataW H} (h : w.ownsMap P k R b n D) : b < w.heap.size := h.lt
theorem cell_of {w : World} {g : Nat} {t : TypeId} {cs : Array Value} (h : w.heap[g]? = some (.cells cs t (0, 0))) (i : Nat) : w.cell? ⟨g, i, none⟩ = cs[i]? := cell_of_row w g i cs t (0, 0) h
theorem frozen_of {w : World} {g : Nat} {t : TypeId} {cs : Array Value} (h : w.heap[g]? = some (.cells cs t (0, 0))) (i : Nat) : w.frozen? ⟨g, i, none⟩ = false := by simp [World.frozen?, h]
end Go.Proofs.Ytikekepiimaccaa.Sep

/- Package disk: Write. Conditions: as in the statements. -/
import Derived.Test.YtikekepiimaccaaDiskA
import Derived.StillTailTactics
set_option linter.unusedVariables false
set_option linter.unusedSimpArgs false
namespace Go.Proofs.Ytikekepiimaccaa.Dk
open Go Go.RowKit Go.Maps Go.Proofs.Ytikekepiimaccaa.Sep Go.Proofs.YtikekepiimaccaaW.PrintWords Go.Proofs.YtikekepiimaccaaW.PrintLast
set_option maxRecDepth 100000 in
theorem infoWr : (Try.prog.info? 163).map (fun i => (i.zero, i.size, i.bytes)) = some (some (.agg #[.int .i64 0, .string ByteArray.empty]), 2, 24) := by kernel_rfl
theorem lastIdx_snoc (l : List (Int × ByteArray)) (p : Int × ByteArray) (b : Int) : lastIdx (l ++ [p]) b = if p.1 = b then some l.length else lastIdx l b := by
  unfold lastIdx
  rw [List.length_append, List.length_singleton, List.range_succ, List.reverse_append, List.reverse_singleton, List.singleton_append, List.find?_cons]
  have e0 : ((l ++ [p])[l.length]?).map (·.1) = some p.1 := by simp
  rw [e0]
  by_cases h : p.1 = b
  · rw [if_pos h, h]; simp
  · rw [if_neg h]
    have : (some p.1 == some b) = false := by simpa using h
    rw [this]
    have key : ∀ L : List Nat, (∀ i ∈ L, i < l.length) → L.find? (fun i => ((l ++ [p])[i]?).map (·.1) == some b) = L.find? (fun i => (l[i]?).map (·.1) == some b) := by
      intro L
      induction L with
      | nil => intro _; rfl
      | cons i L ih =>
        intro hL
        have hi := hL i (List.mem_cons_self ..)
        rw [List.find?_cons, List.find?_cons, List.getElem?_append_left hi, ih (fun j hj => hL j (List.mem_cons_of_mem _ hj))]
    exact key _ (fun i hi => by simpa using hi)
theorem lastOk_put {D : DataW Unit} {l : List (Int × ByteArray)} (h : LastOk D l) (hD : IsMap D) (p : Int × ByteArray) : LastOk (D.put (.int .i64 p.1) (.lit (.int .i64 (l.length : Int)))) (l ++ [p]) := by
  intro b
  rw [lastIdx_snoc]
  have hk : WideAt.IsKeyLit (.int .i64 p.1) := trivial
  by_cases e : p.1 = b
  · rw [if_pos e]
    subst e
    refine ⟨fun h => (by cases h), fun i hi => ?_⟩
    obtain rfl := Option.some.inj hi
    exact ⟨has_put_same hD hk _, fun z => atKey_put_same hD hk _ _⟩
  · rw [if_neg e]
    have hne : (Lit.int .i64 b) ≠ .int .i64 p.1 := fun h => e (by injection h with _ h; exact h.symm)
    refine ⟨fun hl => ?_, fun i hi => ?_⟩
    · rw [has_put_other hne]; exact (h b).1 hl
    · obtain ⟨g1, g2⟩ := (h b).2 i hi
      exact ⟨by rw [has_put_other hne]; exact g1, fun z => by rw [atKey_put_other hne]; exact g2 z⟩
theorem block_set {w : World} {g : Nat} {t : TypeId} {cs : Array Value} (h : w.heap[g]? = some (.cells cs t (0, 0))) (i : Nat) (v : Value) : (w.setCell ⟨g, i, none⟩ v).heap[g]? = some (.cells (cs.setIfInBounds i v) t (0, 0)) := by
  simp [World.setCell, Array.getElem?_modify, h]
theorem wcells_snoc (l : List (Int × ByteArray)) (p : Int × ByteArray) : wcells (l ++ [p]) = wcells l ++ [.int .i64 p.1, .string p.2] := by simp [wcells]
set_option maxHeartbeats 1000000 in
set_option maxRecDepth 100000 in
theorem write_ok {g : Nat} {fp : Nat → Prop} {img : List Int} {cache : List (Int × ByteArray)} {w : World} (h : IsDisk w g fp img cache) (a : Nat) (h1 : a < img.length / 64) (s : ByteArray) (hs : s.size = 64) (hmany : cache.length < 1099511627776) :
    Calls Try.prog 38 #[.pointer (some ⟨g, 0, none⟩), .int .i64 (a : Int), .string s] w fun e w' => e = .returned (.int .i64 0) ∧ IsDisk w' g (fun i => fp i ∨ w.heap.size ≤ i) img (cache ++ [((a : Int), s)]) ∧ Turned fp w w' := by
  have HM := Lib.hid (may_ok h (a : Int) (by omega) (by omega))
  obtain ⟨ib, bm, cv, n, D, h, hf⟩ := h
  have HD := Aside0.mk h
  have HF := Aside0.mk hf
  have c0 : (((s.size : Nat) : Int) != 64) = false := by rw [hs]; rfl
  obtain ⟨A0, cap, ecv⟩ := own_slice h.hr
  have x1 := (cell_of h.hg 1).trans rfl
  have x2 := (cell_of h.hg 2).trans rfl
  have hcl : cache.length ≤ 9223372036854775807 := by omega
  have HH := Lib.hid hs
  clear h hf hs
  subst ecv
  go_enter Try.func38, Try.ntmps38
  go_wp2_with (go_at_call 105; refine HM.out.mono ?_; rintro e w' ⟨rfl, rfl⟩)
  go_still_tail 10, (by kernel_rfl)
  change wpList _ _ _ _ _ w.drew
  have d2 : DiskAt w.drew g ib bm (.slice A0 cache.length cap) n D img cache := HD.out.keep fun i _ => rfl
  have t2 := Aside0.mk ((Turned.refl fp w).drew)
  have e2 : w.drew.heap.size = w.heap.size := rfl
  have HE := Aside0.mk e2
  clear e2 x1 x2 HD
  generalize w.drew = w2 at d2 t2 HE ⊢
  have hkey : keyOf Try.prog 3 (.int .i64 (a : Int)) = some (.int .i64 (a : Int)) := keyOf_int_mk Try.underlying3 (by have := d2.len; exact WalkArith.wf_i64 (by omega))
  refine wpList_mapUpdate_own _ rfl _ _ _ 153 rfl 3 3 law Try.underlying153 (plainElem Try.prog 3) bm n D rfl d2.hm (by have := d2.hn; have := d2.many; unfold maxLen; omega) _ _ _ rfl rfl hkey _ [] (plainElem_int Try.underlying3 (WalkArith.wf_i64 (by omega))) ?_
  intro w1 hown1 hgrow1
  have hltg := here_lt d2.hg
  have hlti := here_lt d2.hi
  have g1 := (hgrow1.block g hltg (fun e => d2.ne2 (Option.some.inj e))).trans d2.hg
  have i1 := (hgrow1.block ib hlti (fun e => d2.ne3 (Option.some.inj e))).trans d2.hi
  have r1 : w1.ownsRow 0 163 2 (.slice A0 cache.length cap) cache.length (wcells cache) := own_keep d2.hr fun k hk => hgrow1.block k (Sep.own_lt d2.hr k hk) (fun e => (d2.ne4 k hk).2.2 (Option.some.inj e))
  have t1 := Aside0.mk (t2.out.grown hgrow1 (fun k hk => .inl (HF.out k (.inr (.inr (.inl (Option.some.inj hk).symm))))))
  have D2 := Aside0.mk d2
  have G1 := Aside0.mk g1
  have I1 := Aside0.mk i1
  have R1 := Aside0.mk r1
  have O1 := Aside0.mk hown1
  have GR1 := Aside0.mk hgrow1
  have SZ := Aside0.mk (Nat.le_trans (Nat.le_of_eq HE.out.symm) hgrow1.size)
  have x1 := (cell_of g1 1).trans rfl
  clear hkey d2 hltg hlti g1 i1 r1 hown1 hgrow1 t2
  go_wp2_with ((with_reducible refine gate_dst (N := 36) rfl ?_); refine print_append_cells (w0 := w1) (W := w1) 0 rfl _ _ 77 163 _ 2 24 rfl Try.underlying77 infoWr rfl (by decide) (by decide) (.slice A0 cache.length cap) cache.length (wcells cache) [.int .i64 (a : Int), .string s] rfl rfl rfl (by simp [Value.oneCell']) R1.out (Below.refl 0 w1) (Nat.zero_le _) (by omega) ?_; intro v1 w3 hown3 hB3 hgrow3 hat3; (obtain ⟨A1, cap1, rfl⟩ := own_slice hown3); (have g3 := (hgrow3.block g (here_lt G1.out) (fun e => (D2.out.ne4 g e.symm).1 rfl)).trans G1.out); (have x3 := (cell_of g3 1).trans rfl); (have f3 := frozen_of g3 1); (have G3 := Aside0.mk g3); clear g3)
  go_ret
  have D2 := D2.out
  have G3 := G3.out
  have I1 := I1.out
  have O1 := O1.out
  have hs := HH.out
  have hlti := here_lt I1
  have hltg := here_lt G1.out
  have hltm := map_lt O1
  have I3 := (hgrow3.block ib hlti (fun e => (D2.ne4 ib e.symm).2.1 rfl)).trans I1
  have O3 := map_keep O1 (hgrow3.block bm hltm (fun e => (D2.ne4 bm e.symm).2.2 rfl))
  have hrow : ∀ k, (Value.slice A1 (cache.length + 1) cap1).ownBlock = some k → (k ≠ g ∧ k ≠ ib ∧ k ≠ bm) ∧ (fp k ∨ w.heap.size ≤ k) := by
    intro k hk
    rcases hat3 with e | ⟨b, e, hb⟩
    · exact ⟨D2.ne4 k (e ▸ hk), .inl (HF.out k (.inr (.inr (.inr (e ▸ hk)))))⟩
    · obtain rfl := Option.some.inj (hk.symm.trans e)
      exact ⟨⟨by omega, by omega, by omega⟩, .inr (Nat.le_trans SZ.out hb)⟩
  have hgb : ∀ (j : Nat), j ≠ g → (w3.setCell ⟨g, 1, none⟩ (.slice A1 (cache.length + 1) cap1)).heap[j]? = w3.heap[j]? := fun j hj => Below.heap_setCell _ _ _ _ hj
  refine ⟨rfl, ⟨ib, bm, .slice A1 (cache.length + 1) cap1, n + 1, _, { hg := ?_, hi := (hgb ib (Ne.symm D2.ne1)).trans I3, hr := ?_, hm := map_keep O3 (hgb bm (Ne.symm D2.ne2)), hn := ?_, hl := lastOk_put D2.hl D2.hm.isMap ((a : Int), s), rng := D2.rng, len := D2.len, many := ?_, ats := ?_, ne1 := D2.ne1, ne2 := D2.ne2, ne3 := D2.ne3, ne4 := fun k hk => (hrow k hk).1 }, ?_⟩, ?_⟩
  · exact block_set G3 1 _
  · rw [List.length_append, wcells_snoc]
    exact own_keep hown3 fun k hk => hgb k ((hrow k hk).1.1)
  · have := D2.hn; simp; omega
  · simp; omega
  · intro p hp
    rcases List.mem_append.1 hp with hp | hp
    · exact D2.ats p hp
    · obtain rfl := List.mem_singleton.1 hp
      exact ⟨by simp, by show (a : Int) * 64 + 64 ≤ _; omega, hs⟩
  · rintro i (rfl | rfl | rfl | hi)
    · exact .inl (HF.out _ (.inl rfl))
    · exact .inl (HF.out _ (.inr (.inl rfl)))
    · exact .inl (HF.out _ (.inr (.inr (.inl rfl))))
    · exact (hrow i hi).2
  · refine (Turned.grown t1.out hgrow3 ?_).setCell (.inl (HF.out g (.inl rfl))) _
    intro k hk
    exact .inl (HF.out k (.inr (.inr (.inr hk))))
end Go.Proofs.Ytikekepiimaccaa.Dk

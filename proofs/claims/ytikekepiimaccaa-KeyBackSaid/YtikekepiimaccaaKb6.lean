/- Printed by hp.py, a program of this session, out of the translation: each Go function as a plain Lean function and the contract of its call. No conditions beyond those in the statements. -/
import Derived.Test.YtikekepiimaccaaKb0
import Derived.Test.YtikekepiimaccaaKb1
import Derived.Test.YtikekepiimaccaaKb3
import Derived.Test.YtikekepiimaccaaKb4
import Derived.Test.YtikekepiimaccaaKb5
namespace Go.Proofs.Ytikekepiimaccaa.Kb
open Go.RowKit Go.Proofs.YtikekepiimaccaaW.PrintWords Go.Proofs.YtikekepiimaccaaW.PrintLast Go.Proofs.YtikekepiimaccaaW.PrintMore
attribute [local go_sem] max2_int min2_int max_two min_two max_three min_three max_four min_four   -- for this text's walks alone
set_option linter.unusedVariables false
set_option linter.unusedSimpArgs false

attribute [local go_sem high] eqA32
/-! ### holtlaw12_KeyBack: function 5 -/
mutual
def holtlaw12_KeyBack.j0 : Nat → List Int → ByteArray → ByteArray → Int → Bool → Option (Bool)
  | 0, _, _, _, _, _ => none
  | k + 1, x1, x2, x11, x12, x60 => if x60 = true then (some false) else (if (x1.length : Int) > 80 then (holtlaw12_KeyBack.j1 k x1 x2 x11 x12 true) else (holtlaw12_KeyBack.j1 k x1 x2 x11 x12 (decide ((wrap64 ((wrap64 (8 * (x1.length : Int))) + (x2.size : Int))) > 80))))
def holtlaw12_KeyBack.j1 : Nat → List Int → ByteArray → ByteArray → Int → Bool → Option (Bool)
  | 0, _, _, _, _, _ => none
  | k + 1, x1, x2, x11, x12, x72 => if x72 = true then ((holtlaw0_Num.f x12).bind fun t187 => (some (t187 == 1200))) else ((key_Unpack.f k x11 (x1.length : Int)).bind fun bt188 => ((holtlaw0_Num.f x12).bind fun t193 => (if t193 = 0 then ((holtlaw0_Num.f bt188.2.2).bind fun t194 => (if t194 = 0 then ((holtlaw0_SameNums.f k x1 bt188.1).bind fun t195 => (if t195 = true then (some (bt188.2.1.toList == x2.toList)) else (some false))) else (some false))) else (some false))))
end
def holtlaw12_KeyBack.f (k : Nat) (a0_0 : Int) (a0_1 : Int) (a0_2 : Int) (a0_3 : Int) (a0_4 : Int) (a0_5 : Int) (a0_6 : Int) (l1 : List Int) (a2 : ByteArray) : Option (Bool) := (holtlaw12_awake.f k).bind fun t171 => (if t171 = true then ((key_OfInode.f k (wrap64 (1 + (wrap64 (Int.tmod (IntKind.u64.wrap (a0_0)) 3)))) a0_1 a0_2 a0_3 a0_4 a0_5 a0_6).bind fun bt172 => ((key_ToInode.f k bt172.1).bind fun bt174 => ((key_Pack.f k l1 a2).bind fun bt183 => ((holtlaw0_Num.f bt172.2).bind fun t185 => (if t185 = 0 then ((holtlaw0_Num.f bt174.2.2.2.2.2.2.2).bind fun t186 => (if t186 = 0 then (if ((!((wrap64 (1 + (wrap64 (Int.tmod (IntKind.u64.wrap (a0_0)) 3)))) == bt174.1) || (!(a0_1 == bt174.2.1) || (!(a0_2 == bt174.2.2.1) || (!(a0_3 == bt174.2.2.2.1))))) || (!(a0_4 == bt174.2.2.2.2.1) || (!(a0_5 == bt174.2.2.2.2.2.1) || (!(a0_6 == bt174.2.2.2.2.2.2.1))))) = true then (holtlaw12_KeyBack.j0 k l1 a2 bt183.1 bt183.2 true) else (holtlaw12_KeyBack.j0 k l1 a2 bt183.1 bt183.2 ((bt172.1.size : Int) != 45))) else (holtlaw12_KeyBack.j0 k l1 a2 bt183.1 bt183.2 true))) else (holtlaw12_KeyBack.j0 k l1 a2 bt183.1 bt183.2 true)))))) else (some false))
theorem holtlaw12_KeyBack.mono_l : ∀ k, (∀ y0 y1 y2 y3 y4, LeO (holtlaw12_KeyBack.j0 k y0 y1 y2 y3 y4) (holtlaw12_KeyBack.j0 (k + 1) y0 y1 y2 y3 y4)) ∧ (∀ y0 y1 y2 y3 y4, LeO (holtlaw12_KeyBack.j1 k y0 y1 y2 y3 y4) (holtlaw12_KeyBack.j1 (k + 1) y0 y1 y2 y3 y4))
  | 0 => ⟨fun _ _ _ _ _ r h => by simp [holtlaw12_KeyBack.j0] at h, fun _ _ _ _ _ r h => by simp [holtlaw12_KeyBack.j1] at h⟩
  | k + 1 => by
    obtain ⟨ih0, ih1⟩ := holtlaw12_KeyBack.mono_l k
    refine ⟨?_, ?_⟩
    · intro y0 y1 y2 y3 y4
      unfold holtlaw12_KeyBack.j0
      repeat' first
      | (with_reducible exact ih0 _ _ _ _ _)
      | (with_reducible exact ih1 _ _ _ _ _)
      | (with_reducible exact holtlaw0_SameNums.mono _ _ _)
      | (with_reducible exact holtlaw12_awake.mono _)
      | (with_reducible exact key_OfInode.mono _ _ _ _ _ _ _ _)
      | (with_reducible exact key_Pack.mono _ _ _)
      | (with_reducible exact key_ToInode.mono _ _)
      | (with_reducible exact key_Unpack.mono _ _ _)
      | (with_reducible exact LeO.refl _)
      | (with_reducible exact LeO.none _)
      | (with_reducible refine LeO.ite ?_ ?_)
      | (with_reducible refine LeO.bind ?_ (fun _ => ?_))
      | exact ih0 _ _ _ _ _
      | exact ih1 _ _ _ _ _
      | exact holtlaw0_SameNums.mono _ _ _
      | exact holtlaw12_awake.mono _
      | exact key_OfInode.mono _ _ _ _ _ _ _ _
      | exact key_Pack.mono _ _ _
      | exact key_ToInode.mono _ _
      | exact key_Unpack.mono _ _ _
      | exact LeO.none _
      | refine LeO.ite ?_ ?_
      | refine LeO.bind ?_ (fun _ => ?_)
    · intro y0 y1 y2 y3 y4
      unfold holtlaw12_KeyBack.j1
      repeat' first
      | (with_reducible exact ih0 _ _ _ _ _)
      | (with_reducible exact ih1 _ _ _ _ _)
      | (with_reducible exact holtlaw0_SameNums.mono _ _ _)
      | (with_reducible exact holtlaw12_awake.mono _)
      | (with_reducible exact key_OfInode.mono _ _ _ _ _ _ _ _)
      | (with_reducible exact key_Pack.mono _ _ _)
      | (with_reducible exact key_ToInode.mono _ _)
      | (with_reducible exact key_Unpack.mono _ _ _)
      | (with_reducible exact LeO.refl _)
      | (with_reducible exact LeO.none _)
      | (with_reducible refine LeO.ite ?_ ?_)
      | (with_reducible refine LeO.bind ?_ (fun _ => ?_))
      | exact ih0 _ _ _ _ _
      | exact ih1 _ _ _ _ _
      | exact holtlaw0_SameNums.mono _ _ _
      | exact holtlaw12_awake.mono _
      | exact key_OfInode.mono _ _ _ _ _ _ _ _
      | exact key_Pack.mono _ _ _
      | exact key_ToInode.mono _ _
      | exact key_Unpack.mono _ _ _
      | exact LeO.none _
      | refine LeO.ite ?_ ?_
      | refine LeO.bind ?_ (fun _ => ?_)
theorem holtlaw12_KeyBack.mono : ∀ a0 a1 a2 a3 a4 a5 a6 a7 a8 k, LeO (holtlaw12_KeyBack.f k a0 a1 a2 a3 a4 a5 a6 a7 a8) (holtlaw12_KeyBack.f (k + 1) a0 a1 a2 a3 a4 a5 a6 a7 a8) := by
  intro a0 a1 a2 a3 a4 a5 a6 a7 a8 k
  obtain ⟨ih0, ih1⟩ := holtlaw12_KeyBack.mono_l k
  unfold holtlaw12_KeyBack.f
  repeat' first
      | (with_reducible exact ih0 _ _ _ _ _)
      | (with_reducible exact ih1 _ _ _ _ _)
      | (with_reducible exact holtlaw0_SameNums.mono _ _ _)
      | (with_reducible exact holtlaw12_awake.mono _)
      | (with_reducible exact key_OfInode.mono _ _ _ _ _ _ _ _)
      | (with_reducible exact key_Pack.mono _ _ _)
      | (with_reducible exact key_ToInode.mono _ _)
      | (with_reducible exact key_Unpack.mono _ _ _)
      | (with_reducible exact LeO.refl _)
      | (with_reducible exact LeO.none _)
      | (with_reducible refine LeO.ite ?_ ?_)
      | (with_reducible refine LeO.bind ?_ (fun _ => ?_))
      | exact ih0 _ _ _ _ _
      | exact ih1 _ _ _ _ _
      | exact holtlaw0_SameNums.mono _ _ _
      | exact holtlaw12_awake.mono _
      | exact key_OfInode.mono _ _ _ _ _ _ _ _
      | exact key_Pack.mono _ _ _
      | exact key_ToInode.mono _ _
      | exact key_Unpack.mono _ _ _
      | exact LeO.none _
      | refine LeO.ite ?_ ?_
      | refine LeO.bind ?_ (fun _ => ?_)
set_option maxHeartbeats 8000000 in
set_option maxRecDepth 100000 in
theorem holtlaw12_KeyBack.calls (k : Nat) (a0_0 : Int) (a0_1 : Int) (a0_2 : Int) (a0_3 : Int) (a0_4 : Int) (a0_5 : Int) (a0_6 : Int) (A1 : Option Addr) (c1 : Nat) (l1 : List Int) (a2 : ByteArray) (r : Bool) (w : World) (hr1 : Kd.C (Kd.int .u64) w A1 l1.length l1) (hc1 : l1.length ≤ c1) (h : holtlaw12_KeyBack.f k a0_0 a0_1 a0_2 a0_3 a0_4 a0_5 a0_6 l1 a2 = some r) :
    Calls Try.prog 5 #[.agg #[.int .i64 a0_0, .int .u32 a0_1, .int .u64 a0_2, .int .u64 a0_3, .int .u64 a0_4, .int .u64 a0_5, .int .u64 a0_6], .slice A1 l1.length c1, .string a2] w fun e w' => e = .returned (.bool r) ∧ Below w.heap.size w w' := by
  have hu32 := Try.underlying32
  have HR1 := Aside0.mk hr1
  have HC1 := Aside0.mk hc1
  clear hr1 hc1
  have HB := Aside0.mk (Below.refl w.heap.size w)
  have H : ((holtlaw12_awake.f k).bind fun t171 => (if t171 = true then ((key_OfInode.f k (wrap64 (1 + (wrap64 (Int.tmod (IntKind.u64.wrap (a0_0)) 3)))) a0_1 a0_2 a0_3 a0_4 a0_5 a0_6).bind fun bt172 => ((key_ToInode.f k bt172.1).bind fun bt174 => ((key_Pack.f k l1 a2).bind fun bt183 => ((holtlaw0_Num.f bt172.2).bind fun t185 => (if t185 = 0 then ((holtlaw0_Num.f bt174.2.2.2.2.2.2.2).bind fun t186 => (if t186 = 0 then (if ((!((wrap64 (1 + (wrap64 (Int.tmod (IntKind.u64.wrap (a0_0)) 3)))) == bt174.1) || (!(a0_1 == bt174.2.1) || (!(a0_2 == bt174.2.2.1) || (!(a0_3 == bt174.2.2.2.1))))) || (!(a0_4 == bt174.2.2.2.2.1) || (!(a0_5 == bt174.2.2.2.2.2.1) || (!(a0_6 == bt174.2.2.2.2.2.2.1))))) = true then (holtlaw12_KeyBack.j0 k l1 a2 bt183.1 bt183.2 true) else (holtlaw12_KeyBack.j0 k l1 a2 bt183.1 bt183.2 ((bt172.1.size : Int) != 45))) else (holtlaw12_KeyBack.j0 k l1 a2 bt183.1 bt183.2 true))) else (holtlaw12_KeyBack.j0 k l1 a2 bt183.1 bt183.2 true)))))) else (some false))) = some r := h
  clear h
  replace H := Option.bind_eq_some_iff.mp H
  obtain ⟨t171, A40, H⟩ := H
  replace H : (if t171 = true then ((key_OfInode.f k (wrap64 (1 + (wrap64 (Int.tmod (IntKind.u64.wrap (a0_0)) 3)))) a0_1 a0_2 a0_3 a0_4 a0_5 a0_6).bind fun bt172 => ((key_ToInode.f k bt172.1).bind fun bt174 => ((key_Pack.f k l1 a2).bind fun bt183 => ((holtlaw0_Num.f bt172.2).bind fun t185 => (if t185 = 0 then ((holtlaw0_Num.f bt174.2.2.2.2.2.2.2).bind fun t186 => (if t186 = 0 then (if ((!((wrap64 (1 + (wrap64 (Int.tmod (IntKind.u64.wrap (a0_0)) 3)))) == bt174.1) || (!(a0_1 == bt174.2.1) || (!(a0_2 == bt174.2.2.1) || (!(a0_3 == bt174.2.2.2.1))))) || (!(a0_4 == bt174.2.2.2.2.1) || (!(a0_5 == bt174.2.2.2.2.2.1) || (!(a0_6 == bt174.2.2.2.2.2.2.1))))) = true then (holtlaw12_KeyBack.j0 k l1 a2 bt183.1 bt183.2 true) else (holtlaw12_KeyBack.j0 k l1 a2 bt183.1 bt183.2 ((bt172.1.size : Int) != 45))) else (holtlaw12_KeyBack.j0 k l1 a2 bt183.1 bt183.2 true))) else (holtlaw12_KeyBack.j0 k l1 a2 bt183.1 bt183.2 true)))))) else (some false)) = some r := H
  have A4 := Aside0.mk A40
  clear A40
  by_cases c5 : t171 = true
  · subst c5
    have H1 : ((key_OfInode.f k (wrap64 (1 + (wrap64 (Int.tmod (IntKind.u64.wrap (a0_0)) 3)))) a0_1 a0_2 a0_3 a0_4 a0_5 a0_6).bind fun bt172 => ((key_ToInode.f k bt172.1).bind fun bt174 => ((key_Pack.f k l1 a2).bind fun bt183 => ((holtlaw0_Num.f bt172.2).bind fun t185 => (if t185 = 0 then ((holtlaw0_Num.f bt174.2.2.2.2.2.2.2).bind fun t186 => (if t186 = 0 then (if ((!((wrap64 (1 + (wrap64 (Int.tmod (IntKind.u64.wrap (a0_0)) 3)))) == bt174.1) || (!(a0_1 == bt174.2.1) || (!(a0_2 == bt174.2.2.1) || (!(a0_3 == bt174.2.2.2.1))))) || (!(a0_4 == bt174.2.2.2.2.1) || (!(a0_5 == bt174.2.2.2.2.2.1) || (!(a0_6 == bt174.2.2.2.2.2.2.1))))) = true then (holtlaw12_KeyBack.j0 k l1 a2 bt183.1 bt183.2 true) else (holtlaw12_KeyBack.j0 k l1 a2 bt183.1 bt183.2 ((bt172.1.size : Int) != 45))) else (holtlaw12_KeyBack.j0 k l1 a2 bt183.1 bt183.2 true))) else (holtlaw12_KeyBack.j0 k l1 a2 bt183.1 bt183.2 true)))))) = some r := by rw [if_pos rfl] at H; exact H
    clear H
    have H := H1
    clear H1
    replace H := Option.bind_eq_some_iff.mp H
    obtain ⟨⟨t172, t173⟩, A60, H⟩ := H
    replace H : ((key_ToInode.f k t172).bind fun bt174 => ((key_Pack.f k l1 a2).bind fun bt183 => ((holtlaw0_Num.f t173).bind fun t185 => (if t185 = 0 then ((holtlaw0_Num.f bt174.2.2.2.2.2.2.2).bind fun t186 => (if t186 = 0 then (if ((!((wrap64 (1 + (wrap64 (Int.tmod (IntKind.u64.wrap (a0_0)) 3)))) == bt174.1) || (!(a0_1 == bt174.2.1) || (!(a0_2 == bt174.2.2.1) || (!(a0_3 == bt174.2.2.2.1))))) || (!(a0_4 == bt174.2.2.2.2.1) || (!(a0_5 == bt174.2.2.2.2.2.1) || (!(a0_6 == bt174.2.2.2.2.2.2.1))))) = true then (holtlaw12_KeyBack.j0 k l1 a2 bt183.1 bt183.2 true) else (holtlaw12_KeyBack.j0 k l1 a2 bt183.1 bt183.2 ((t172.size : Int) != 45))) else (holtlaw12_KeyBack.j0 k l1 a2 bt183.1 bt183.2 true))) else (holtlaw12_KeyBack.j0 k l1 a2 bt183.1 bt183.2 true))))) = some r := H
    have A6 := Aside0.mk A60
    clear A60
    replace H := Option.bind_eq_some_iff.mp H
    obtain ⟨⟨t174, t175, t176, t177, t178, t179, t180, t181⟩, A70, H⟩ := H
    replace H : ((key_Pack.f k l1 a2).bind fun bt183 => ((holtlaw0_Num.f t173).bind fun t185 => (if t185 = 0 then ((holtlaw0_Num.f t181).bind fun t186 => (if t186 = 0 then (if ((!((wrap64 (1 + (wrap64 (Int.tmod (IntKind.u64.wrap (a0_0)) 3)))) == t174) || (!(a0_1 == t175) || (!(a0_2 == t176) || (!(a0_3 == t177))))) || (!(a0_4 == t178) || (!(a0_5 == t179) || (!(a0_6 == t180))))) = true then (holtlaw12_KeyBack.j0 k l1 a2 bt183.1 bt183.2 true) else (holtlaw12_KeyBack.j0 k l1 a2 bt183.1 bt183.2 ((t172.size : Int) != 45))) else (holtlaw12_KeyBack.j0 k l1 a2 bt183.1 bt183.2 true))) else (holtlaw12_KeyBack.j0 k l1 a2 bt183.1 bt183.2 true)))) = some r := H
    have A7 := Aside0.mk A70
    clear A70
    replace H := Option.bind_eq_some_iff.mp H
    obtain ⟨⟨t183, t184⟩, A80, H⟩ := H
    replace H : ((holtlaw0_Num.f t173).bind fun t185 => (if t185 = 0 then ((holtlaw0_Num.f t181).bind fun t186 => (if t186 = 0 then (if ((!((wrap64 (1 + (wrap64 (Int.tmod (IntKind.u64.wrap (a0_0)) 3)))) == t174) || (!(a0_1 == t175) || (!(a0_2 == t176) || (!(a0_3 == t177))))) || (!(a0_4 == t178) || (!(a0_5 == t179) || (!(a0_6 == t180))))) = true then (holtlaw12_KeyBack.j0 k l1 a2 t183 t184 true) else (holtlaw12_KeyBack.j0 k l1 a2 t183 t184 ((t172.size : Int) != 45))) else (holtlaw12_KeyBack.j0 k l1 a2 t183 t184 true))) else (holtlaw12_KeyBack.j0 k l1 a2 t183 t184 true))) = some r := H
    have A8 := Aside0.mk A80
    clear A80
    have HC9 := Aside0.mk H
    clear H
    go_enter Try.func5, Try.ntmps5
    go_upto_region 7 with (first | ((with_reducible refine gate_dst (N := 3) rfl ?_); (try (refine gate_guard (by rfl) ?_; dsimp only)); refine box_event ?hg (N := 3) ?hd (cs := #[.int .i64 a0_0, .int .u32 a0_1, .int .u64 a0_2, .int .u64 a0_3, .int .u64 a0_4, .int .u64 a0_5, .int .u64 a0_6]) (t := 32) ?hr ?_; (case hd => rfl); (case hg => rfl); (case hr => first | (go_simp; done) | (go_simp; rfl)); intro gb170 hg w10 hbox hb; have n0_ := Aside0.mk (below_step (by repeat (first | (with_reducible first | exact HB.out | apply below_alloc | apply pw_below_drewN | apply below_drew1) | exact HB.out)) hb); have n1_ := Aside0.mk (hbox); have n2_ := Aside0.mk ((by rw [hg]; exact (below_size (by repeat (first | (with_reducible first | exact HB.out | apply below_alloc | apply pw_below_drewN | apply below_drew1) | exact HB.out))) : w.heap.size ≤ gb170)); have n3_ := Aside0.mk ((by rw [hg]; exact (below_size (by repeat (first | (with_reducible first | exact HB.out | apply below_alloc | apply pw_below_drewN | apply below_drew1) | exact HB.out))) : w.heap.size ≤ gb170)); clear HB; have HB := n0_; have BK170 := n1_; have GW170 := n2_; have GE170 := n3_; clear n0_ n1_ n2_ n3_; clear hb hbox hg) | ((with_reducible refine gate_callee (f := 15) rfl ?_); refine goesL_ (some 16) rfl rfl Try.func15 (by kernel_rfl) rfl #[] rfl (by (try simp only [List.map_toArray, List.map_cons, List.map_nil]); first | done | rfl | (simp only [List.length_drop, List.length_take]; rfl)) ?_; (with_reducible refine (holtlaw12_awake.calls k  true _ A4.out).mono ?_); rintro e w11 ⟨rfl, hb⟩; refine ⟨_, rfl, ?_⟩; have n0_ := Aside0.mk (blk_below (g := gb170) (o := .cells #[.int .i64 a0_0, .int .u32 a0_1, .int .u64 a0_2, .int .u64 a0_3, .int .u64 a0_4, .int .u64 a0_5, .int .u64 a0_6] 32 (0, 0)) (by (with_reducible repeat (first | refine blk_drewN ?_ _ | refine blk_drew ?_ | refine blk_alloc ?_ _)); exact BK170.out) hb); have n1_ := Aside0.mk (below_step (by repeat (first | (with_reducible first | exact HB.out | apply below_alloc | apply pw_below_drewN | apply below_drew1 | refine below_set ?_ GE170.out) | exact HB.out)) hb); clear BK170; clear HB; have BK170 := n0_; have HB := n1_; clear n0_ n1_; (try clear hb); (try clear hb2); (try clear hk); (try clear hi); have hcz12_0 : w11.cell? ⟨gb170, 0, none⟩ = some (.int .i64 a0_0) := (blk_cell BK170.out 0).trans rfl; have hcz12_1 : w11.cell? ⟨gb170, 1, none⟩ = some (.int .u32 a0_1) := (blk_cell BK170.out 1).trans rfl; have hcz12_2 : w11.cell? ⟨gb170, 2, none⟩ = some (.int .u64 a0_2) := (blk_cell BK170.out 2).trans rfl; have hcz12_3 : w11.cell? ⟨gb170, 3, none⟩ = some (.int .u64 a0_3) := (blk_cell BK170.out 3).trans rfl; have hcz12_4 : w11.cell? ⟨gb170, 4, none⟩ = some (.int .u64 a0_4) := (blk_cell BK170.out 4).trans rfl; have hcz12_5 : w11.cell? ⟨gb170, 5, none⟩ = some (.int .u64 a0_5) := (blk_cell BK170.out 5).trans rfl; have hcz12_6 : w11.cell? ⟨gb170, 6, none⟩ = some (.int .u64 a0_6) := (blk_cell BK170.out 6).trans rfl; have hfz12_0 := blk_frozen BK170.out 0; have hfz12_1 := blk_frozen BK170.out 1; have hfz12_2 := blk_frozen BK170.out 2; have hfz12_3 := blk_frozen BK170.out 3; have hfz12_4 := blk_frozen BK170.out 4; have hfz12_5 := blk_frozen BK170.out 5; have hfz12_6 := blk_frozen BK170.out 6) | ((with_reducible refine gate_callee (f := 21) rfl ?_); refine goesL_ (some 29) rfl rfl Try.func21 (by kernel_rfl) rfl #[.agg #[.int .i64 (wrap64 (1 + (wrap64 (Int.tmod (IntKind.u64.wrap (a0_0)) 3)))), .int .u32 a0_1, .int .u64 a0_2, .int .u64 a0_3, .int .u64 a0_4, .int .u64 a0_5, .int .u64 a0_6]] rfl (by (try simp only [List.map_toArray, List.map_cons, List.map_nil]); first | done | rfl | (simp only [List.length_drop, List.length_take]; rfl)) ?_; (with_reducible refine (key_OfInode.calls k (wrap64 (1 + (wrap64 (Int.tmod (IntKind.u64.wrap (a0_0)) 3)))) a0_1 a0_2 a0_3 a0_4 a0_5 a0_6 t172 t173 _ A6.out).mono ?_); rintro e w13 ⟨rfl, hb⟩; refine ⟨_, rfl, ?_⟩; have n0_ := Aside0.mk (blk_below (g := gb170) (o := .cells #[.int .i64 (wrap64 (1 + (wrap64 (Int.tmod (IntKind.u64.wrap (a0_0)) 3)))), .int .u32 a0_1, .int .u64 a0_2, .int .u64 a0_3, .int .u64 a0_4, .int .u64 a0_5, .int .u64 a0_6] 32 (0, 0)) (by (with_reducible repeat (first | refine blk_drewN ?_ _ | refine blk_drew ?_ | refine blk_alloc ?_ _)); refine blk_put (cs := #[.int .i64 a0_0, .int .u32 a0_1, .int .u64 a0_2, .int .u64 a0_3, .int .u64 a0_4, .int .u64 a0_5, .int .u64 a0_6]) ?_ 0 _ rfl; (with_reducible repeat (first | refine blk_drewN ?_ _ | refine blk_drew ?_ | refine blk_alloc ?_ _)); exact BK170.out) hb); have n1_ := Aside0.mk (below_step (by repeat (first | (with_reducible first | exact HB.out | apply below_alloc | apply pw_below_drewN | apply below_drew1 | refine below_set ?_ GE170.out) | exact HB.out)) hb); clear BK170; clear HB; have BK170 := n0_; have HB := n1_; clear n0_ n1_; (try clear hb); (try clear hb2); (try clear hk); (try clear hi)) | ((with_reducible refine gate_callee (f := 23) rfl ?_); refine goesL_ (some 34) rfl rfl Try.func23 (by kernel_rfl) rfl #[.string t172] rfl (by (try simp only [List.map_toArray, List.map_cons, List.map_nil]); first | done | rfl | (simp only [List.length_drop, List.length_take]; rfl)) ?_; (with_reducible refine (key_ToInode.calls k t172 t174 t175 t176 t177 t178 t179 t180 t181 _ A7.out).mono ?_); rintro e w14 ⟨rfl, hb⟩; refine ⟨_, rfl, ?_⟩; have n0_ := Aside0.mk (blk_below (g := gb170) (o := .cells #[.int .i64 (wrap64 (1 + (wrap64 (Int.tmod (IntKind.u64.wrap (a0_0)) 3)))), .int .u32 a0_1, .int .u64 a0_2, .int .u64 a0_3, .int .u64 a0_4, .int .u64 a0_5, .int .u64 a0_6] 32 (0, 0)) (by (with_reducible repeat (first | refine blk_drewN ?_ _ | refine blk_drew ?_ | refine blk_alloc ?_ _)); exact BK170.out) hb); have n1_ := Aside0.mk (below_step (by repeat (first | (with_reducible first | exact HB.out | apply below_alloc | apply pw_below_drewN | apply below_drew1 | refine below_set ?_ GE170.out) | exact HB.out)) hb); clear BK170; clear HB; have BK170 := n0_; have HB := n1_; clear n0_ n1_; (try clear hb); (try clear hb2); (try clear hk); (try clear hi)) | ((with_reducible refine gate_dst (N := 9) rfl ?_); (try (refine gate_guard (by rfl) ?_; dsimp only)); refine box_event ?hg (N := 9) ?hd (cs := #[.int .i64 0, .int .u32 0, .int .u64 0, .int .u64 0, .int .u64 0, .int .u64 0, .int .u64 0]) (t := 32) ?hr ?_; (case hd => rfl); (case hg => rfl); (case hr => first | (go_simp; done) | (go_simp; rfl)); intro gb182 hg w15 hbox hb; have n0_ := Aside0.mk (blk_below (g := gb170) (o := .cells #[.int .i64 (wrap64 (1 + (wrap64 (Int.tmod (IntKind.u64.wrap (a0_0)) 3)))), .int .u32 a0_1, .int .u64 a0_2, .int .u64 a0_3, .int .u64 a0_4, .int .u64 a0_5, .int .u64 a0_6] 32 (0, 0)) (by (with_reducible repeat (first | refine blk_drewN ?_ _ | refine blk_drew ?_ | refine blk_alloc ?_ _)); exact BK170.out) hb); have n1_ := Aside0.mk (below_step (by repeat (first | (with_reducible first | exact HB.out | apply below_alloc | apply pw_below_drewN | apply below_drew1 | refine below_set ?_ GE170.out) | exact HB.out)) hb); have n2_ := Aside0.mk (hbox); have n3_ := Aside0.mk ((by rw [hg]; exact (below_size (by repeat (first | (with_reducible first | exact HB.out | apply below_alloc | apply pw_below_drewN | apply below_drew1 | refine below_set ?_ GE170.out) | exact HB.out))) : w.heap.size ≤ gb182)); have n4_ := Aside0.mk ((by rw [hg]; exact (below_size (by repeat (first | (with_reducible first | exact HB.out | apply below_alloc | apply pw_below_drewN | apply below_drew1 | refine below_set ?_ GE170.out) | exact HB.out))) : w.heap.size ≤ gb182)); have n5_ := Aside0.mk ((by rw [hg]; exact Nat.ne_of_lt (blk_lt (g := gb170) (o := .cells #[.int .i64 (wrap64 (1 + (wrap64 (Int.tmod (IntKind.u64.wrap (a0_0)) 3)))), .int .u32 a0_1, .int .u64 a0_2, .int .u64 a0_3, .int .u64 a0_4, .int .u64 a0_5, .int .u64 a0_6] 32 (0, 0)) (by (with_reducible repeat (first | refine blk_drewN ?_ _ | refine blk_drew ?_ | refine blk_alloc ?_ _)); exact BK170.out)) : gb170 ≠ gb182)); have n6_ := Aside0.mk ((by rw [hg]; exact Nat.ne_of_gt (blk_lt (g := gb170) (o := .cells #[.int .i64 (wrap64 (1 + (wrap64 (Int.tmod (IntKind.u64.wrap (a0_0)) 3)))), .int .u32 a0_1, .int .u64 a0_2, .int .u64 a0_3, .int .u64 a0_4, .int .u64 a0_5, .int .u64 a0_6] 32 (0, 0)) (by (with_reducible repeat (first | refine blk_drewN ?_ _ | refine blk_drew ?_ | refine blk_alloc ?_ _)); exact BK170.out)) : gb182 ≠ gb170)); clear BK170; clear HB; have BK170 := n0_; have HB := n1_; have BK182 := n2_; have GW182 := n3_; have GE182 := n4_; have NB170_182 := n5_; have NB182_170 := n6_; clear n0_ n1_ n2_ n3_ n4_ n5_ n6_; clear hb hbox hg; have hnb16 := NB182_170.out; have hnc16 := NB170_182.out; have hcz17_0 : w15.cell? ⟨gb182, 0, none⟩ = some (.int .i64 0) := (blk_cell BK182.out 0).trans rfl; have hcz17_1 : w15.cell? ⟨gb182, 1, none⟩ = some (.int .u32 0) := (blk_cell BK182.out 1).trans rfl; have hcz17_2 : w15.cell? ⟨gb182, 2, none⟩ = some (.int .u64 0) := (blk_cell BK182.out 2).trans rfl; have hcz17_3 : w15.cell? ⟨gb182, 3, none⟩ = some (.int .u64 0) := (blk_cell BK182.out 3).trans rfl; have hcz17_4 : w15.cell? ⟨gb182, 4, none⟩ = some (.int .u64 0) := (blk_cell BK182.out 4).trans rfl; have hcz17_5 : w15.cell? ⟨gb182, 5, none⟩ = some (.int .u64 0) := (blk_cell BK182.out 5).trans rfl; have hcz17_6 : w15.cell? ⟨gb182, 6, none⟩ = some (.int .u64 0) := (blk_cell BK182.out 6).trans rfl; have hfz17_0 := blk_frozen BK182.out 0; have hfz17_1 := blk_frozen BK182.out 1; have hfz17_2 := blk_frozen BK182.out 2; have hfz17_3 := blk_frozen BK182.out 3; have hfz17_4 := blk_frozen BK182.out 4; have hfz17_5 := blk_frozen BK182.out 5; have hfz17_6 := blk_frozen BK182.out 6) | ((with_reducible refine gate_callee (f := 26) rfl ?_); refine goesL_ (some 40) rfl rfl Try.func26 (by kernel_rfl) rfl #[.slice A1 l1.length c1, .string a2] rfl (by (try simp only [List.map_toArray, List.map_cons, List.map_nil]); first | done | rfl | (simp only [List.length_drop, List.length_take]; rfl)) ?_; (with_reducible refine (key_Pack.calls k _ _ l1 a2 t183 t184 _ ?side1 ?side2 A8.out).mono ?_); (case side1 => exact Kd.C_below HR1.out (by repeat (first | (with_reducible first | exact HB.out | apply below_alloc | apply pw_below_drewN | apply below_drew1 | refine below_set ?_ GE170.out | refine below_set ?_ GE182.out) | exact HB.out))); (case side2 => exact HC1.out); rintro e w18 ⟨rfl, hb⟩; refine ⟨_, rfl, ?_⟩; have n0_ := Aside0.mk (blk_below (g := gb170) (o := .cells #[.int .i64 (wrap64 (1 + (wrap64 (Int.tmod (IntKind.u64.wrap (a0_0)) 3)))), .int .u32 a0_1, .int .u64 a0_2, .int .u64 a0_3, .int .u64 a0_4, .int .u64 a0_5, .int .u64 a0_6] 32 (0, 0)) (by (with_reducible repeat (first | refine blk_drewN ?_ _ | refine blk_drew ?_ | refine blk_alloc ?_ _)); refine blk_far ?_ NB170_182.out _; (with_reducible repeat (first | refine blk_drewN ?_ _ | refine blk_drew ?_ | refine blk_alloc ?_ _)); refine blk_far ?_ NB170_182.out _; (with_reducible repeat (first | refine blk_drewN ?_ _ | refine blk_drew ?_ | refine blk_alloc ?_ _)); refine blk_far ?_ NB170_182.out _; (with_reducible repeat (first | refine blk_drewN ?_ _ | refine blk_drew ?_ | refine blk_alloc ?_ _)); refine blk_far ?_ NB170_182.out _; (with_reducible repeat (first | refine blk_drewN ?_ _ | refine blk_drew ?_ | refine blk_alloc ?_ _)); refine blk_far ?_ NB170_182.out _; (with_reducible repeat (first | refine blk_drewN ?_ _ | refine blk_drew ?_ | refine blk_alloc ?_ _)); refine blk_far ?_ NB170_182.out _; (with_reducible repeat (first | refine blk_drewN ?_ _ | refine blk_drew ?_ | refine blk_alloc ?_ _)); refine blk_far ?_ NB170_182.out _; (with_reducible repeat (first | refine blk_drewN ?_ _ | refine blk_drew ?_ | refine blk_alloc ?_ _)); exact BK170.out) hb); have n1_ := Aside0.mk (blk_below (g := gb182) (o := .cells #[.int .i64 t174, .int .u32 t175, .int .u64 t176, .int .u64 t177, .int .u64 t178, .int .u64 t179, .int .u64 t180] 32 (0, 0)) (by (with_reducible repeat (first | refine blk_drewN ?_ _ | refine blk_drew ?_ | refine blk_alloc ?_ _)); refine blk_put (cs := #[.int .i64 t174, .int .u32 t175, .int .u64 t176, .int .u64 t177, .int .u64 t178, .int .u64 t179, .int .u64 0]) ?_ 6 _ rfl; (with_reducible repeat (first | refine blk_drewN ?_ _ | refine blk_drew ?_ | refine blk_alloc ?_ _)); refine blk_put (cs := #[.int .i64 t174, .int .u32 t175, .int .u64 t176, .int .u64 t177, .int .u64 t178, .int .u64 0, .int .u64 0]) ?_ 5 _ rfl; (with_reducible repeat (first | refine blk_drewN ?_ _ | refine blk_drew ?_ | refine blk_alloc ?_ _)); refine blk_put (cs := #[.int .i64 t174, .int .u32 t175, .int .u64 t176, .int .u64 t177, .int .u64 0, .int .u64 0, .int .u64 0]) ?_ 4 _ rfl; (with_reducible repeat (first | refine blk_drewN ?_ _ | refine blk_drew ?_ | refine blk_alloc ?_ _)); refine blk_put (cs := #[.int .i64 t174, .int .u32 t175, .int .u64 t176, .int .u64 0, .int .u64 0, .int .u64 0, .int .u64 0]) ?_ 3 _ rfl; (with_reducible repeat (first | refine blk_drewN ?_ _ | refine blk_drew ?_ | refine blk_alloc ?_ _)); refine blk_put (cs := #[.int .i64 t174, .int .u32 t175, .int .u64 0, .int .u64 0, .int .u64 0, .int .u64 0, .int .u64 0]) ?_ 2 _ rfl; (with_reducible repeat (first | refine blk_drewN ?_ _ | refine blk_drew ?_ | refine blk_alloc ?_ _)); refine blk_put (cs := #[.int .i64 t174, .int .u32 0, .int .u64 0, .int .u64 0, .int .u64 0, .int .u64 0, .int .u64 0]) ?_ 1 _ rfl; (with_reducible repeat (first | refine blk_drewN ?_ _ | refine blk_drew ?_ | refine blk_alloc ?_ _)); refine blk_put (cs := #[.int .i64 0, .int .u32 0, .int .u64 0, .int .u64 0, .int .u64 0, .int .u64 0, .int .u64 0]) ?_ 0 _ rfl; (with_reducible repeat (first | refine blk_drewN ?_ _ | refine blk_drew ?_ | refine blk_alloc ?_ _)); exact BK182.out) hb); have n2_ := Aside0.mk (below_step (by repeat (first | (with_reducible first | exact HB.out | apply below_alloc | apply pw_below_drewN | apply below_drew1 | refine below_set ?_ GE170.out | refine below_set ?_ GE182.out) | exact HB.out)) hb); clear BK170; clear BK182; clear HB; have BK170 := n0_; have BK182 := n1_; have HB := n2_; clear n0_ n1_ n2_; (try clear hb); (try clear hb2); (try clear hk); (try clear hi)))
    (try simp only [Act.put, List.setIfInBounds_toArray, List.set_cons_zero, List.set_cons_succ])
    go_cut [60] (fun v60 wc => ∃ (kq : Nat) (x60_8 : Bool), v60 = .bool x60_8 ∧ Aside0 (holtlaw12_KeyBack.j0 kq l1 a2 t183 t184 x60_8 = some r) ∧ Aside0 (kq ≤ k) ∧ Aside0 (wc.heap[gb170]? = some (.cells #[.int .i64 (wrap64 (1 + (wrap64 (Int.tmod (IntKind.u64.wrap (a0_0)) 3)))), .int .u32 a0_1, .int .u64 a0_2, .int .u64 a0_3, .int .u64 a0_4, .int .u64 a0_5, .int .u64 a0_6] 32 (0, 0))) ∧ Aside0 (wc.heap[gb182]? = some (.cells #[.int .i64 t174, .int .u32 t175, .int .u64 t176, .int .u64 t177, .int .u64 t178, .int .u64 t179, .int .u64 t180] 32 (0, 0))) ∧ Aside0 (Below w.heap.size w wc))
    case first =>
      have H := HC9.out
      clear HC9
      replace H := Option.bind_eq_some_iff.mp H
      obtain ⟨t185, A190, H⟩ := H
      replace H : (if t185 = 0 then ((holtlaw0_Num.f t181).bind fun t186 => (if t186 = 0 then (if ((!((wrap64 (1 + (wrap64 (Int.tmod (IntKind.u64.wrap (a0_0)) 3)))) == t174) || (!(a0_1 == t175) || (!(a0_2 == t176) || (!(a0_3 == t177))))) || (!(a0_4 == t178) || (!(a0_5 == t179) || (!(a0_6 == t180))))) = true then (holtlaw12_KeyBack.j0 k l1 a2 t183 t184 true) else (holtlaw12_KeyBack.j0 k l1 a2 t183 t184 ((t172.size : Int) != 45))) else (holtlaw12_KeyBack.j0 k l1 a2 t183 t184 true))) else (holtlaw12_KeyBack.j0 k l1 a2 t183 t184 true)) = some r := H
      have A19 := Aside0.mk A190
      clear A190
      by_cases c20 : t185 = 0
      · rw [if_pos c20] at H
        have c20b0 : (t185 == 0) = true := beq_iff_eq.mpr c20
        have c20b1 : (t185 != 0) = false := bne_eq_false_iff_eq.mpr c20
        clear c20
        (first | rw [c20b0] | (simp only [i64_w, i32_w]; rw [c20b0]) | skip)
        replace H := Option.bind_eq_some_iff.mp H
        obtain ⟨t186, A210, H⟩ := H
        replace H : (if t186 = 0 then (if ((!((wrap64 (1 + (wrap64 (Int.tmod (IntKind.u64.wrap (a0_0)) 3)))) == t174) || (!(a0_1 == t175) || (!(a0_2 == t176) || (!(a0_3 == t177))))) || (!(a0_4 == t178) || (!(a0_5 == t179) || (!(a0_6 == t180))))) = true then (holtlaw12_KeyBack.j0 k l1 a2 t183 t184 true) else (holtlaw12_KeyBack.j0 k l1 a2 t183 t184 ((t172.size : Int) != 45))) else (holtlaw12_KeyBack.j0 k l1 a2 t183 t184 true)) = some r := H
        have A21 := Aside0.mk A210
        clear A210
        by_cases c22 : t186 = 0
        · rw [if_pos c22] at H
          have c22b0 : (t186 == 0) = true := beq_iff_eq.mpr c22
          have c22b1 : (t186 != 0) = false := bne_eq_false_iff_eq.mpr c22
          clear c22
          by_cases c23 : ((!((wrap64 (1 + (wrap64 (Int.tmod (IntKind.u64.wrap (a0_0)) 3)))) == t174) || (!(a0_1 == t175) || (!(a0_2 == t176) || (!(a0_3 == t177))))) || (!(a0_4 == t178) || (!(a0_5 == t179) || (!(a0_6 == t180))))) = true
          · rw [if_pos c23] at H
            have c23b0 : ((!((wrap64 (1 + (wrap64 (Int.tmod (IntKind.u64.wrap (a0_0)) 3)))) == t174) || (!(a0_1 == t175) || (!(a0_2 == t176) || (!(a0_3 == t177))))) || (!(a0_4 == t178) || (!(a0_5 == t179) || (!(a0_6 == t180))))) = true := c23
            clear c23
            have H' := Aside0.mk H
            clear H
            go_wp2_with (first | ((with_reducible refine gate_callee (f := 28) rfl ?_); refine goesL_ (some 44) rfl rfl Try.func28 (by kernel_rfl) rfl #[.int .i64 t173] rfl (by (try simp only [List.map_toArray, List.map_cons, List.map_nil]); first | done | rfl | (simp only [List.length_drop, List.length_take]; rfl)) ?_; (with_reducible refine (holtlaw0_Num.calls t173 t185 _ A19.out).mono ?_); rintro e w' ⟨rfl, ⟨nd, rfl⟩⟩; refine ⟨_, rfl, ?_⟩) | (go_at_call 28; (with_reducible refine (holtlaw0_Num.calls t181 t186 _ A21.out).mono ?_); rintro e w' ⟨rfl, ⟨nd, rfl⟩⟩; have hnb24 := NB170_182.out; have hnc24 := NB182_170.out; have hcz25_0 : w18.cell? ⟨gb170, 0, none⟩ = some (.int .i64 (wrap64 (1 + (wrap64 (Int.tmod (IntKind.u64.wrap (a0_0)) 3))))) := (blk_cell BK170.out 0).trans rfl; have hcz25_1 : w18.cell? ⟨gb170, 1, none⟩ = some (.int .u32 a0_1) := (blk_cell BK170.out 1).trans rfl; have hcz25_2 : w18.cell? ⟨gb170, 2, none⟩ = some (.int .u64 a0_2) := (blk_cell BK170.out 2).trans rfl; have hcz25_3 : w18.cell? ⟨gb170, 3, none⟩ = some (.int .u64 a0_3) := (blk_cell BK170.out 3).trans rfl; have hcz25_4 : w18.cell? ⟨gb170, 4, none⟩ = some (.int .u64 a0_4) := (blk_cell BK170.out 4).trans rfl; have hcz25_5 : w18.cell? ⟨gb170, 5, none⟩ = some (.int .u64 a0_5) := (blk_cell BK170.out 5).trans rfl; have hcz25_6 : w18.cell? ⟨gb170, 6, none⟩ = some (.int .u64 a0_6) := (blk_cell BK170.out 6).trans rfl; have hfz25_0 := blk_frozen BK170.out 0; have hfz25_1 := blk_frozen BK170.out 1; have hfz25_2 := blk_frozen BK170.out 2; have hfz25_3 := blk_frozen BK170.out 3; have hfz25_4 := blk_frozen BK170.out 4; have hfz25_5 := blk_frozen BK170.out 5; have hfz25_6 := blk_frozen BK170.out 6; have hcz26_0 : w18.cell? ⟨gb182, 0, none⟩ = some (.int .i64 t174) := (blk_cell BK182.out 0).trans rfl; have hcz26_1 : w18.cell? ⟨gb182, 1, none⟩ = some (.int .u32 t175) := (blk_cell BK182.out 1).trans rfl; have hcz26_2 : w18.cell? ⟨gb182, 2, none⟩ = some (.int .u64 t176) := (blk_cell BK182.out 2).trans rfl; have hcz26_3 : w18.cell? ⟨gb182, 3, none⟩ = some (.int .u64 t177) := (blk_cell BK182.out 3).trans rfl; have hcz26_4 : w18.cell? ⟨gb182, 4, none⟩ = some (.int .u64 t178) := (blk_cell BK182.out 4).trans rfl; have hcz26_5 : w18.cell? ⟨gb182, 5, none⟩ = some (.int .u64 t179) := (blk_cell BK182.out 5).trans rfl; have hcz26_6 : w18.cell? ⟨gb182, 6, none⟩ = some (.int .u64 t180) := (blk_cell BK182.out 6).trans rfl; have hfz26_0 := blk_frozen BK182.out 0; have hfz26_1 := blk_frozen BK182.out 1; have hfz26_2 := blk_frozen BK182.out 2; have hfz26_3 := blk_frozen BK182.out 3; have hfz26_4 := blk_frozen BK182.out 4; have hfz26_5 := blk_frozen BK182.out 5; have hfz26_6 := blk_frozen BK182.out 6))
            go_meet
            case rel => exact ⟨_, (true), (by first | rfl | (simp; done) | (simp [*]; done)), H', ⟨by first | omega | exact Nat.le_refl _⟩, ⟨by (with_reducible repeat (first | refine blk_drewN ?_ _ | refine blk_drew ?_ | refine blk_alloc ?_ _)); exact BK170.out⟩, ⟨by (with_reducible repeat (first | refine blk_drewN ?_ _ | refine blk_drew ?_ | refine blk_alloc ?_ _)); exact BK182.out⟩, ⟨by repeat (first | (with_reducible first | exact HB.out | apply below_alloc | apply pw_below_drewN | apply below_drew1 | refine below_set ?_ GE170.out | refine below_set ?_ GE182.out) | exact HB.out)⟩⟩
          · rw [if_neg c23] at H
            have c23b0 : ((!((wrap64 (1 + (wrap64 (Int.tmod (IntKind.u64.wrap (a0_0)) 3)))) == t174) || (!(a0_1 == t175) || (!(a0_2 == t176) || (!(a0_3 == t177))))) || (!(a0_4 == t178) || (!(a0_5 == t179) || (!(a0_6 == t180))))) = false := by simpa using c23
            clear c23
            have H' := Aside0.mk H
            clear H
            go_wp2_with (first | ((with_reducible refine gate_callee (f := 28) rfl ?_); refine goesL_ (some 44) rfl rfl Try.func28 (by kernel_rfl) rfl #[.int .i64 t173] rfl (by (try simp only [List.map_toArray, List.map_cons, List.map_nil]); first | done | rfl | (simp only [List.length_drop, List.length_take]; rfl)) ?_; (with_reducible refine (holtlaw0_Num.calls t173 t185 _ A19.out).mono ?_); rintro e w' ⟨rfl, ⟨nd, rfl⟩⟩; refine ⟨_, rfl, ?_⟩) | (go_at_call 28; (with_reducible refine (holtlaw0_Num.calls t181 t186 _ A21.out).mono ?_); rintro e w' ⟨rfl, ⟨nd, rfl⟩⟩; have hnb27 := NB170_182.out; have hnc27 := NB182_170.out; have hcz28_0 : w18.cell? ⟨gb170, 0, none⟩ = some (.int .i64 (wrap64 (1 + (wrap64 (Int.tmod (IntKind.u64.wrap (a0_0)) 3))))) := (blk_cell BK170.out 0).trans rfl; have hcz28_1 : w18.cell? ⟨gb170, 1, none⟩ = some (.int .u32 a0_1) := (blk_cell BK170.out 1).trans rfl; have hcz28_2 : w18.cell? ⟨gb170, 2, none⟩ = some (.int .u64 a0_2) := (blk_cell BK170.out 2).trans rfl; have hcz28_3 : w18.cell? ⟨gb170, 3, none⟩ = some (.int .u64 a0_3) := (blk_cell BK170.out 3).trans rfl; have hcz28_4 : w18.cell? ⟨gb170, 4, none⟩ = some (.int .u64 a0_4) := (blk_cell BK170.out 4).trans rfl; have hcz28_5 : w18.cell? ⟨gb170, 5, none⟩ = some (.int .u64 a0_5) := (blk_cell BK170.out 5).trans rfl; have hcz28_6 : w18.cell? ⟨gb170, 6, none⟩ = some (.int .u64 a0_6) := (blk_cell BK170.out 6).trans rfl; have hfz28_0 := blk_frozen BK170.out 0; have hfz28_1 := blk_frozen BK170.out 1; have hfz28_2 := blk_frozen BK170.out 2; have hfz28_3 := blk_frozen BK170.out 3; have hfz28_4 := blk_frozen BK170.out 4; have hfz28_5 := blk_frozen BK170.out 5; have hfz28_6 := blk_frozen BK170.out 6; have hcz29_0 : w18.cell? ⟨gb182, 0, none⟩ = some (.int .i64 t174) := (blk_cell BK182.out 0).trans rfl; have hcz29_1 : w18.cell? ⟨gb182, 1, none⟩ = some (.int .u32 t175) := (blk_cell BK182.out 1).trans rfl; have hcz29_2 : w18.cell? ⟨gb182, 2, none⟩ = some (.int .u64 t176) := (blk_cell BK182.out 2).trans rfl; have hcz29_3 : w18.cell? ⟨gb182, 3, none⟩ = some (.int .u64 t177) := (blk_cell BK182.out 3).trans rfl; have hcz29_4 : w18.cell? ⟨gb182, 4, none⟩ = some (.int .u64 t178) := (blk_cell BK182.out 4).trans rfl; have hcz29_5 : w18.cell? ⟨gb182, 5, none⟩ = some (.int .u64 t179) := (blk_cell BK182.out 5).trans rfl; have hcz29_6 : w18.cell? ⟨gb182, 6, none⟩ = some (.int .u64 t180) := (blk_cell BK182.out 6).trans rfl; have hfz29_0 := blk_frozen BK182.out 0; have hfz29_1 := blk_frozen BK182.out 1; have hfz29_2 := blk_frozen BK182.out 2; have hfz29_3 := blk_frozen BK182.out 3; have hfz29_4 := blk_frozen BK182.out 4; have hfz29_5 := blk_frozen BK182.out 5; have hfz29_6 := blk_frozen BK182.out 6))
            go_meet
            case rel => exact ⟨_, (((t172.size : Int) != 45)), (by first | rfl | (simp; done) | (simp [*]; done)), H', ⟨by first | omega | exact Nat.le_refl _⟩, ⟨by (with_reducible repeat (first | refine blk_drewN ?_ _ | refine blk_drew ?_ | refine blk_alloc ?_ _)); exact BK170.out⟩, ⟨by (with_reducible repeat (first | refine blk_drewN ?_ _ | refine blk_drew ?_ | refine blk_alloc ?_ _)); exact BK182.out⟩, ⟨by repeat (first | (with_reducible first | exact HB.out | apply below_alloc | apply pw_below_drewN | apply below_drew1 | refine below_set ?_ GE170.out | refine below_set ?_ GE182.out) | exact HB.out)⟩⟩
        · rw [if_neg c22] at H
          have c22b0 : (t186 == 0) = false := beq_eq_false_iff_ne.mpr c22
          have c22b1 : (t186 != 0) = true := bne_iff_ne.mpr c22
          have H' := Aside0.mk H
          clear H
          go_wp2_with (first | ((with_reducible refine gate_callee (f := 28) rfl ?_); refine goesL_ (some 44) rfl rfl Try.func28 (by kernel_rfl) rfl #[.int .i64 t173] rfl (by (try simp only [List.map_toArray, List.map_cons, List.map_nil]); first | done | rfl | (simp only [List.length_drop, List.length_take]; rfl)) ?_; (with_reducible refine (holtlaw0_Num.calls t173 t185 _ A19.out).mono ?_); rintro e w' ⟨rfl, ⟨nd, rfl⟩⟩; refine ⟨_, rfl, ?_⟩) | (go_at_call 28; (with_reducible refine (holtlaw0_Num.calls t181 t186 _ A21.out).mono ?_); rintro e w' ⟨rfl, ⟨nd, rfl⟩⟩))
          go_meet
          case rel => exact ⟨_, (true), (by first | rfl | (simp; done) | (simp [*]; done)), H', ⟨by first | omega | exact Nat.le_refl _⟩, ⟨by (with_reducible repeat (first | refine blk_drewN ?_ _ | refine blk_drew ?_ | refine blk_alloc ?_ _)); exact BK170.out⟩, ⟨by (with_reducible repeat (first | refine blk_drewN ?_ _ | refine blk_drew ?_ | refine blk_alloc ?_ _)); exact BK182.out⟩, ⟨by repeat (first | (with_reducible first | exact HB.out | apply below_alloc | apply pw_below_drewN | apply below_drew1 | refine below_set ?_ GE170.out | refine below_set ?_ GE182.out) | exact HB.out)⟩⟩
      · rw [if_neg c20] at H
        have c20b0 : (t185 == 0) = false := beq_eq_false_iff_ne.mpr c20
        have c20b1 : (t185 != 0) = true := bne_iff_ne.mpr c20
        (first | rw [c20b0] | (simp only [i64_w, i32_w]; rw [c20b0]) | skip)
        have H' := Aside0.mk H
        clear H
        go_wp2_with (first | ((with_reducible refine gate_callee (f := 28) rfl ?_); refine goesL_ (some 44) rfl rfl Try.func28 (by kernel_rfl) rfl #[.int .i64 t173] rfl (by (try simp only [List.map_toArray, List.map_cons, List.map_nil]); first | done | rfl | (simp only [List.length_drop, List.length_take]; rfl)) ?_; (with_reducible refine (holtlaw0_Num.calls t173 t185 _ A19.out).mono ?_); rintro e w' ⟨rfl, ⟨nd, rfl⟩⟩; refine ⟨_, rfl, ?_⟩))
        go_meet
        case rel => exact ⟨_, (true), (by first | rfl | (simp; done) | (simp [*]; done)), H', ⟨by first | omega | exact Nat.le_refl _⟩, ⟨by (with_reducible repeat (first | refine blk_drewN ?_ _ | refine blk_drew ?_ | refine blk_alloc ?_ _)); exact BK170.out⟩, ⟨by (with_reducible repeat (first | refine blk_drewN ?_ _ | refine blk_drew ?_ | refine blk_alloc ?_ _)); exact BK182.out⟩, ⟨by repeat (first | (with_reducible first | exact HB.out | apply below_alloc | apply pw_below_drewN | apply below_drew1 | refine below_set ?_ GE170.out | refine below_set ?_ GE182.out) | exact HB.out)⟩⟩
    case rest =>
      clear HC9
      try clear c1
      try clear c2
      try clear p2
      try clear c5
      try clear p6
      try clear c15
      try clear c16
      try clear c20
      try clear c20b0
      try clear c20b1
      try clear c21
      try clear c22
      try clear c22b0
      try clear c22b1
      try clear c23
      try clear c23b0
      try clear c24
      try clear c26
      try clear c27
      try clear c28
      try clear hcz12_0
      try clear hcz12_1
      try clear hcz12_2
      try clear hcz12_3
      try clear hcz12_4
      try clear hcz12_5
      try clear hcz12_6
      try clear hcz17_0
      try clear hcz17_1
      try clear hcz17_2
      try clear hcz17_3
      try clear hcz17_4
      try clear hcz17_5
      try clear hcz17_6
      try clear hcz25_0
      try clear hcz25_1
      try clear hcz25_2
      try clear hcz25_3
      try clear hcz25_4
      try clear hcz25_5
      try clear hcz25_6
      try clear hcz26_0
      try clear hcz26_1
      try clear hcz26_2
      try clear hcz26_3
      try clear hcz26_4
      try clear hcz26_5
      try clear hcz26_6
      try clear hcz28_0
      try clear hcz28_1
      try clear hcz28_2
      try clear hcz28_3
      try clear hcz28_4
      try clear hcz28_5
      try clear hcz28_6
      try clear hcz29_0
      try clear hcz29_1
      try clear hcz29_2
      try clear hcz29_3
      try clear hcz29_4
      try clear hcz29_5
      try clear hcz29_6
      try clear hfz12_0
      try clear hfz12_1
      try clear hfz12_2
      try clear hfz12_3
      try clear hfz12_4
      try clear hfz12_5
      try clear hfz12_6
      try clear hfz17_0
      try clear hfz17_1
      try clear hfz17_2
      try clear hfz17_3
      try clear hfz17_4
      try clear hfz17_5
      try clear hfz17_6
      try clear hfz25_0
      try clear hfz25_1
      try clear hfz25_2
      try clear hfz25_3
      try clear hfz25_4
      try clear hfz25_5
      try clear hfz25_6
      try clear hfz26_0
      try clear hfz26_1
      try clear hfz26_2
      try clear hfz26_3
      try clear hfz26_4
      try clear hfz26_5
      try clear hfz26_6
      try clear hfz28_0
      try clear hfz28_1
      try clear hfz28_2
      try clear hfz28_3
      try clear hfz28_4
      try clear hfz28_5
      try clear hfz28_6
      try clear hfz29_0
      try clear hfz29_1
      try clear hfz29_2
      try clear hfz29_3
      try clear hfz29_4
      try clear hfz29_5
      try clear hfz29_6
      obtain ⟨kq, x60_8, rfl, HA, HJ8, BK170, BK182, HB⟩ := hcut
      cases kq with
      | zero => exact absurd HA.out (by simp [holtlaw12_KeyBack.j0])
      | succ kj8 =>
        have H := HA.out
        clear HA
        simp only [holtlaw12_KeyBack.j0] at H
        by_cases c30 : x60_8 = true
        · subst c30
          have H1 : (some false) = some r := by rw [if_pos rfl] at H; exact H
          clear H
          have H := H1
          clear H1
          obtain rfl := Option.some.inj H
          go_wp2
          go_ret
          exact ⟨by first | rfl | (simp [errW_none, errW_some] <;> rfl) | (simp [*, errW_none, errW_some] <;> rfl), by repeat (first | (with_reducible first | exact HB.out | apply below_alloc | apply pw_below_drewN | apply below_drew1 | refine below_set ?_ GE170.out | refine below_set ?_ GE182.out) | exact HB.out)⟩
        · replace c30 := Bool.eq_false_iff.mpr c30
          subst c30
          have H1 : (if (l1.length : Int) > 80 then (holtlaw12_KeyBack.j1 kj8 l1 a2 t183 t184 true) else (holtlaw12_KeyBack.j1 kj8 l1 a2 t183 t184 (decide ((wrap64 ((wrap64 (8 * (l1.length : Int))) + (a2.size : Int))) > 80)))) = some r := by rw [if_neg (show ¬ (false = true) by decide)] at H; exact H
          clear H
          have H := H1
          clear H1
          have HC31 := Aside0.mk H
          clear H
          go_upto_region 9 with (fail)
          go_cut [72] (fun v72 wc => ∃ (kq : Nat) (x72_30 : Bool), v72 = .bool x72_30 ∧ Aside0 (holtlaw12_KeyBack.j1 kq l1 a2 t183 t184 x72_30 = some r) ∧ Aside0 (kq ≤ kj8) ∧ Aside0 (wc.heap[gb170]? = some (.cells #[.int .i64 (wrap64 (1 + (wrap64 (Int.tmod (IntKind.u64.wrap (a0_0)) 3)))), .int .u32 a0_1, .int .u64 a0_2, .int .u64 a0_3, .int .u64 a0_4, .int .u64 a0_5, .int .u64 a0_6] 32 (0, 0))) ∧ Aside0 (wc.heap[gb182]? = some (.cells #[.int .i64 t174, .int .u32 t175, .int .u64 t176, .int .u64 t177, .int .u64 t178, .int .u64 t179, .int .u64 t180] 32 (0, 0))) ∧ Aside0 (Below w.heap.size w wc))
          case first =>
            have H := HC31.out
            clear HC31
            by_cases c32 : (l1.length : Int) > 80
            · rw [if_pos c32] at H
              have c32b0 : decide (80 < (l1.length : Int)) = true := decide_eq_true c32
              have c32b1 : decide (80 < l1.length) = true := decide_eq_true (by omega)
              clear c32
              (first | rw [c32b0] | (simp only [i64_w, i32_w]; rw [c32b0]) | skip)
              have H' := Aside0.mk H
              clear H
              go_wp2
              go_meet
              case rel => exact ⟨_, (true), (by first | rfl | (simp; done) | (simp [*]; done)), H', ⟨by have := HJ8.out; first | omega | exact Nat.le_refl _⟩, ⟨by (with_reducible repeat (first | refine blk_drewN ?_ _ | refine blk_drew ?_ | refine blk_alloc ?_ _)); exact BK170.out⟩, ⟨by (with_reducible repeat (first | refine blk_drewN ?_ _ | refine blk_drew ?_ | refine blk_alloc ?_ _)); exact BK182.out⟩, ⟨by repeat (first | (with_reducible first | exact HB.out | apply below_alloc | apply pw_below_drewN | apply below_drew1 | refine below_set ?_ GE170.out | refine below_set ?_ GE182.out) | exact HB.out)⟩⟩
            · rw [if_neg c32] at H
              have c32b0 : decide (80 < (l1.length : Int)) = false := decide_eq_false c32
              have c32b1 : decide (80 < l1.length) = false := decide_eq_false (by omega)
              clear c32
              (first | rw [c32b0] | (simp only [i64_w, i32_w]; rw [c32b0]) | skip)
              have H' := Aside0.mk H
              clear H
              go_wp2
              go_meet
              case rel => exact ⟨_, (decide ((wrap64 ((wrap64 (8 * (l1.length : Int))) + (a2.size : Int))) > 80)), (by first | rfl | (simp; done) | (simp [*]; done)), H', ⟨by have := HJ8.out; first | omega | exact Nat.le_refl _⟩, ⟨by (with_reducible repeat (first | refine blk_drewN ?_ _ | refine blk_drew ?_ | refine blk_alloc ?_ _)); exact BK170.out⟩, ⟨by (with_reducible repeat (first | refine blk_drewN ?_ _ | refine blk_drew ?_ | refine blk_alloc ?_ _)); exact BK182.out⟩, ⟨by repeat (first | (with_reducible first | exact HB.out | apply below_alloc | apply pw_below_drewN | apply below_drew1 | refine below_set ?_ GE170.out | refine below_set ?_ GE182.out) | exact HB.out)⟩⟩
          case rest =>
            clear HC31
            try clear c1
            try clear c2
            try clear p2
            try clear c3
            try clear c5
            try clear p6
            try clear c15
            try clear c16
            try clear c20
            try clear c20b0
            try clear c20b1
            try clear c21
            try clear c22
            try clear c22b0
            try clear c22b1
            try clear c23
            try clear c23b0
            try clear c24
            try clear c26
            try clear c27
            try clear c28
            try clear c30
            try clear c32
            try clear c32b0
            try clear c32b1
            try clear hcz12_0
            try clear hcz12_1
            try clear hcz12_2
            try clear hcz12_3
            try clear hcz12_4
            try clear hcz12_5
            try clear hcz12_6
            try clear hcz17_0
            try clear hcz17_1
            try clear hcz17_2
            try clear hcz17_3
            try clear hcz17_4
            try clear hcz17_5
            try clear hcz17_6
            try clear hcz25_0
            try clear hcz25_1
            try clear hcz25_2
            try clear hcz25_3
            try clear hcz25_4
            try clear hcz25_5
            try clear hcz25_6
            try clear hcz26_0
            try clear hcz26_1
            try clear hcz26_2
            try clear hcz26_3
            try clear hcz26_4
            try clear hcz26_5
            try clear hcz26_6
            try clear hcz28_0
            try clear hcz28_1
            try clear hcz28_2
            try clear hcz28_3
            try clear hcz28_4
            try clear hcz28_5
            try clear hcz28_6
            try clear hcz29_0
            try clear hcz29_1
            try clear hcz29_2
            try clear hcz29_3
            try clear hcz29_4
            try clear hcz29_5
            try clear hcz29_6
            try clear hfz12_0
            try clear hfz12_1
            try clear hfz12_2
            try clear hfz12_3
            try clear hfz12_4
            try clear hfz12_5
            try clear hfz12_6
            try clear hfz17_0
            try clear hfz17_1
            try clear hfz17_2
            try clear hfz17_3
            try clear hfz17_4
            try clear hfz17_5
            try clear hfz17_6
            try clear hfz25_0
            try clear hfz25_1
            try clear hfz25_2
            try clear hfz25_3
            try clear hfz25_4
            try clear hfz25_5
            try clear hfz25_6
            try clear hfz26_0
            try clear hfz26_1
            try clear hfz26_2
            try clear hfz26_3
            try clear hfz26_4
            try clear hfz26_5
            try clear hfz26_6
            try clear hfz28_0
            try clear hfz28_1
            try clear hfz28_2
            try clear hfz28_3
            try clear hfz28_4
            try clear hfz28_5
            try clear hfz28_6
            try clear hfz29_0
            try clear hfz29_1
            try clear hfz29_2
            try clear hfz29_3
            try clear hfz29_4
            try clear hfz29_5
            try clear hfz29_6
            try clear p2
            try clear p6
            obtain ⟨kq, x72_30, rfl, HA, HJ30, BK170, BK182, HB⟩ := hcut
            cases kq with
            | zero => exact absurd HA.out (by simp [holtlaw12_KeyBack.j1])
            | succ kj30 =>
              have H := HA.out
              clear HA
              simp only [holtlaw12_KeyBack.j1] at H
              by_cases c33 : x72_30 = true
              · subst c33
                have H1 : ((holtlaw0_Num.f t184).bind fun t187 => (some (t187 == 1200))) = some r := by rw [if_pos rfl] at H; exact H
                clear H
                have H := H1
                clear H1
                replace H := Option.bind_eq_some_iff.mp H
                obtain ⟨t187, A340, H⟩ := H
                replace H : (some (t187 == 1200)) = some r := H
                have A34 := Aside0.mk A340
                clear A340
                obtain rfl := Option.some.inj H
                go_wp2_with (first | ((with_reducible refine gate_callee (f := 28) rfl ?_); refine goesL_ (some 74) rfl rfl Try.func28 (by kernel_rfl) rfl #[.int .i64 t184] rfl (by (try simp only [List.map_toArray, List.map_cons, List.map_nil]); first | done | rfl | (simp only [List.length_drop, List.length_take]; rfl)) ?_; (with_reducible refine (holtlaw0_Num.calls t184 t187 _ A34.out).mono ?_); rintro e w' ⟨rfl, ⟨nd, rfl⟩⟩; refine ⟨_, rfl, ?_⟩))
                go_ret
                exact ⟨by first | rfl | (simp [errW_none, errW_some] <;> rfl) | (simp [*, errW_none, errW_some] <;> rfl), by repeat (first | (with_reducible first | exact HB.out | apply below_alloc | apply pw_below_drewN | apply below_drew1 | refine below_set ?_ GE170.out | refine below_set ?_ GE182.out) | exact HB.out)⟩
              · replace c33 := Bool.eq_false_iff.mpr c33
                subst c33
                have H1 : ((key_Unpack.f kj30 t183 (l1.length : Int)).bind fun bt188 => ((holtlaw0_Num.f t184).bind fun t193 => (if t193 = 0 then ((holtlaw0_Num.f bt188.2.2).bind fun t194 => (if t194 = 0 then ((holtlaw0_SameNums.f kj30 l1 bt188.1).bind fun t195 => (if t195 = true then (some (bt188.2.1.toList == a2.toList)) else (some false))) else (some false))) else (some false)))) = some r := by rw [if_neg (show ¬ (false = true) by decide)] at H; exact H
                clear H
                have H := H1
                clear H1
                replace H := Option.bind_eq_some_iff.mp H
                obtain ⟨⟨t188, t189, t190⟩, A350, H⟩ := H
                replace H : ((holtlaw0_Num.f t184).bind fun t193 => (if t193 = 0 then ((holtlaw0_Num.f t190).bind fun t194 => (if t194 = 0 then ((holtlaw0_SameNums.f kj30 l1 t188).bind fun t195 => (if t195 = true then (some (t189.toList == a2.toList)) else (some false))) else (some false))) else (some false))) = some r := H
                have A35 := Aside0.mk A350
                clear A350
                replace H := Option.bind_eq_some_iff.mp H
                obtain ⟨t193, A360, H⟩ := H
                replace H : (if t193 = 0 then ((holtlaw0_Num.f t190).bind fun t194 => (if t194 = 0 then ((holtlaw0_SameNums.f kj30 l1 t188).bind fun t195 => (if t195 = true then (some (t189.toList == a2.toList)) else (some false))) else (some false))) else (some false)) = some r := H
                have A36 := Aside0.mk A360
                clear A360
                by_cases c37 : t193 = 0
                · rw [if_pos c37] at H
                  have c37b0 : (t193 == 0) = true := beq_iff_eq.mpr c37
                  have c37b1 : (t193 != 0) = false := bne_eq_false_iff_eq.mpr c37
                  clear c37
                  replace H := Option.bind_eq_some_iff.mp H
                  obtain ⟨t194, A380, H⟩ := H
                  replace H : (if t194 = 0 then ((holtlaw0_SameNums.f kj30 l1 t188).bind fun t195 => (if t195 = true then (some (t189.toList == a2.toList)) else (some false))) else (some false)) = some r := H
                  have A38 := Aside0.mk A380
                  clear A380
                  by_cases c39 : t194 = 0
                  · rw [if_pos c39] at H
                    have c39b0 : (t194 == 0) = true := beq_iff_eq.mpr c39
                    have c39b1 : (t194 != 0) = false := bne_eq_false_iff_eq.mpr c39
                    clear c39
                    replace H := Option.bind_eq_some_iff.mp H
                    obtain ⟨t195, A400, H⟩ := H
                    replace H : (if t195 = true then (some (t189.toList == a2.toList)) else (some false)) = some r := H
                    have A40 := Aside0.mk A400
                    clear A400
                    by_cases c41 : t195 = true
                    · subst c41
                      have H1 : (some (t189.toList == a2.toList)) = some r := by rw [if_pos rfl] at H; exact H
                      clear H
                      have H := H1
                      clear H1
                      obtain rfl := Option.some.inj H
                      go_wp2_with (first | ((with_reducible refine gate_callee (f := 30) rfl ?_); refine goesL_ (some 80) rfl rfl Try.func30 (by kernel_rfl) rfl #[.string t183, .int .i64 (l1.length : Int)] rfl (by (try simp only [List.map_toArray, List.map_cons, List.map_nil]); first | done | rfl | (simp only [List.length_drop, List.length_take]; rfl)) ?_; (with_reducible refine (key_Unpack.calls kj30 t183 (l1.length : Int) t188 t189 t190 _ A35.out).mono ?_); rintro e w42 ⟨v191, rfl, ho0, hb⟩; refine ⟨_, rfl, ?_⟩; have n0_ := Aside0.mk (Kd.R_lower ho0 (below_size (by repeat (first | (with_reducible first | exact HB.out | apply below_alloc | apply pw_below_drewN | apply below_drew1 | refine below_set ?_ GE170.out | refine below_set ?_ GE182.out) | exact HB.out)))); have n1_ := Aside0.mk (blk_below (g := gb170) (o := .cells #[.int .i64 (wrap64 (1 + (wrap64 (Int.tmod (IntKind.u64.wrap (a0_0)) 3)))), .int .u32 a0_1, .int .u64 a0_2, .int .u64 a0_3, .int .u64 a0_4, .int .u64 a0_5, .int .u64 a0_6] 32 (0, 0)) (by (with_reducible repeat (first | refine blk_drewN ?_ _ | refine blk_drew ?_ | refine blk_alloc ?_ _)); exact BK170.out) hb); have n2_ := Aside0.mk (blk_below (g := gb182) (o := .cells #[.int .i64 t174, .int .u32 t175, .int .u64 t176, .int .u64 t177, .int .u64 t178, .int .u64 t179, .int .u64 t180] 32 (0, 0)) (by (with_reducible repeat (first | refine blk_drewN ?_ _ | refine blk_drew ?_ | refine blk_alloc ?_ _)); exact BK182.out) hb); have n3_ := Aside0.mk (below_step (by repeat (first | (with_reducible first | exact HB.out | apply below_alloc | apply pw_below_drewN | apply below_drew1 | refine below_set ?_ GE170.out | refine below_set ?_ GE182.out) | exact HB.out)) hb); clear BK170; clear BK182; clear HB; have HO192 := n0_; have BK170 := n1_; have BK182 := n2_; have HB := n3_; clear n0_ n1_ n2_ n3_; (try clear hb); (try clear hb2); (try clear hk); (try clear hi); (try clear ho0)) | ((with_reducible refine gate_callee (f := 28) rfl ?_); refine goesL_ (some 85) rfl rfl Try.func28 (by kernel_rfl) rfl #[.int .i64 t184] rfl (by (try simp only [List.map_toArray, List.map_cons, List.map_nil]); first | done | rfl | (simp only [List.length_drop, List.length_take]; rfl)) ?_; (with_reducible refine (holtlaw0_Num.calls t184 t193 _ A36.out).mono ?_); rintro e w' ⟨rfl, ⟨nd, rfl⟩⟩; refine ⟨_, rfl, ?_⟩) | (go_at_call 28; (with_reducible refine (holtlaw0_Num.calls t190 t194 _ A38.out).mono ?_); rintro e w' ⟨rfl, ⟨nd, rfl⟩⟩; obtain ⟨Ao43, co43, eo43⟩ := Kd.R_slice HO192.out; subst eo43) | (go_at_call 32; (with_reducible refine (holtlaw0_SameNums.calls kj30 _ _ l1 _ _ t188 true _ ?side1 ?side2 ?side3 ?side4 A40.out).mono ?_); (case side1 => repeat (first | exact (Kd.C_below HR1.out (by repeat (first | (with_reducible first | exact HB.out | apply below_alloc | apply pw_below_drewN | apply below_drew1 | refine below_set ?_ GE170.out | refine below_set ?_ GE182.out) | exact HB.out))) | (with_reducible refine Kd.C_alloc ?_ _) | (with_reducible refine Kd.C_drewN ?_ _) | (with_reducible refine Kd.C_drew ?_))); (case side2 => exact HC1.out); (case side3 => repeat (first | exact (Kd.R_reads' HO192.out).2.2 | (with_reducible refine Kd.C_alloc ?_ _) | (with_reducible refine Kd.C_drewN ?_ _) | (with_reducible refine Kd.C_drew ?_))); (case side4 => exact (Kd.R_reads' HO192.out).2.1); rintro e w' ⟨rfl, ⟨nd, rfl⟩⟩))
                      go_ret
                      exact ⟨by first | rfl | (simp [errW_none, errW_some] <;> rfl) | (simp [*, errW_none, errW_some] <;> rfl), by repeat (first | (with_reducible first | exact HB.out | apply below_alloc | apply pw_below_drewN | apply below_drew1 | refine below_set ?_ GE170.out | refine below_set ?_ GE182.out) | exact HB.out)⟩
                    · replace c41 := Bool.eq_false_iff.mpr c41
                      subst c41
                      have H1 : (some false) = some r := by rw [if_neg (show ¬ (false = true) by decide)] at H; exact H
                      clear H
                      have H := H1
                      clear H1
                      obtain rfl := Option.some.inj H
                      go_wp2_with (first | ((with_reducible refine gate_callee (f := 30) rfl ?_); refine goesL_ (some 80) rfl rfl Try.func30 (by kernel_rfl) rfl #[.string t183, .int .i64 (l1.length : Int)] rfl (by (try simp only [List.map_toArray, List.map_cons, List.map_nil]); first | done | rfl | (simp only [List.length_drop, List.length_take]; rfl)) ?_; (with_reducible refine (key_Unpack.calls kj30 t183 (l1.length : Int) t188 t189 t190 _ A35.out).mono ?_); rintro e w44 ⟨v191, rfl, ho0, hb⟩; refine ⟨_, rfl, ?_⟩; have n0_ := Aside0.mk (Kd.R_lower ho0 (below_size (by repeat (first | (with_reducible first | exact HB.out | apply below_alloc | apply pw_below_drewN | apply below_drew1 | refine below_set ?_ GE170.out | refine below_set ?_ GE182.out) | exact HB.out)))); have n1_ := Aside0.mk (blk_below (g := gb170) (o := .cells #[.int .i64 (wrap64 (1 + (wrap64 (Int.tmod (IntKind.u64.wrap (a0_0)) 3)))), .int .u32 a0_1, .int .u64 a0_2, .int .u64 a0_3, .int .u64 a0_4, .int .u64 a0_5, .int .u64 a0_6] 32 (0, 0)) (by (with_reducible repeat (first | refine blk_drewN ?_ _ | refine blk_drew ?_ | refine blk_alloc ?_ _)); exact BK170.out) hb); have n2_ := Aside0.mk (blk_below (g := gb182) (o := .cells #[.int .i64 t174, .int .u32 t175, .int .u64 t176, .int .u64 t177, .int .u64 t178, .int .u64 t179, .int .u64 t180] 32 (0, 0)) (by (with_reducible repeat (first | refine blk_drewN ?_ _ | refine blk_drew ?_ | refine blk_alloc ?_ _)); exact BK182.out) hb); have n3_ := Aside0.mk (below_step (by repeat (first | (with_reducible first | exact HB.out | apply below_alloc | apply pw_below_drewN | apply below_drew1 | refine below_set ?_ GE170.out | refine below_set ?_ GE182.out) | exact HB.out)) hb); clear BK170; clear BK182; clear HB; have HO192 := n0_; have BK170 := n1_; have BK182 := n2_; have HB := n3_; clear n0_ n1_ n2_ n3_; (try clear hb); (try clear hb2); (try clear hk); (try clear hi); (try clear ho0)) | ((with_reducible refine gate_callee (f := 28) rfl ?_); refine goesL_ (some 85) rfl rfl Try.func28 (by kernel_rfl) rfl #[.int .i64 t184] rfl (by (try simp only [List.map_toArray, List.map_cons, List.map_nil]); first | done | rfl | (simp only [List.length_drop, List.length_take]; rfl)) ?_; (with_reducible refine (holtlaw0_Num.calls t184 t193 _ A36.out).mono ?_); rintro e w' ⟨rfl, ⟨nd, rfl⟩⟩; refine ⟨_, rfl, ?_⟩) | (go_at_call 28; (with_reducible refine (holtlaw0_Num.calls t190 t194 _ A38.out).mono ?_); rintro e w' ⟨rfl, ⟨nd, rfl⟩⟩; obtain ⟨Ao45, co45, eo45⟩ := Kd.R_slice HO192.out; subst eo45) | (go_at_call 32; (with_reducible refine (holtlaw0_SameNums.calls kj30 _ _ l1 _ _ t188 false _ ?side1 ?side2 ?side3 ?side4 A40.out).mono ?_); (case side1 => repeat (first | exact (Kd.C_below HR1.out (by repeat (first | (with_reducible first | exact HB.out | apply below_alloc | apply pw_below_drewN | apply below_drew1 | refine below_set ?_ GE170.out | refine below_set ?_ GE182.out) | exact HB.out))) | (with_reducible refine Kd.C_alloc ?_ _) | (with_reducible refine Kd.C_drewN ?_ _) | (with_reducible refine Kd.C_drew ?_))); (case side2 => exact HC1.out); (case side3 => repeat (first | exact (Kd.R_reads' HO192.out).2.2 | (with_reducible refine Kd.C_alloc ?_ _) | (with_reducible refine Kd.C_drewN ?_ _) | (with_reducible refine Kd.C_drew ?_))); (case side4 => exact (Kd.R_reads' HO192.out).2.1); rintro e w' ⟨rfl, ⟨nd, rfl⟩⟩))
                      go_ret
                      exact ⟨by first | rfl | (simp [errW_none, errW_some] <;> rfl) | (simp [*, errW_none, errW_some] <;> rfl), by repeat (first | (with_reducible first | exact HB.out | apply below_alloc | apply pw_below_drewN | apply below_drew1 | refine below_set ?_ GE170.out | refine below_set ?_ GE182.out) | exact HB.out)⟩
                  · rw [if_neg c39] at H
                    have c39b0 : (t194 == 0) = false := beq_eq_false_iff_ne.mpr c39
                    have c39b1 : (t194 != 0) = true := bne_iff_ne.mpr c39
                    obtain rfl := Option.some.inj H
                    go_wp2_with (first | ((with_reducible refine gate_callee (f := 30) rfl ?_); refine goesL_ (some 80) rfl rfl Try.func30 (by kernel_rfl) rfl #[.string t183, .int .i64 (l1.length : Int)] rfl (by (try simp only [List.map_toArray, List.map_cons, List.map_nil]); first | done | rfl | (simp only [List.length_drop, List.length_take]; rfl)) ?_; (with_reducible refine (key_Unpack.calls kj30 t183 (l1.length : Int) t188 t189 t190 _ A35.out).mono ?_); rintro e w46 ⟨v191, rfl, ho0, hb⟩; refine ⟨_, rfl, ?_⟩; have n0_ := Aside0.mk (Kd.R_lower ho0 (below_size (by repeat (first | (with_reducible first | exact HB.out | apply below_alloc | apply pw_below_drewN | apply below_drew1 | refine below_set ?_ GE170.out | refine below_set ?_ GE182.out) | exact HB.out)))); have n1_ := Aside0.mk (blk_below (g := gb170) (o := .cells #[.int .i64 (wrap64 (1 + (wrap64 (Int.tmod (IntKind.u64.wrap (a0_0)) 3)))), .int .u32 a0_1, .int .u64 a0_2, .int .u64 a0_3, .int .u64 a0_4, .int .u64 a0_5, .int .u64 a0_6] 32 (0, 0)) (by (with_reducible repeat (first | refine blk_drewN ?_ _ | refine blk_drew ?_ | refine blk_alloc ?_ _)); exact BK170.out) hb); have n2_ := Aside0.mk (blk_below (g := gb182) (o := .cells #[.int .i64 t174, .int .u32 t175, .int .u64 t176, .int .u64 t177, .int .u64 t178, .int .u64 t179, .int .u64 t180] 32 (0, 0)) (by (with_reducible repeat (first | refine blk_drewN ?_ _ | refine blk_drew ?_ | refine blk_alloc ?_ _)); exact BK182.out) hb); have n3_ := Aside0.mk (below_step (by repeat (first | (with_reducible first | exact HB.out | apply below_alloc | apply pw_below_drewN | apply below_drew1 | refine below_set ?_ GE170.out | refine below_set ?_ GE182.out) | exact HB.out)) hb); clear BK170; clear BK182; clear HB; have HO192 := n0_; have BK170 := n1_; have BK182 := n2_; have HB := n3_; clear n0_ n1_ n2_ n3_; (try clear hb); (try clear hb2); (try clear hk); (try clear hi); (try clear ho0)) | ((with_reducible refine gate_callee (f := 28) rfl ?_); refine goesL_ (some 85) rfl rfl Try.func28 (by kernel_rfl) rfl #[.int .i64 t184] rfl (by (try simp only [List.map_toArray, List.map_cons, List.map_nil]); first | done | rfl | (simp only [List.length_drop, List.length_take]; rfl)) ?_; (with_reducible refine (holtlaw0_Num.calls t184 t193 _ A36.out).mono ?_); rintro e w' ⟨rfl, ⟨nd, rfl⟩⟩; refine ⟨_, rfl, ?_⟩) | (go_at_call 28; (with_reducible refine (holtlaw0_Num.calls t190 t194 _ A38.out).mono ?_); rintro e w' ⟨rfl, ⟨nd, rfl⟩⟩))
                    go_ret
                    exact ⟨by first | rfl | (simp [errW_none, errW_some] <;> rfl) | (simp [*, errW_none, errW_some] <;> rfl), by repeat (first | (with_reducible first | exact HB.out | apply below_alloc | apply pw_below_drewN | apply below_drew1 | refine below_set ?_ GE170.out | refine below_set ?_ GE182.out) | exact HB.out)⟩
                · rw [if_neg c37] at H
                  have c37b0 : (t193 == 0) = false := beq_eq_false_iff_ne.mpr c37
                  have c37b1 : (t193 != 0) = true := bne_iff_ne.mpr c37
                  obtain rfl := Option.some.inj H
                  go_wp2_with (first | ((with_reducible refine gate_callee (f := 30) rfl ?_); refine goesL_ (some 80) rfl rfl Try.func30 (by kernel_rfl) rfl #[.string t183, .int .i64 (l1.length : Int)] rfl (by (try simp only [List.map_toArray, List.map_cons, List.map_nil]); first | done | rfl | (simp only [List.length_drop, List.length_take]; rfl)) ?_; (with_reducible refine (key_Unpack.calls kj30 t183 (l1.length : Int) t188 t189 t190 _ A35.out).mono ?_); rintro e w47 ⟨v191, rfl, ho0, hb⟩; refine ⟨_, rfl, ?_⟩; have n0_ := Aside0.mk (Kd.R_lower ho0 (below_size (by repeat (first | (with_reducible first | exact HB.out | apply below_alloc | apply pw_below_drewN | apply below_drew1 | refine below_set ?_ GE170.out | refine below_set ?_ GE182.out) | exact HB.out)))); have n1_ := Aside0.mk (blk_below (g := gb170) (o := .cells #[.int .i64 (wrap64 (1 + (wrap64 (Int.tmod (IntKind.u64.wrap (a0_0)) 3)))), .int .u32 a0_1, .int .u64 a0_2, .int .u64 a0_3, .int .u64 a0_4, .int .u64 a0_5, .int .u64 a0_6] 32 (0, 0)) (by (with_reducible repeat (first | refine blk_drewN ?_ _ | refine blk_drew ?_ | refine blk_alloc ?_ _)); exact BK170.out) hb); have n2_ := Aside0.mk (blk_below (g := gb182) (o := .cells #[.int .i64 t174, .int .u32 t175, .int .u64 t176, .int .u64 t177, .int .u64 t178, .int .u64 t179, .int .u64 t180] 32 (0, 0)) (by (with_reducible repeat (first | refine blk_drewN ?_ _ | refine blk_drew ?_ | refine blk_alloc ?_ _)); exact BK182.out) hb); have n3_ := Aside0.mk (below_step (by repeat (first | (with_reducible first | exact HB.out | apply below_alloc | apply pw_below_drewN | apply below_drew1 | refine below_set ?_ GE170.out | refine below_set ?_ GE182.out) | exact HB.out)) hb); clear BK170; clear BK182; clear HB; have HO192 := n0_; have BK170 := n1_; have BK182 := n2_; have HB := n3_; clear n0_ n1_ n2_ n3_; (try clear hb); (try clear hb2); (try clear hk); (try clear hi); (try clear ho0)) | ((with_reducible refine gate_callee (f := 28) rfl ?_); refine goesL_ (some 85) rfl rfl Try.func28 (by kernel_rfl) rfl #[.int .i64 t184] rfl (by (try simp only [List.map_toArray, List.map_cons, List.map_nil]); first | done | rfl | (simp only [List.length_drop, List.length_take]; rfl)) ?_; (with_reducible refine (holtlaw0_Num.calls t184 t193 _ A36.out).mono ?_); rintro e w' ⟨rfl, ⟨nd, rfl⟩⟩; refine ⟨_, rfl, ?_⟩))
                  go_ret
                  exact ⟨by first | rfl | (simp [errW_none, errW_some] <;> rfl) | (simp [*, errW_none, errW_some] <;> rfl), by repeat (first | (with_reducible first | exact HB.out | apply below_alloc | apply pw_below_drewN | apply below_drew1 | refine below_set ?_ GE170.out | refine below_set ?_ GE182.out) | exact HB.out)⟩
  · replace c5 := Bool.eq_false_iff.mpr c5
    subst c5
    have H1 : (some false) = some r := by rw [if_neg (show ¬ (false = true) by decide)] at H; exact H
    clear H
    have H := H1
    clear H1
    obtain rfl := Option.some.inj H
    go_enter Try.func5, Try.ntmps5
    go_wp2_with (first | ((with_reducible refine gate_dst (N := 3) rfl ?_); (try (refine gate_guard (by rfl) ?_; dsimp only)); refine box_event ?hg (N := 3) ?hd (cs := #[.int .i64 a0_0, .int .u32 a0_1, .int .u64 a0_2, .int .u64 a0_3, .int .u64 a0_4, .int .u64 a0_5, .int .u64 a0_6]) (t := 32) ?hr ?_; (case hd => rfl); (case hg => rfl); (case hr => first | (go_simp; done) | (go_simp; rfl)); intro gb170 hg w48 hbox hb; have n0_ := Aside0.mk (below_step (by repeat (first | (with_reducible first | exact HB.out | apply below_alloc | apply pw_below_drewN | apply below_drew1) | exact HB.out)) hb); have n1_ := Aside0.mk (hbox); have n2_ := Aside0.mk ((by rw [hg]; exact (below_size (by repeat (first | (with_reducible first | exact HB.out | apply below_alloc | apply pw_below_drewN | apply below_drew1) | exact HB.out))) : w.heap.size ≤ gb170)); have n3_ := Aside0.mk ((by rw [hg]; exact (below_size (by repeat (first | (with_reducible first | exact HB.out | apply below_alloc | apply pw_below_drewN | apply below_drew1) | exact HB.out))) : w.heap.size ≤ gb170)); clear HB; have HB := n0_; have BK170 := n1_; have GW170 := n2_; have GE170 := n3_; clear n0_ n1_ n2_ n3_; clear hb hbox hg) | ((with_reducible refine gate_callee (f := 15) rfl ?_); refine goesL_ (some 16) rfl rfl Try.func15 (by kernel_rfl) rfl #[] rfl (by (try simp only [List.map_toArray, List.map_cons, List.map_nil]); first | done | rfl | (simp only [List.length_drop, List.length_take]; rfl)) ?_; (with_reducible refine (holtlaw12_awake.calls k  false _ A4.out).mono ?_); rintro e w49 ⟨rfl, hb⟩; refine ⟨_, rfl, ?_⟩; have n0_ := Aside0.mk (blk_below (g := gb170) (o := .cells #[.int .i64 a0_0, .int .u32 a0_1, .int .u64 a0_2, .int .u64 a0_3, .int .u64 a0_4, .int .u64 a0_5, .int .u64 a0_6] 32 (0, 0)) (by (with_reducible repeat (first | refine blk_drewN ?_ _ | refine blk_drew ?_ | refine blk_alloc ?_ _)); exact BK170.out) hb); have n1_ := Aside0.mk (below_step (by repeat (first | (with_reducible first | exact HB.out | apply below_alloc | apply pw_below_drewN | apply below_drew1 | refine below_set ?_ GE170.out) | exact HB.out)) hb); clear BK170; clear HB; have BK170 := n0_; have HB := n1_; clear n0_ n1_; (try clear hb); (try clear hb2); (try clear hk); (try clear hi)))
    go_ret
    exact ⟨by first | rfl | (simp [errW_none, errW_some] <;> rfl) | (simp [*, errW_none, errW_some] <;> rfl), by repeat (first | (with_reducible first | exact HB.out | apply below_alloc | apply pw_below_drewN | apply below_drew1 | refine below_set ?_ GE170.out) | exact HB.out)⟩

end Go.Proofs.Ytikekepiimaccaa.Kb

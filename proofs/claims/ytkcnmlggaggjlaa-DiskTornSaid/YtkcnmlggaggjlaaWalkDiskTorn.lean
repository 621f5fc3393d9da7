/- DiskTorn: of a torn write its first bytes come: the walk. Conditions: as in the statements. -/
import Derived.Test.YtkcnmlggaggjlaaDiskP
import Derived.WalkKit
import Derived.ProofKit
import Derived.OpenShut
import Derived.ShutString
import Derived.ChangeOld
import Derived.Below
import Derived.SizedLaws
import Derived.Carry
import Derived.Laws.BitsAllLaws
import Derived.Deep.RegionHeld3
set_option linter.unusedVariables false
set_option linter.unusedSimpArgs false
namespace Go.Proofs.Ytkcnmlggaggjlaa.Walk
open Go Go.ChangeShapes Go.WideShapes Go.ChangeAt Go.RowKit Go.Maps Go.Lib Go.Proofs.Ytkcnmlggaggjlaa.Sep Go.Proofs.Ytkcnmlggaggjlaa.Dk
theorem and_small (x : Int) (m : Nat) (hm : m < 4294967296) : ∃ a : Nat, a ≤ m ∧ bits BinOp.and .i64 x (m : Int) = (a : Int) := by
  refine ⟨(BitVec.ofInt 64 x &&& BitVec.ofInt 64 (m : Int)).toNat, ?_, ?_⟩
  · rw [BitVec.toNat_and]
    refine Nat.le_trans Nat.and_le_right ?_
    rw [BitVec.ofInt_natCast, BitVec.toNat_ofNat]; exact Nat.mod_le _ _
  · show IntKind.i64.wrap ((BitVec.ofInt 64 x &&& BitVec.ofInt 64 (m : Int)).toNat : Int) = _
    have h : (BitVec.ofInt 64 x &&& BitVec.ofInt 64 (m : Int)).toNat ≤ m := by
      rw [BitVec.toNat_and]
      refine Nat.le_trans Nat.and_le_right ?_
      rw [BitVec.ofInt_natCast, BitVec.toNat_ofNat]; exact Nat.mod_le _ _
    rw [IntKind.wrap_i64]; omega
theorem On.drew {W w : World} {g : Nat} {img : List Int} {cache : List (Int × ByteArray)} (h : On W w g img cache) : On W w.drew g img cache := h.later (Below.refl _ _).drew
theorem On.bel {W w : World} {g : Nat} {img : List Int} {cache : List (Int × ByteArray)} (h : On W w g img cache) : Below W.heap.size W w := h.2
theorem on_image {W w : World} {g : Nat} {img : List Int} {cache : List (Int × ByteArray)} (h : On W w g img cache) : Calls Try.prog 61 #[.pointer (some ⟨g, 0, none⟩)] w fun e w' => e = .returned (.string (strOfNums img)) ∧ w = w' := image_ok h.1
set_option maxHeartbeats 2000000 in
set_option maxRecDepth 100000 in
theorem DiskTorn {H : Type} {enc : TypeId × Value → H} (W : World) (base : Nat) (v0 : Value) (d0 : DataW H) (p0 : List MemPlace) (v1 : Value) (d1 : DataW H) (p1 : List MemPlace) (v2 : Value) (d2 : DataW H) (p2 : List MemPlace) (v3 : Value) (d3 : DataW H) (p3 : List MemPlace) (v4 : Value) (d4 : DataW H) (p4 : List MemPlace)
    (h0 : DataW.Trod enc Try.prog W 0 (fun _ => true) true 3 v0 d0 p0) (o0 : Value.okWide Try.prog W .any base 3 v0)
    (h1 : DataW.Trod enc Try.prog W 0 (fun _ => true) true 3 v1 d1 p1) (o1 : Value.okWide Try.prog W .any base 3 v1)
    (h2 : DataW.Trod enc Try.prog W 0 (fun _ => true) true 23 v2 d2 p2) (o2 : Value.okWide Try.prog W .any base 23 v2)
    (h3 : DataW.Trod enc Try.prog W 0 (fun _ => true) true 5 v3 d3 p3) (o3 : Value.okWide Try.prog W .any base 5 v3)
    (h4 : DataW.Trod enc Try.prog W 0 (fun _ => true) true 5 v4 d4 p4) (o4 : Value.okWide Try.prog W .any base 5 v4)
    (hsz : (DataW.weightsEach Try.prog [3, 3, 23, 5, 5] [d0, d1, d2, d3, d4]).all (· ≤ reachBytes) = true) :
    Calls Try.prog 14 #[v0, v1, v2, v3, v4] W fun e w' => e = .returned (.bool true) ∧ Below W.heap.size W w' := by
  obtain ⟨x, rfl, rfl, rfl, w0⟩ := open_int Try.underlying3 o0 h0
  obtain ⟨y, rfl, rfl, rfl, w1⟩ := open_int Try.underlying3 o1 h1
  obtain ⟨pick, rfl, rfl, rfl, w2⟩ := open_int Try.underlying23 o2 h2
  obtain ⟨old, rfl, rfl, rfl, w3⟩ := open_int Try.underlying5 o3 h3
  obtain ⟨new, rfl, rfl, rfl, w4⟩ := open_int Try.underlying5 o4 h4
  clear h0 h1 h2 h3 h4 o0 o1 o2 o3 o4 hsz
  obtain ⟨a, ha, ea⟩ := and_small x 3 (by decide)
  rw [show ((3 : Nat) : Int) = 3 from rfl] at ea
  have ko := bounds_u8 w3
  have kn := bounds_u8 w4
  obtain ⟨c, hc, ec⟩ : ∃ c : Nat, c ≤ 64 ∧ wrap64 ((IntKind.u64.wrap y).tmod 65) = (c : Int) := by
    refine ⟨((IntKind.u64.wrap y) % 65).toNat, by omega, ?_⟩
    have : 0 ≤ IntKind.u64.wrap y := by rw [IntKind.wrap_u64]; omega
    rw [Int.tmod_eq_emod_of_nonneg this]
    unfold wrap64
    omega
  have bp := bounds_u64 w2
  have HA := awake_ok W
  go_enter Try.func14, Try.ntmps14
  go_wp2_with (go_at_call 55; refine HA.mono ?_; rintro e w1 ⟨rfl, hb1⟩)
  clear HA
  have HN := on_new 4 hb1 (by decide) (by decide)
  rw [zeros_of 4 256 rfl] at HN
  refine HN.mono ?_
  rintro e w2 ⟨g, rfl, hd2⟩
  clear HN hb1
  go_wp2_with (go_at_call 58; refine (sector3_ok old (by omega) (by omega) w2).mono ?_; rintro e w3 ⟨rfl, hb3⟩)
  have hd3 := hd2.later hb3
  clear hd2 hb3
  have h256 : a < (zeros 256).length / 64 := by rw [zeros_length]; omega
  have h4 := on_write hd3 a h256 _ (secStr_size old) (by decide)
  rw [List.nil_append] at h4
  clear hd3
  refine h4.mono ?_
  rintro e w4 ⟨rfl, hd4⟩
  clear h4
  have h5 := on_flush hd4
  have hl1 : (flushed [((a : Int), secStr old)] (zeros 256)).length = 256 := by rw [flushed_length _ _ hd4.ats, zeros_length]
  have hr1 := flush_reads [((a : Int), secStr old)] (zeros 256) hd4.ats a
  rw [← List.nil_append [((a : Int), secStr old)], readOf_snoc, if_pos rfl, List.nil_append] at hr1
  clear hd4
  generalize flushed [((a : Int), secStr old)] (zeros 256) = img1 at h5 hl1 hr1
  go_wp2_with (go_at_call 59; refine h5.mono ?_; rintro e w5 ⟨rfl, hd5⟩)
  clear h5
  refine (sector3_ok new (by omega) (by omega) w5).mono ?_
  rintro e w6 ⟨rfl, hb6⟩
  have hd6 := hd5.later hb6
  clear hd5 hb6
  have h7 := on_write hd6 a (by rw [hl1]; omega) _ (secStr_size new) (by decide)
  rw [List.nil_append] at h7
  clear hd6
  go_wp2_with (go_at_call 57; refine h7.mono ?_; rintro e w7 ⟨rfl, hd7⟩)
  clear h7
  have h8 := on_crash hd7 pick 0 (c : Int) (by omega)
  have hl2 := imgAt_length pick 0 (c : Int) [((a : Int), secStr new)] img1 hd7.ats 1
  change Calls _ _ _ _ fun e w' => e = .returned (.int .i64 0) ∧ On W w' g (imgAt pick 0 (c : Int) [((a : Int), secStr new)] img1 1) [] at h8
  have hread : readOf (imgAt pick 0 (c : Int) [((a : Int), secStr new)] img1 1) [] a = (secStr new).extract 0 c ++ (secStr old).extract c 64 := torn_read pick c hc img1 a _ _ (secStr_size new) (secStr_size old) (by rw [hl1]; omega) hr1
  clear hd7
  generalize imgAt pick 0 (c : Int) [((a : Int), secStr new)] img1 1 = img2 at h8 hl2 hread
  go_wp2_with (go_at_call 60; refine h8.mono ?_; rintro e w8 ⟨rfl, hd8⟩)
  clear h8
  have h9 := read_ok hd8.1 a (by rw [hl2, hl1]; omega)
  rw [hread] at h9
  have hil : (strOfNums img2).size = 256 := by rw [strOfNums_size, hl2, hl1]
  go_wp2_with (go_at_call 62; refine h9.mono ?_; rintro e w9 ⟨rfl, rfl⟩)
  clear h9 hread hr1 hl1 hl2
  have hN := fun w => num_ok 0 (by decide) (by decide) w
  have z1 := secStr_size new
  have z2 := secStr_size old
  have k1 : (0 : Int) ≤ (c : Int) := by omega
  have k2 : (c : Int) ≤ 64 := by omega
  have k3 : c ≤ 64 := hc
  go_region_held3 (fun w' => On W w' g img2 []) (first | assumption | exact On.drew hd8 | (refine On.later ?_ hb9; assumption)) (first | (go_at_call 38; refine (hN _).mono ?_; rintro e w6 ⟨rfl, rfl⟩) | (go_at_call 58; refine (sector3_ok _ (by omega) (by omega) _).mono ?_; rintro e w9 ⟨rfl, hb9⟩) | (go_at_call 61; refine (on_image (W := W) (img := img2) (cache := []) ?_).mono ?_; assumption; rintro e w6 ⟨rfl, rfl⟩))
  go_wp2
  go_ret
  refine ⟨rfl, On.bel (g := g) (img := img2) (cache := []) ?_⟩
  assumption
end Go.Proofs.Ytkcnmlggaggjlaa.Walk

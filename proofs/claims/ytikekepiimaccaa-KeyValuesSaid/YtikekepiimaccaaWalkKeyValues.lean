/- KeyValues: an inode's value, numbers packed: from the arguments' readings to the call's end. Conditions: as in the statement. -/
import Derived.Test.YtikekepiimaccaaLendNums
import Derived.Test.YtikekepiimaccaaOpenI
import Derived.Test.YtikekepiimaccaaWSized
import Derived.WalkKit
import Derived.ProofKit
import Derived.OpenShut
import Derived.ShutString
import Derived.ChangeOld
import Derived.SizedLaws
set_option linter.unusedVariables false
set_option linter.unusedSimpArgs false
namespace Go.Proofs.Ytikekepiimaccaa.Walk
open Go.RowKit Go.ChangeShapes Go.WideShapes Go.Proofs.Ytikekepiimaccaa.Kv Go.Proofs.Ytikekepiimaccaa.KeyV Go.Proofs.YtikekepiimaccaaW.PrintWords Go.Proofs.YtikekepiimaccaaW.PrintLast Go.Proofs.YtikekepiimaccaaW.PrintMore Go.Proofs.Ytikekepiimaccaa.Sep
open Go.ChangeMaps (open_string)
/-- a list of numbers that came in, as the printed contracts read it -/
theorem open_row {H : Type} {enc : TypeId × Value → H} {P : Program} {W : World} {base : Nat} {t e : TypeId} {k : IntKind} {v : Value} {d : DataW H} {p : List MemPlace} (ht : P.underlying t = some (.slice e)) (he : P.underlying e = some (.int k)) (hc : P.cellsOf e = 1)
    (h : DataW.Trod enc P W 0 (fun _ => true) true t v d p) (o : Value.okWide P W .any base t v) :
    ∃ (A : Option Addr) (c : Nat) (xs : List Int), v = .slice A xs.length c ∧ xs.length ≤ c ∧ (∀ x ∈ xs, (Lit.int k x).wf = true) ∧ ReadsInt W k A xs.length xs := by
  obtain ⟨A, l, c, rfl⟩ := okWide_slice ht o
  obtain ⟨fuel, hf⟩ := h
  rcases open_ints ht he hc hf with ⟨hcs, _⟩ | ⟨a, len, cap, zs, hcs, _, hl, hm, hz, _, hcell, hw⟩
  · simp [Value.cells] at hcs
    obtain ⟨rfl, rfl, rfl⟩ := hcs
    exact ⟨none, 0, [], rfl, Nat.le_refl _, by simp, rfl, by decide, fun hn => absurd hn (by decide)⟩
  · simp [Value.cells] at hcs
    obtain ⟨rfl, rfl, rfl⟩ := hcs
    have hz' : zs.length = c := by simpa using hz
    have hlen : (zs.take l).length = l := by rw [List.length_take]; omega
    unfold maxLen at hm
    refine ⟨some a, c, zs.take l, by rw [hlen], by omega, fun x hx => hw x (List.mem_of_mem_take hx), rfl, by omega, fun _ => ⟨a, rfl, fun i hi => ?_⟩⟩
    rw [hcell i (by omega)]
    congr 2
    simp [List.getD_eq_getElem?_getD, List.getElem?_take, show i < l by omega]
theorem bel_of {W w w' : World} (h : Below W.heap.size W w) (hb : Below w.heap.size w w') : Below W.heap.size W w' := h.trans (hb.mono h.size)
theorem lent_later {w w' : World} {base g cap : Nat} {xs : List Int} (h : Lent w base g cap xs) (hb : Below w.heap.size w w') : Lent w' base g cap xs :=
  own_keep h fun k hk => hb.block k (Sep.own_lt h k hk)
theorem num_same (x : Int) (w : World) : Calls Try.prog 28 #[.int .i64 x] w fun e w' => e = .returned (.int .i64 x) ∧ w = w' := by
  go_enter Try.func28, Try.ntmps28
  go_wp2
  go_ret
  exact ⟨rfl, rfl⟩
theorem bel_drawn {w w' : World} (h : Drawn0 w w') : Below w.heap.size w w' := by
  obtain ⟨n, rfl⟩ := h
  exact ⟨rfl, rfl, rfl, Nat.le_refl _, fun _ _ => rfl⟩
theorem row_later {w w1 : World} {base : Nat} {ok : Nat → Prop} {v : Value} {xs : List Int} (h : Kd.R (Kd.int .u64) 22 w base ok v xs) (hb : Below w.heap.size w w1) : Kd.R (Kd.int .u64) 22 w1 base (fun k => ok k ∧ base ≤ k ∧ k < w.heap.size) v xs :=
  Kd.R_move (Kd.R_mono (Kd.R_bound h) (fun k hk => ⟨hk.1, hk.2.1, hk.2.2.1⟩)) (fun k hk => hb.block k hk.2.2)
theorem eqA30 (d : Nat) (w : World) (x0 y0 : Int) (x1 y1 : Int) (x2 y2 : Int) (x3 y3 : Int) :
    (Op.equalIn (d + 2) 30 (.agg #[.int .i64 x0, .int .u32 x1, .int .u64 x2, .int .u64 x3]) (.agg #[.int .i64 y0, .int .u32 y1, .int .u64 y2, .int .u64 y3])).run Try.prog w = .ok (x0 == y0 && (x1 == y1 && (x2 == y2 && (x3 == y3)))) w := by
  refine eqA_of Try.underlying30 (by kernel_rfl) ?_
  refine eqf_cons (by rfl) (by go_simp; rfl) (by go_simp; rfl) (by go_simp) ?_
  refine eqf_cons (by rfl) (by go_simp; rfl) (by go_simp; rfl) (by go_simp) ?_
  refine eqf_cons (by rfl) (by go_simp; rfl) (by go_simp; rfl) (by go_simp) ?_
  exact eqf_last (by rfl) (by go_simp; rfl) (by go_simp; rfl) (by go_simp)
theorem eqA32 (d : Nat) (w : World) (x0 y0 : Int) (x1 y1 : Int) (x2 y2 : Int) (x3 y3 : Int) (x4 y4 : Int) (x5 y5 : Int) (x6 y6 : Int) :
    (Op.equalIn (d + 3) 32 (.agg #[.int .i64 x0, .int .u32 x1, .int .u64 x2, .int .u64 x3, .int .u64 x4, .int .u64 x5, .int .u64 x6]) (.agg #[.int .i64 y0, .int .u32 y1, .int .u64 y2, .int .u64 y3, .int .u64 y4, .int .u64 y5, .int .u64 y6])).run Try.prog w = .ok ((x0 == y0 && (x1 == y1 && (x2 == y2 && (x3 == y3)))) && (x4 == y4 && (x5 == y5 && (x6 == y6)))) w := by
  refine eqA_of Try.underlying32 (by kernel_rfl) ?_
  refine eqf_cons (by rfl) (by go_simp) (by go_simp) (eqA30 (d + 0) w _ _ _ _ _ _ _ _) ?_
  refine eqf_cons (by rfl) (by go_simp; rfl) (by go_simp; rfl) (by go_simp) ?_
  refine eqf_cons (by rfl) (by go_simp; rfl) (by go_simp; rfl) (by go_simp) ?_
  exact eqf_last (by rfl) (by go_simp; rfl) (by go_simp; rfl) (by go_simp)
attribute [local go_sem high] eqA32
set_option maxHeartbeats 8000000 in
set_option maxRecDepth 100000 in
theorem valuesWalk (a b c d e f g : Int) (s : ByteArray) (A2 : Option Addr) (c2 : Nat) (xs : List Int) (n : Int) (W : World) (K : Nat) (hK : s.size + 200 < K)
    (ha : -9223372036854775808 ≤ a ∧ a ≤ 9223372036854775807) (hb : 0 ≤ b ∧ b < 4294967296) (hc : U c) (hd : U d) (he : U e) (hf : U f) (hg : U g) (hs : s.size ≤ 140737488351232)
    (hx : ∀ x ∈ xs, U x) (hl : xs.length * 8 ≤ 140737488351232) (hr : Kd.C (Kd.int .u64) W A2 xs.length xs) (hc2 : xs.length ≤ c2) (hn : -9223372036854775808 ≤ n ∧ n ≤ 9223372036854775807) :
    Calls Try.prog 4 #[.agg #[.int .i64 a, .int .u32 b, .int .u64 c, .int .u64 d, .int .u64 e, .int .u64 f, .int .u64 g], .string s, .slice A2 xs.length c2, .int .i64 n] W fun e w' => e = .returned (.bool true) ∧ Below W.heap.size W w' := by
  obtain ⟨⟨p1, p2⟩, hp, hp'⟩ := ofs K (by omega) a b c d e f g ha hb hc hd he hf hg
  obtain ⟨⟨q1, q2, q3, q4, q5, q6, q7, q8⟩, hq, hq'⟩ := tos K (by omega) s
  obtain ⟨⟨r1, r2⟩, hrr, hrr'⟩ := packs K (by omega) xs (by omega) s hs hx
  obtain ⟨⟨u1, u2, u3⟩, hu, hu', hul⟩ := unpacks K s hs (by omega) n hn.1 hn.2
  obtain ⟨z, hz⟩ := spoil_is K u1 (by simp only at hul; omega) (by simp only at hul; omega)
  have hsame := same_is K u1 (by simp only at hul; omega) (by simp only at hul; omega)
  have haw := awake_is K (by omega)
  have HP := Lib.hid hp
  have HP' := Lib.hid hp'
  have HQ := Lib.hid hq
  have HQ' := Lib.hid hq'
  have HRR := Lib.hid hrr
  have HRR' := Lib.hid hrr'
  have HU := Lib.hid hu
  have HU' := Lib.hid hu'
  have HZ := Lib.hid hz
  have HS := Lib.hid hsame
  have HW := Lib.hid haw
  have HC := Aside0.mk hr
  have HL := Lib.hid hl
  clear hp hp' hq hq' hrr hrr' hu hu' hz hsame haw hr hx ha hb hc hd he hf hg hn hl hul
  have hu32 := Try.underlying32
  go_enter Try.func4, Try.ntmps4
  have B0 := below_alloc (Below.refl W.heap.size W) (.cells #[.int .i64 a, .int .u32 b, .int .u64 c, .int .u64 d, .int .u64 e, .int .u64 f, .int .u64 g] 32)
  have G0 := blk_new W (.cells #[.int .i64 a, .int .u32 b, .int .u64 c, .int .u64 d, .int .u64 e, .int .u64 f, .int .u64 g] 32)
  have S0 : W.heap.size < (W.alloc (.cells #[.int .i64 a, .int .u32 b, .int .u64 c, .int .u64 d, .int .u64 e, .int .u64 f, .int .u64 g] 32)).heap.size := by simp
  have HA := fun w => key_OfInode.calls K a b c d e f g p1 p2 w HP.out
  go_wp2_with (go_at_call 21; refine (HA _).mono ?_; rintro e w1 ⟨rfl, hb1⟩; have B1 := bel_of B0 hb1; have G1 := (hb1.block _ S0).trans G0; have x0 := (cell_of G1 0).trans rfl; have x1 := (cell_of G1 1).trans rfl; have x2 := (cell_of G1 2).trans rfl; have x3 := (cell_of G1 3).trans rfl; have x4 := (cell_of G1 4).trans rfl; have x5 := (cell_of G1 5).trans rfl; have x6 := (cell_of G1 6).trans rfl; clear hb1 B0 G0 S0 HA G1)
  refine (holtref12_OfInode.calls K a b c d e f g p1 p2 w1 HP'.out).mono ?_
  rintro e w2 ⟨rfl, hb2⟩
  have B2 := bel_of B1 hb2
  clear hb2 B1 x0 x1 x2 x3 x4 x5 x6 HP HP'
  have HA := fun w => key_ToInode.calls K s q1 q2 q3 q4 q5 q6 q7 q8 w HQ.out
  go_wp2_with (go_at_call 23; refine (HA _).mono ?_; rintro e w3 ⟨rfl, hb3⟩; have B3 := bel_of B2 hb3; clear hb3 B2 HA)
  have B3 := below_alloc B3 (.cells #[.int .i64 q1, .int .u32 q2, .int .u64 q3, .int .u64 q4, .int .u64 q5, .int .u64 q6, .int .u64 q7] 32)
  have G3 := blk_new w3 (.cells #[.int .i64 q1, .int .u32 q2, .int .u64 q3, .int .u64 q4, .int .u64 q5, .int .u64 q6, .int .u64 q7] 32)
  have S3 : w3.heap.size < (w3.alloc (.cells #[.int .i64 q1, .int .u32 q2, .int .u64 q3, .int .u64 q4, .int .u64 q5, .int .u64 q6, .int .u64 q7] 32)).heap.size := by simp
  refine (holtref12_ToInode.calls K s q1 q2 q3 q4 q5 q6 q7 q8 _ HQ'.out).mono ?_
  generalize w3.alloc (.cells #[.int .i64 q1, .int .u32 q2, .int .u64 q3, .int .u64 q4, .int .u64 q5, .int .u64 q6, .int .u64 q7] 32) = w3' at B3 G3 S3 ⊢
  rintro e w4 ⟨rfl, hb4⟩
  have B4 := bel_of B3 hb4
  have G4 := (hb4.block _ S3).trans G3
  have S4 := Nat.lt_of_lt_of_le S3 hb4.size
  generalize w3.heap.size = g3 at G4 S4 ⊢
  clear hb4 B3 G3 S3 HQ HQ'
  go_wp2_with fail
  have B5 := below_alloc B4 (.cells #[.int .i64 q1, .int .u32 q2, .int .u64 q3, .int .u64 q4, .int .u64 q5, .int .u64 q6, .int .u64 q7] 32)
  have G5 := blk_new w4 (.cells #[.int .i64 q1, .int .u32 q2, .int .u64 q3, .int .u64 q4, .int .u64 q5, .int .u64 q6, .int .u64 q7] 32)
  have S5 : w4.heap.size < (w4.alloc (.cells #[.int .i64 q1, .int .u32 q2, .int .u64 q3, .int .u64 q4, .int .u64 q5, .int .u64 q6, .int .u64 q7] 32)).heap.size := by simp
  have G4' := (Below.heap_alloc w4 (.cells #[.int .i64 q1, .int .u32 q2, .int .u64 q3, .int .u64 q4, .int .u64 q5, .int .u64 q6, .int .u64 q7] 32) g3 S4).trans G4
  have S4' := Nat.lt_trans S4 S5
  clear B4 G4 S4
  generalize w4.alloc (.cells #[.int .i64 q1, .int .u32 q2, .int .u64 q3, .int .u64 q4, .int .u64 q5, .int .u64 q6, .int .u64 q7] 32) = w4' at B5 G5 S5 G4' S4' ⊢
  generalize w4.heap.size = g5 at G5 S5 ⊢
  refine (lend_ok A2 c2 xs w4' (Kd.C_below HC.out (B5.mono (Nat.le_refl _))) hc2 HL.out).mono ?_
  rintro e w5 ⟨gl, cap, rfl, hlent, hb5⟩
  have B6 := bel_of B5 hb5
  have G6 := (hb5.block _ S4').trans G4'
  have G7 := (hb5.block _ S5).trans G5
  have S6 := Nat.lt_of_lt_of_le S4' hb5.size
  have S7 := Nat.lt_of_lt_of_le S5 hb5.size
  obtain ⟨bl, hlent⟩ : ∃ bl, Lent w5 bl gl cap xs := ⟨_, hlent⟩
  clear hb5 B5 G4' G5 S4' S5
  have hcap : xs.length ≤ cap := by
    rcases hlent.2 with ⟨_, h0⟩ | ⟨g', cap', cur, e, _, _, h1, h2, _⟩
    · exact absurd h0 (by omega)
    · injection e with _ _ e2; omega
  have HA := fun w hw => key_Pack.calls K (some ⟨gl, 0, none⟩) cap xs s r1 r2 w hw hcap HRR.out
  go_wp2_with fail
  refine (HA w5 (lent_reads hlent)).mono ?_
  rintro e w6 ⟨rfl, hb6⟩
  have HA := fun w hw => holtref12_Pack.calls K A2 c2 xs s r1 r2 w hw hc2 HRR'.out
  have B7 := bel_of B6 hb6
  go_wp2_with fail
  refine (HA w6 (Kd.C_below HC.out B7)).mono ?_
  rintro e w7 ⟨rfl, hb7⟩
  have B8 := bel_of B7 hb7
  have hbb : Below w5.heap.size w5 w7 := bel_of hb6 hb7
  have G8 := (hbb.block _ S6).trans G6
  have G9 := (hbb.block _ S7).trans G7
  have hl8 := lent_later hlent hbb
  clear hb6 hb7 hbb G6 G7 S6 S7 B6 B7 hlent HA HRR HRR'
  have x0 := (cell_of G8 0).trans rfl
  have y0 := (cell_of G9 0).trans rfl
  have x1 := (cell_of G8 1).trans rfl
  have y1 := (cell_of G9 1).trans rfl
  have x2 := (cell_of G8 2).trans rfl
  have y2 := (cell_of G9 2).trans rfl
  have x3 := (cell_of G8 3).trans rfl
  have y3 := (cell_of G9 3).trans rfl
  have x4 := (cell_of G8 4).trans rfl
  have y4 := (cell_of G9 4).trans rfl
  have x5 := (cell_of G8 5).trans rfl
  have y5 := (cell_of G9 5).trans rfl
  have x6 := (cell_of G8 6).trans rfl
  have y6 := (cell_of G9 6).trans rfl
  have HB8 := Aside0.mk B8
  have HL8 := Aside0.mk hl8
  have HN := fun x w => num_same x w
  clear G8 G9 B8 hl8
  go_wp2_with (first | (go_at_call 28; refine (num_same _ _).mono ?_; rintro e w9 ⟨rfl, rfl⟩) | (go_at_call 29; refine (kept_ok A2 c2 HL8.out (Kd.C_below HC.out HB8.out) hc2 HL.out).mono ?_; rintro e w8 ⟨rfl, hd8⟩; have HB9 := Aside0.mk (bel_of HB8.out (bel_drawn hd8)); clear hd8 x0 x1 x2 x3 x4 x5 x6 y0 y1 y2 y3 y4 y5 y6))
  clear HL8 HB8 HN
  refine (key_Unpack.calls K s n u1 u2 u3 w8 HU.out).mono ?_
  rintro e w10 ⟨va, rfl, hRa, hb10⟩
  go_wp2_with fail
  refine (key_Unpack.calls K s n u1 u2 u3 w10 HU.out).mono ?_
  rintro e w11 ⟨vb, rfl, hRb, hb11⟩
  go_wp2_with fail
  refine (holtref12_Unpack.calls K s n u1 u2 u3 w11 HU'.out).mono ?_
  rintro e w12 ⟨vc, rfl, hRc, hb12⟩
  have ra := row_later (row_later hRa hb11) (Below.refl _ _)
  have ra := row_later hRa (bel_of hb11 hb12)
  have rb := row_later hRb hb12
  have rc := row_later hRc (Below.refl _ _)
  obtain ⟨Aa, ca, rfl, hca, hCa⟩ := Kd.R_reads ra
  obtain ⟨Ab, cb, rfl, hcb, hCb⟩ := Kd.R_reads rb
  obtain ⟨Ac, cc, rfl, hcc, hCc⟩ := Kd.R_reads rc
  have hb812 : Below w8.heap.size w8 w12 := bel_of (bel_of hb10 hb11) hb12
  have z1 := hb10.size
  have z2 := hb11.size
  have z3 := hb12.size
  have B12 := Aside0.mk (bel_of HB9.out hb812)
  have RA := Aside0.mk ra
  have RB := Aside0.mk rb
  have RC := Aside0.mk rc
  have HBB := Aside0.mk hb812
  have HSM := fun w h1 h2 => holtlaw0_SameNums.calls K Aa ca u1 Ac cc u1 true w h1 hca h2 hcc HS.out
  have CA := Aside0.mk hCa
  have CC := Aside0.mk hCc
  clear hRa hRb hRc hb10 hb11 hb12 ra rb rc hb812 hCa hCb hCc
  go_wp2_with (first | (go_at_call 28; refine (num_same _ _).mono ?_; rintro e w9 ⟨rfl, rfl⟩) | (go_at_call 32; refine (HSM _ CA.out CC.out).mono ?_; rintro e w13 ⟨rfl, hd13⟩; have HD13 := Aside0.mk (bel_drawn hd13); clear hd13))
  have hD := HD13.out
  have ra := Kd.R_mono (row_later RA.out hD) (ok' := fun k => w8.heap.size ≤ k ∧ k < w10.heap.size) (fun k hk => hk.1.2)
  have rb := Kd.R_mono (row_later RB.out hD) (ok' := fun k => w10.heap.size ≤ k ∧ k < w11.heap.size) (fun k hk => hk.1.2)
  have rc := Kd.R_mono (row_later RC.out hD) (ok' := fun k => w11.heap.size ≤ k ∧ k < w12.heap.size) (fun k hk => hk.1.2)
  have hB13 : Below w8.heap.size w8 w13 := bel_of HBB.out hD
  have hSP := holtlaw0_SpoilNums.calls K _ _ u1 z w8 w13 hB13 ra HZ.out
  have z4 := hD.size
  have hB9 : Below W.heap.size W w8 := HB9.out
  clear CA CC hD HD13 ra RA RB RC HBB HSM
  refine hSP.mono ?_
  rintro e w14 ⟨rfl, _, hb14, hk14⟩
  have B14 := Aside0.mk (bel_of hB9 hb14)
  have rb := Kd.R_move rb (fun k hk => hk14.2 k (by omega) (by omega))
  have rc := Kd.R_move rc (fun k hk => hk14.2 k (by omega) (by omega))
  obtain ⟨Ab', cb', e1, hcb, hCb⟩ := Kd.R_reads rb
  obtain ⟨Ac', cc', e2, hcc, hCc⟩ := Kd.R_reads rc
  injection e1 with e11 _ e12
  injection e2 with e21 _ e22
  subst e11 e12 e21 e22
  have HSM := fun w h1 h2 => holtlaw0_SameNums.calls K Ab cb u1 Ac cc u1 true w h1 hcb h2 hcc HS.out
  have CB := Aside0.mk hCb
  have CC := Aside0.mk hCc
  clear hSP rb rc hk14 hb14 hCb hCc hB13 hB9 B12
  go_wp2_with (first | (go_at_call 32; refine (HSM _ CB.out CC.out).mono ?_; rintro e w15 ⟨rfl, hd15⟩; have HD15 := Aside0.mk (bel_of B14.out (bel_drawn hd15)); clear hd15) | (go_at_call 15; refine (holtlaw12_awake.calls K true _ HW.out).mono ?_; rintro e w16 ⟨rfl, hb16⟩))
  go_ret
  exact ⟨rfl, bel_of HD15.out hb16⟩
set_option maxRecDepth 100000 in
theorem KeyValues {H : Type} {enc : TypeId × Value → H} (W : World) (base : Nat) (v0 : Value) (d0 : DataW H) (p0 : List MemPlace) (v1 : Value) (d1 : DataW H) (p1 : List MemPlace) (v2 : Value) (d2 : DataW H) (p2 : List MemPlace) (v3 : Value) (d3 : DataW H) (p3 : List MemPlace)
    (h0 : DataW.Trod enc Try.prog W 0 (fun _ => true) true 32 v0 d0 p0) (o0 : Value.okWide Try.prog W .any base 32 v0)
    (h1 : DataW.Trod enc Try.prog W 0 (fun _ => true) true 9 v1 d1 p1) (o1 : Value.okWide Try.prog W .any base 9 v1)
    (h2 : DataW.Trod enc Try.prog W 0 (fun _ => true) true 33 v2 d2 p2) (o2 : Value.okWide Try.prog W .any base 33 v2)
    (h3 : DataW.Trod enc Try.prog W 0 (fun _ => true) true 3 v3 d3 p3) (o3 : Value.okWide Try.prog W .any base 3 v3)
    (hsz : (DataW.weightsEach Try.prog [32, 9, 33, 3] [d0, d1, d2, d3]).all (· ≤ reachBytes) = true) :
    Calls Try.prog 4 #[v0, v1, v2, v3] W fun e w' => e = .returned (.bool true) ∧ Below W.heap.size W w' := by
  obtain ⟨a, b, c, d, e, f, g, rfl, w0, w1, w2, w3, w4, w5, w6⟩ := Open.open32 o0 h0
  obtain ⟨s, rfl, rfl, rfl, y1⟩ := open_string Try.underlying9 o1 h1
  obtain ⟨A2, c2, xs, rfl, hc2, hx, hr⟩ := open_row Try.underlying33 Try.underlying22 (by kernel_rfl) h2 o2
  obtain ⟨n, rfl, rfl, rfl, wn⟩ := open_int Try.underlying3 o3 h3
  have y2 : xs.length * 8 ≤ 140737488351232 := sized_ints hsz (j := 2) (t := 33) rfl rfl Try.underlying33 Try.underlying22 (by kernel_rfl) (by kernel_rfl) h2
  have y3 : s.size ≤ 140737488351232 := by
    have z := sized_string hsz (j := 1) (t := 9) rfl rfl
    rw [Array.length_toList] at z
    exact z
  have b0 := bounds_i64 w0
  have b1 := bounds_u32 w1
  have b2 := bounds_u64 w2
  have b3 := bounds_u64 w3
  have b4 := bounds_u64 w4
  have b5 := bounds_u64 w5
  have b6 := bounds_u64 w6
  have bn := bounds_i64 wn
  have hx2 : ∀ x ∈ xs, U x := fun x hxx => by have := bounds_u64 (hx x hxx); exact ⟨by omega, by omega⟩
  exact valuesWalk a b c d e f g s A2 c2 xs n W (s.size + 201) (by omega) ⟨by omega, by omega⟩ ⟨by omega, by omega⟩ ⟨by omega, by omega⟩ ⟨by omega, by omega⟩ ⟨by omega, by omega⟩ ⟨by omega, by omega⟩ ⟨by omega, by omega⟩ y3 hx2 y2 (Kd.C_of_reads (d := (0 : Int)) (h1 := fun _ => rfl) hr) hc2 ⟨by omega, by omega⟩
end Go.Proofs.Ytikekepiimaccaa.Walk

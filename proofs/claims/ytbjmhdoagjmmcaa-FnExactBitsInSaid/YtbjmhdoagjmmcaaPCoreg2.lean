/- The walks of the functions that the laws come to, part 2: turned out of the kit's print, and mended where that fell. -/
import Derived.Test.YtbjmhdoagjmmcaaPCoreg
import Derived.Test.YtbjmhdoagjmmcaaPCoreg0
import Derived.Test.YtbjmhdoagjmmcaaPCoreg1
namespace Go.Proofs.Ytbjmhdoagjmmcaa.PCore
open Go.RowKit Go.Proofs.YtbjmhdoagjmmcaaW.PrintWords Go.Proofs.YtbjmhdoagjmmcaaW.PrintLast Go.Proofs.YtbjmhdoagjmmcaaW.PrintMore
attribute [local go_sem] max2_int min2_int max_two min_two max_three min_three max_four min_four   -- for this text's walks alone
set_option linter.unusedVariables false
set_option linter.unusedSimpArgs false

/-! ### spec_l3Inputs: function 53 -/
mutual
def spec_l3Inputs.l0 : Nat → List (S77) → Bool → Int → Int → List (S77) → List (S77) → Int → List Int → List (S42) → Option (Bool)
 | 0, _, _, _, _, _, _, _, _, _ => none
 | k + 1, x1, x2, x7, x266000, x266001, x266002, x266003, x266004, x266005 => if x7 < (x1.length : Int) then (if 0 ≤ x7 then ((spec_l3Size.f k x266000 x266001 x266002 x266003 x266004 x266005).bind fun t268 => ((spec_l1In.f ((rd_T77 x1 x7).f0) 0 (wrap64 (t268 - 1))).bind fun t269 => (if t269 = true then ((spec_l1In.f ((rd_T77 x1 x7).f1) 0 99).bind fun t271 => (if t271 = true then (if x2 = true then (spec_l3Inputs.j1 k x1 x2 x7 (((rd_T77 x1 x7).f1) != 0) x266000 x266001 x266002 x266003 x266004 x266005) else (spec_l3Inputs.j1 k x1 x2 x7 false x266000 x266001 x266002 x266003 x266004 x266005)) else (spec_l3Inputs.j1 k x1 x2 x7 true x266000 x266001 x266002 x266003 x266004 x266005))) else (spec_l3Inputs.j1 k x1 x2 x7 true x266000 x266001 x266002 x266003 x266004 x266005)))) else (none)) else (some (decide ((x1.length : Int) ≤ 3)))
def spec_l3Inputs.j1 : Nat → List (S77) → Bool → Int → Bool → Int → List (S77) → List (S77) → Int → List Int → List (S42) → Option (Bool)
 | 0, _, _, _, _, _, _, _, _, _, _ => none
 | k + 1, x1, x2, x7, x43, x266000, x266001, x266002, x266003, x266004, x266005 => if x43 = true then (some false) else (spec_l3Inputs.l0 k x1 x2 (wrap64 (x7 + 1)) x266000 x266001 x266002 x266003 x266004 x266005)
end
def spec_l3Inputs.f (k : Nat) (a0_0 : Int) (l0_1 : List (S77)) (l0_2 : List (S77)) (a0_3 : Int) (l0_4 : List Int) (l0_5 : List (S42)) (l1 : List (S77)) (a2 : Bool) : Option (Bool) := spec_l3Inputs.l0 k l1 a2 0 a0_0 l0_1 l0_2 a0_3 l0_4 l0_5
def spec_l3Inputs.T4 : Bool × List (List Nat × List Nat) := (true, [([], []), ([], []), ([0, 1], [0, 1]), ([2], [2]), ([3], [3]), ([], []), ([5], [5]), ([6], [6]), ([4, 7, 6], [4, 7]), ([8], [8]), ([9, 8], [9]), ([10], [10]), ([10], [10]), ([11, 12, 10], [10, 11, 12]), ([13, 10], [10, 13]), ([14, 10], [10, 14]), ([15, 10, 10], [10, 15]), ([16, 10], [10, 16]), ([10, 17], [10, 17]), ([18, 16], [18]), ([19], [19]), ([20, 19, 19], [19, 20]), ([21], [21]), ([21], [21]), ([22, 23, 21], [21, 22, 23]), ([24, 21], [21, 24]), ([25, 21], [21, 25]), ([26, 21], [21, 26]), ([21, 27, 19], [19, 21, 27]), ([19, 28], [19, 28])])
def spec_l3Inputs.B4 : List Nat := [0, 0, 3, 7, 15, 0, 32, 96, 255, 511, 1023, 2047, 2047, 8191, 16383, 32767, 65535, 131071, 262143, 524287, 1048575, 2097151, 4194303, 4194303, 16777215, 33554431, 67108863, 134217727, 268435455, 536870911]
theorem spec_l3Inputs.tab4 : rtab .any (opsOf Try.f53 4) = spec_l3Inputs.T4 := by kernel_rfl
theorem spec_l3Inputs.bits4 : waitsOk spec_l3Inputs.T4.2 spec_l3Inputs.B4 = true := by kernel_rfl
set_option maxHeartbeats 8000000 in
set_option maxRecDepth 100000 in
theorem spec_l3Inputs.calls (k : Nat) (a0_0 : Int) (A0_1 : Option Addr) (c0_1 : Nat) (l0_1 : List (S77)) (A0_2 : Option Addr) (c0_2 : Nat) (l0_2 : List (S77)) (a0_3 : Int) (A0_4 : Option Addr) (c0_4 : Nat) (l0_4 : List Int) (A0_5 : Option Addr) (c0_5 : Nat) (l0_5 : List (S42)) (A1 : Option Addr) (c1 : Nat) (l1 : List (S77)) (a2 : Bool) (r : Bool) (w : World) (hr0_1 : Kd.C k77 w A0_1 l0_1.length l0_1) (hc0_1 : l0_1.length ≤ c0_1) (hr0_2 : Kd.C k77 w A0_2 l0_2.length l0_2) (hc0_2 : l0_2.length ≤ c0_2) (hr0_4 : Kd.C (Kd.int .i64) w A0_4 l0_4.length l0_4) (hc0_4 : l0_4.length ≤ c0_4) (hr0_5 : Kd.C k42 w A0_5 l0_5.length l0_5) (hc0_5 : l0_5.length ≤ c0_5) (hr1 : Kd.C k77 w A1 l1.length l1) (hc1 : l1.length ≤ c1) (h : spec_l3Inputs.f k a0_0 l0_1 l0_2 a0_3 l0_4 l0_5 l1 a2 = some r) :
 Calls Try.prog 53 #[.agg #[.int .i64 a0_0, .slice A0_1 l0_1.length c0_1, .slice A0_2 l0_2.length c0_2, .int .i64 a0_3, .slice A0_4 l0_4.length c0_4, .slice A0_5 l0_5.length c0_5], .slice A1 l1.length c1, .bool a2] w fun e w' => e = .returned (.bool r) ∧ Below w.heap.size w w' := by
 have hu35 := Try.underlying35
 have HR0_1 := Aside0.mk hr0_1
 have HC0_1 := Aside0.mk hc0_1
 clear hr0_1 hc0_1
 have HR0_2 := Aside0.mk hr0_2
 have HC0_2 := Aside0.mk hc0_2
 clear hr0_2 hc0_2
 have HR0_4 := Aside0.mk hr0_4
 have HC0_4 := Aside0.mk hc0_4
 clear hr0_4 hc0_4
 have HR0_5 := Aside0.mk hr0_5
 have HC0_5 := Aside0.mk hc0_5
 clear hr0_5 hc0_5
 have HR1 := Aside0.mk hr1
 have HC1 := Aside0.mk hc1
 clear hr1 hc1
 have HB := Aside0.mk (Below.refl w.heap.size w)
 have H : (spec_l3Inputs.l0 k l1 a2 0 a0_0 l0_1 l0_2 a0_3 l0_4 l0_5) = some r := h
 clear h
 have H' := Aside0.mk H
 clear H
 go_enter Try.func53, Try.ntmps53
 go_wp2_with (first | ((with_reducible refine gate_dst (N := 3) rfl ?_); refine bE 3 #[.int .i64 a0_0, .slice A0_1 l0_1.length c0_1, .slice A0_2 l0_2.length c0_2, .int .i64 a0_3, .slice A0_4 l0_4.length c0_4, .slice A0_5 l0_5.length c0_5] 35 ?_; intro gb10 hg w4 hbox hb; have q := n4_ (below_step ψ52 hb) (hbox) ((ψ311 : w.heap.size ≤ gb10)) ((ψ311 : w.heap.size ≤ gb10)); clear HB; obtain ⟨HB, BK10, GW10, GE10⟩ := q; clear hb hbox hg))
 go_loopg [7] k (fun kq v7 w' => ∃ (x7_1 : Int), v7 = .int .i64 x7_1 ∧ Aside0 (spec_l3Inputs.l0 kq l1 a2 x7_1 a0_0 l0_1 l0_2 a0_3 l0_4 l0_5 = some r) ∧ Aside0 (kq ≤ k) ∧ Aside0 (w'.heap[gb10]? = some (.cells #[.int .i64 a0_0, (.slice A0_1 l0_1.length c0_1), (.slice A0_2 l0_2.length c0_2), .int .i64 a0_3, (.slice A0_4 l0_4.length c0_4), (.slice A0_5 l0_5.length c0_5)] 35 (0, 0))) ∧ Aside0 (Below w.heap.size w w'))
 case atStart => exact ⟨(0), ψ0, H', ⟨Nat.le_refl _⟩, ⟨ψ23⟩, ⟨ψ52⟩⟩
 case round =>
  clear H'
  try clear c1
  try clear p2
  obtain ⟨x7_1, rfl, HA, HK1, BK10, HB⟩ := hrel
  cases gk with
  | zero => exact absurd HA.out (by simp [spec_l3Inputs.l0])
  | succ k1 =>
   have H := HA.out
   clear HA
   simp only [spec_l3Inputs.l0] at H
   replace H := ifD H; rcases H with ⟨c5b0, H⟩ | ⟨c5b0, H⟩
   ·have HC6 := Aside0.mk H
    clear H
    go_upto_region 4 with (fail)
    go_cut [43] (fun v43 wc => ∃ (kq : Nat) (x43_5 : Bool), v43 = .bool x43_5 ∧ Aside0 (spec_l3Inputs.j1 kq l1 a2 x7_1 x43_5 a0_0 l0_1 l0_2 a0_3 l0_4 l0_5 = some r) ∧ Aside0 (kq ≤ k1) ∧ Aside0 (wc.heap[gb10]? = some (.cells #[.int .i64 a0_0, (.slice A0_1 l0_1.length c0_1), (.slice A0_2 l0_2.length c0_2), .int .i64 a0_3, (.slice A0_4 l0_4.length c0_4), (.slice A0_5 l0_5.length c0_5)] 35 (0, 0))) ∧ Aside0 (Below w.heap.size w wc))
    case first =>
     have H := HC6.out
     clear HC6
     replace H := ifN H; obtain ⟨c7b0, H⟩ := H
     (first | rw [c7b0] | (simp only [i64_w, i32_w]; rw [c7b0]) | skip)
     replace H := Option.bind_eq_some_iff.mp H
     obtain ⟨t268, A80, H⟩ := H
     have A8 := Aside0.mk A80
     clear A80
     replace H := Option.bind_eq_some_iff.mp H
     obtain ⟨t269, A90, H⟩ := H
     have A9 := Aside0.mk A90
     clear A90
     replace H := ifB H; rcases H with ⟨rfl, H⟩ | ⟨rfl, H⟩
     ·replace H := Option.bind_eq_some_iff.mp H
      obtain ⟨t271, A110, H⟩ := H
      have A11 := Aside0.mk A110
      clear A110
      replace H := ifB H; rcases H with ⟨rfl, H⟩ | ⟨rfl, H⟩
      ·replace H := ifB H; rcases H with ⟨rfl, H⟩ | ⟨rfl, H⟩
       ·have H' := Aside0.mk H
        clear H
        try go_wp2
        have q := n2_ (blk_drew BK10.out) (below_drew1 HB.out)
        clear BK10 HB
        obtain ⟨BK10, HB⟩ := q
        have p266 : 0 ≤ (x7_1 : Int) := of_decide_eq_true ψ2
        have q266 : x7_1 < (l1.length : Int) := of_decide_eq_true ψ2
        obtain ⟨ad266, e266, hx266_0, hx266_1⟩ := at_T77 HR1.out x7_1 p266 q266
        have hw266_1 := hx266_1
        have hw266_0 := hx266_0
        cases e266
        replace hx266_0 := (HB.out.cell (World.block_lt_of_cell? w _ hx266_0)).trans hx266_0
        replace hx266_1 := (HB.out.cell (World.block_lt_of_cell? w _ hx266_1)).trans hx266_1
        replace p266 := eq_true p266
        replace q266 := eq_true q266
        have p270 : 0 ≤ (x7_1 : Int) := of_decide_eq_true ψ2
        have q270 : x7_1 < (l1.length : Int) := of_decide_eq_true ψ2
        obtain ⟨ad270, e270, hx270_0, hx270_1⟩ := at_T77 HR1.out x7_1 p270 q270
        have hw270_1 := hx270_1
        have hw270_0 := hx270_0
        obtain rfl : ad266 = ad270 := (by injection e270)
        replace hx270_0 := (HB.out.cell (World.block_lt_of_cell? w _ hx270_0)).trans hx270_0
        replace hx270_1 := (HB.out.cell (World.block_lt_of_cell? w _ hx270_1)).trans hx270_1
        replace p270 := eq_true p270
        replace q270 := eq_true q270
        have p272 : 0 ≤ (x7_1 : Int) := of_decide_eq_true ψ2
        have q272 : x7_1 < (l1.length : Int) := of_decide_eq_true ψ2
        obtain ⟨ad272, e272, hx272_0, hx272_1⟩ := at_T77 HR1.out x7_1 p272 q272
        have hw272_1 := hx272_1
        have hw272_0 := hx272_0
        obtain rfl : ad266 = ad272 := (by injection e272)
        replace hx272_0 := (HB.out.cell (World.block_lt_of_cell? w _ hx272_0)).trans hx272_0
        replace hx272_1 := (HB.out.cell (World.block_lt_of_cell? w _ hx272_1)).trans hx272_1
        replace p272 := eq_true p272
        replace q272 := eq_true q272
        refine start_ (n := 30) (S := fun w' => w'.cell? ⟨gb10, 0, none⟩ = some (.int .i64 a0_0) ∧ w'.cell? ⟨gb10, 1, none⟩ = some (.slice A0_1 l0_1.length c0_1) ∧ w'.cell? ⟨gb10, 2, none⟩ = some (.slice A0_2 l0_2.length c0_2) ∧ w'.cell? ⟨gb10, 3, none⟩ = some (.int .i64 a0_3) ∧ w'.cell? ⟨gb10, 4, none⟩ = some (.slice A0_4 l0_4.length c0_4) ∧ w'.cell? ⟨gb10, 5, none⟩ = some (.slice A0_5 l0_5.length c0_5) ∧ w'.cell? (ad266.add ((x7_1).toNat * 2)) = some (.int .i64 ((rd_T77 l1 x7_1).f0)) ∧ w'.cell? ⟨(ad266.add ((x7_1).toNat * 2)).block, (ad266.add ((x7_1).toNat * 2)).off + 1, none⟩ = some (.int .i64 ((rd_T77 l1 x7_1).f1)) ∧ w'.cell? (ad266.add ((x7_1).toNat * 2)) = some (.int .i64 ((rd_T77 l1 x7_1).f0)) ∧ w'.cell? ⟨(ad266.add ((x7_1).toNat * 2)).block, (ad266.add ((x7_1).toNat * 2)).off + 1, none⟩ = some (.int .i64 ((rd_T77 l1 x7_1).f1)) ∧ w'.cell? (ad266.add ((x7_1).toNat * 2)) = some (.int .i64 ((rd_T77 l1 x7_1).f0)) ∧ w'.cell? ⟨(ad266.add ((x7_1).toNat * 2)).block, (ad266.add ((x7_1).toNat * 2)).off + 1, none⟩ = some (.int .i64 ((rd_T77 l1 x7_1).f1))) (ds := []) #[false, false, false, false, false, false, false, false, false, false, false, false, false, false, false, false, false, false, false, false, false, false, false, false, false, false, false, false, false, false] ψ14 rfl rfl ⟨(blk_cell BK10.out 0).trans rfl, (blk_cell BK10.out 1).trans rfl, (blk_cell BK10.out 2).trans rfl, (blk_cell BK10.out 3).trans rfl, (blk_cell BK10.out 4).trans rfl, (blk_cell BK10.out 5).trans rfl, ((HB.out.cell (World.block_lt_of_cell? w _ hw266_0)).trans hw266_0), ((HB.out.cell (World.block_lt_of_cell? w _ hw266_1)).trans hw266_1), ((HB.out.cell (World.block_lt_of_cell? w _ hw270_0)).trans hw270_0), ((HB.out.cell (World.block_lt_of_cell? w _ hw270_1)).trans hw270_1), ((HB.out.cell (World.block_lt_of_cell? w _ hw272_0)).trans hw272_0), ((HB.out.cell (World.block_lt_of_cell? w _ hw272_1)).trans hw272_1)⟩ (fun hHeld => ?_); refine with_tabW spec_l3Inputs.tab4 spec_l3Inputs.bits4 (fun HT_ HW_ => ?_)
        generalize wr.drew = w14 at BK10 HB hx266_0 hx266_1 hx270_0 hx270_1 hx272_0 hx272_1 hHeld ⊢
        refine rP 0 14 ?_; refine rP 1 15 ?_; refine rP 2 16 ?_; refine rP 3 17 ?_; refine rT 4 18 ?_; refine rT 5 19 ?_
        refine one_ (i := 6) (N := some 20) #[true, true, true, true, true, true, true, false, false, false, false, false, false, false, false, false, false, false, false, false, false, false, false, false, false, false, false, false, false, false] rfl rfl (one_of HT_.out ψ14) ψ15 (fun K hK => ?_)
        refine goes_ Try.func83 ψ14 rfl #[.agg #[.int .i64 a0_0, .slice A0_1 l0_1.length c0_1, .slice A0_2 l0_2.length c0_2, .int .i64 a0_3, .slice A0_4 l0_4.length c0_4, .slice A0_5 l0_5.length c0_5]] ψ16 rfl rfl ψ17 ?_
        with_reducible refine (spec_l3Size.calls k1 a0_0 _ _ l0_1 _ _ l0_2 a0_3 _ _ l0_4 _ _ l0_5 _ _ ?_ ?_ ?_ ?_ ?_ ?_ ?_ ?_ A8.out).mono ?_
        exact ψ54; exact HC0_1.out; exact ψ55; exact HC0_2.out; exact ψ56; exact HC0_4.out; exact ψ57; exact HC0_5.out
        rintro e w15 ⟨rfl, hb⟩
        refine ⟨_, rfl, ?_⟩
        have q := n2_ (blk_below (g := gb10) ψ23 hb) (below_step ψ52 hb)
        clear BK10 HB
        obtain ⟨BK10, HB⟩ := q
        (try clear hb)
        refine hK.out _ _ ⟨(blk_cell BK10.out 0).trans rfl, (blk_cell BK10.out 1).trans rfl, (blk_cell BK10.out 2).trans rfl, (blk_cell BK10.out 3).trans rfl, (blk_cell BK10.out 4).trans rfl, (blk_cell BK10.out 5).trans rfl, ((HB.out.cell (World.block_lt_of_cell? w _ hw266_0)).trans hw266_0), ((HB.out.cell (World.block_lt_of_cell? w _ hw266_1)).trans hw266_1), ((HB.out.cell (World.block_lt_of_cell? w _ hw270_0)).trans hw270_0), ((HB.out.cell (World.block_lt_of_cell? w _ hw270_1)).trans hw270_1), ((HB.out.cell (World.block_lt_of_cell? w _ hw272_0)).trans hw272_0), ((HB.out.cell (World.block_lt_of_cell? w _ hw272_1)).trans hw272_1)⟩ (fun hHeld => ?_)
        clear hK K
        refine rN 20 ?_; refine rP 7 21 ?_
        refine one_ (i := 8) (N := some 22) #[true, true, true, true, true, true, true, true, true, false, false, false, false, false, false, false, false, false, false, false, false, false, false, false, false, false, false, false, false, false] rfl rfl (one_of HT_.out ψ14) ψ15 (fun K hK => ?_)
        refine goes_ Try.func43 ψ14 rfl #[.int .i64 ((rd_T77 l1 x7_1).f0), .int .i64 0, .int .i64 (wrap64 (t268 - 1))] ψ16 rfl rfl ψ17 ?_
        with_reducible refine (spec_l1In.calls ((rd_T77 l1 x7_1).f0) 0 (wrap64 (t268 - 1)) _ _ A9.out).mono ?_
        rintro e w' ⟨rfl, ⟨nd, rfl⟩⟩
        refine ⟨_, rfl, ?_⟩
        refine hK.out _ _ ⟨(blk_cell BK10.out 0).trans rfl, (blk_cell BK10.out 1).trans rfl, (blk_cell BK10.out 2).trans rfl, (blk_cell BK10.out 3).trans rfl, (blk_cell BK10.out 4).trans rfl, (blk_cell BK10.out 5).trans rfl, ((HB.out.cell (World.block_lt_of_cell? w _ hw266_0)).trans hw266_0), ((HB.out.cell (World.block_lt_of_cell? w _ hw266_1)).trans hw266_1), ((HB.out.cell (World.block_lt_of_cell? w _ hw270_0)).trans hw270_0), ((HB.out.cell (World.block_lt_of_cell? w _ hw270_1)).trans hw270_1), ((HB.out.cell (World.block_lt_of_cell? w _ hw272_0)).trans hw272_0), ((HB.out.cell (World.block_lt_of_cell? w _ hw272_1)).trans hw272_1)⟩ (fun hHeld => ?_)
        clear hK K
        refine rN 22 ?_; refine rP 9 23 ?_; refine rP 10 24 ?_; refine rP 11 25 ?_; refine rP 12 26 ?_; refine rP 13 27 ?_; refine rP 14 28 ?_; refine rT 15 29 ?_
        refine one_ (i := 16) (N := some 30) #[true, true, true, true, true, true, true, true, true, true, true, true, true, true, true, true, true, false, false, false, false, false, false, false, false, false, false, false, false, false] rfl rfl (one_of HT_.out ψ14) ψ15 (fun K hK => ?_)
        refine goes_ Try.func43 ψ14 rfl #[.int .i64 ((rd_T77 l1 x7_1).f1), .int .i64 0, .int .i64 99] ψ16 rfl rfl ψ17 ?_
        with_reducible refine (spec_l1In.calls ((rd_T77 l1 x7_1).f1) 0 99 _ _ A11.out).mono ?_
        rintro e w' ⟨rfl, ⟨nd, rfl⟩⟩
        refine ⟨_, rfl, ?_⟩
        refine hK.out _ _ ⟨(blk_cell BK10.out 0).trans rfl, (blk_cell BK10.out 1).trans rfl, (blk_cell BK10.out 2).trans rfl, (blk_cell BK10.out 3).trans rfl, (blk_cell BK10.out 4).trans rfl, (blk_cell BK10.out 5).trans rfl, ((HB.out.cell (World.block_lt_of_cell? w _ hw266_0)).trans hw266_0), ((HB.out.cell (World.block_lt_of_cell? w _ hw266_1)).trans hw266_1), ((HB.out.cell (World.block_lt_of_cell? w _ hw270_0)).trans hw270_0), ((HB.out.cell (World.block_lt_of_cell? w _ hw270_1)).trans hw270_1), ((HB.out.cell (World.block_lt_of_cell? w _ hw272_0)).trans hw272_0), ((HB.out.cell (World.block_lt_of_cell? w _ hw272_1)).trans hw272_1)⟩ (fun hHeld => ?_)
        clear hK K
        refine rN 30 ?_; refine rP 17 31 ?_; refine rP 18 32 ?_; refine rP 19 33 ?_; refine rP 20 34 ?_; refine rP 21 35 ?_; refine rP 22 36 ?_; refine rP 23 37 ?_; refine rP 24 38 ?_; refine rP 25 39 ?_; refine rT 26 40 ?_; refine rP 27 41 ?_; refine rP 28 42 ?_; refine rP 29 43 ?_
        refine done_ (done_of HT_.out ψ14) ?_
        try go_wp2
        go_meet
        case rel => exact ⟨_, ((((rd_T77 l1 x7_1).f1) != 0)), ψ0, H', ⟨ψ3⟩, ⟨ψ23⟩, ⟨ψ52⟩⟩
       ·have H' := Aside0.mk H
        clear H
        try go_wp2
        have q := n2_ (blk_drew BK10.out) (below_drew1 HB.out)
        clear BK10 HB
        obtain ⟨BK10, HB⟩ := q
        have p266 : 0 ≤ (x7_1 : Int) := of_decide_eq_true ψ2
        have q266 : x7_1 < (l1.length : Int) := of_decide_eq_true ψ2
        obtain ⟨ad266, e266, hx266_0, hx266_1⟩ := at_T77 HR1.out x7_1 p266 q266
        have hw266_1 := hx266_1
        have hw266_0 := hx266_0
        cases e266
        replace hx266_0 := (HB.out.cell (World.block_lt_of_cell? w _ hx266_0)).trans hx266_0
        replace hx266_1 := (HB.out.cell (World.block_lt_of_cell? w _ hx266_1)).trans hx266_1
        replace p266 := eq_true p266
        replace q266 := eq_true q266
        have p270 : 0 ≤ (x7_1 : Int) := of_decide_eq_true ψ2
        have q270 : x7_1 < (l1.length : Int) := of_decide_eq_true ψ2
        obtain ⟨ad270, e270, hx270_0, hx270_1⟩ := at_T77 HR1.out x7_1 p270 q270
        have hw270_1 := hx270_1
        have hw270_0 := hx270_0
        obtain rfl : ad266 = ad270 := (by injection e270)
        replace hx270_0 := (HB.out.cell (World.block_lt_of_cell? w _ hx270_0)).trans hx270_0
        replace hx270_1 := (HB.out.cell (World.block_lt_of_cell? w _ hx270_1)).trans hx270_1
        replace p270 := eq_true p270
        replace q270 := eq_true q270
        refine start_ (n := 30) (S := fun w' => w'.cell? ⟨gb10, 0, none⟩ = some (.int .i64 a0_0) ∧ w'.cell? ⟨gb10, 1, none⟩ = some (.slice A0_1 l0_1.length c0_1) ∧ w'.cell? ⟨gb10, 2, none⟩ = some (.slice A0_2 l0_2.length c0_2) ∧ w'.cell? ⟨gb10, 3, none⟩ = some (.int .i64 a0_3) ∧ w'.cell? ⟨gb10, 4, none⟩ = some (.slice A0_4 l0_4.length c0_4) ∧ w'.cell? ⟨gb10, 5, none⟩ = some (.slice A0_5 l0_5.length c0_5) ∧ w'.cell? (ad266.add ((x7_1).toNat * 2)) = some (.int .i64 ((rd_T77 l1 x7_1).f0)) ∧ w'.cell? ⟨(ad266.add ((x7_1).toNat * 2)).block, (ad266.add ((x7_1).toNat * 2)).off + 1, none⟩ = some (.int .i64 ((rd_T77 l1 x7_1).f1)) ∧ w'.cell? (ad266.add ((x7_1).toNat * 2)) = some (.int .i64 ((rd_T77 l1 x7_1).f0)) ∧ w'.cell? ⟨(ad266.add ((x7_1).toNat * 2)).block, (ad266.add ((x7_1).toNat * 2)).off + 1, none⟩ = some (.int .i64 ((rd_T77 l1 x7_1).f1))) (ds := []) #[false, false, false, false, false, false, false, false, false, false, false, false, false, false, false, false, false, false, false, false, false, false, false, false, false, false, false, false, false, false] ψ14 rfl rfl ⟨(blk_cell BK10.out 0).trans rfl, (blk_cell BK10.out 1).trans rfl, (blk_cell BK10.out 2).trans rfl, (blk_cell BK10.out 3).trans rfl, (blk_cell BK10.out 4).trans rfl, (blk_cell BK10.out 5).trans rfl, ((HB.out.cell (World.block_lt_of_cell? w _ hw266_0)).trans hw266_0), ((HB.out.cell (World.block_lt_of_cell? w _ hw266_1)).trans hw266_1), ((HB.out.cell (World.block_lt_of_cell? w _ hw270_0)).trans hw270_0), ((HB.out.cell (World.block_lt_of_cell? w _ hw270_1)).trans hw270_1)⟩ (fun hHeld => ?_); refine with_tabW spec_l3Inputs.tab4 spec_l3Inputs.bits4 (fun HT_ HW_ => ?_)
        generalize wr.drew = w16 at BK10 HB hx266_0 hx266_1 hx270_0 hx270_1 hHeld ⊢
        refine rP 0 14 ?_; refine rP 1 15 ?_; refine rP 2 16 ?_; refine rP 3 17 ?_; refine rT 4 18 ?_; refine rT 5 19 ?_
        refine one_ (i := 6) (N := some 20) #[true, true, true, true, true, true, true, false, false, false, false, false, false, false, false, false, false, false, false, false, false, false, false, false, false, false, false, false, false, false] rfl rfl (one_of HT_.out ψ14) ψ15 (fun K hK => ?_)
        refine goes_ Try.func83 ψ14 rfl #[.agg #[.int .i64 a0_0, .slice A0_1 l0_1.length c0_1, .slice A0_2 l0_2.length c0_2, .int .i64 a0_3, .slice A0_4 l0_4.length c0_4, .slice A0_5 l0_5.length c0_5]] ψ16 rfl rfl ψ17 ?_
        with_reducible refine (spec_l3Size.calls k1 a0_0 _ _ l0_1 _ _ l0_2 a0_3 _ _ l0_4 _ _ l0_5 _ _ ?_ ?_ ?_ ?_ ?_ ?_ ?_ ?_ A8.out).mono ?_
        exact ψ54; exact HC0_1.out; exact ψ55; exact HC0_2.out; exact ψ56; exact HC0_4.out; exact ψ57; exact HC0_5.out
        rintro e w17 ⟨rfl, hb⟩
        refine ⟨_, rfl, ?_⟩
        have q := n2_ (blk_below (g := gb10) ψ23 hb) (below_step ψ52 hb)
        clear BK10 HB
        obtain ⟨BK10, HB⟩ := q
        (try clear hb)
        refine hK.out _ _ ⟨(blk_cell BK10.out 0).trans rfl, (blk_cell BK10.out 1).trans rfl, (blk_cell BK10.out 2).trans rfl, (blk_cell BK10.out 3).trans rfl, (blk_cell BK10.out 4).trans rfl, (blk_cell BK10.out 5).trans rfl, ((HB.out.cell (World.block_lt_of_cell? w _ hw266_0)).trans hw266_0), ((HB.out.cell (World.block_lt_of_cell? w _ hw266_1)).trans hw266_1), ((HB.out.cell (World.block_lt_of_cell? w _ hw270_0)).trans hw270_0), ((HB.out.cell (World.block_lt_of_cell? w _ hw270_1)).trans hw270_1)⟩ (fun hHeld => ?_)
        clear hK K
        refine rN 20 ?_; refine rP 7 21 ?_
        refine one_ (i := 8) (N := some 22) #[true, true, true, true, true, true, true, true, true, false, false, false, false, false, false, false, false, false, false, false, false, false, false, false, false, false, false, false, false, false] rfl rfl (one_of HT_.out ψ14) ψ15 (fun K hK => ?_)
        refine goes_ Try.func43 ψ14 rfl #[.int .i64 ((rd_T77 l1 x7_1).f0), .int .i64 0, .int .i64 (wrap64 (t268 - 1))] ψ16 rfl rfl ψ17 ?_
        with_reducible refine (spec_l1In.calls ((rd_T77 l1 x7_1).f0) 0 (wrap64 (t268 - 1)) _ _ A9.out).mono ?_
        rintro e w' ⟨rfl, ⟨nd, rfl⟩⟩
        refine ⟨_, rfl, ?_⟩
        refine hK.out _ _ ⟨(blk_cell BK10.out 0).trans rfl, (blk_cell BK10.out 1).trans rfl, (blk_cell BK10.out 2).trans rfl, (blk_cell BK10.out 3).trans rfl, (blk_cell BK10.out 4).trans rfl, (blk_cell BK10.out 5).trans rfl, ((HB.out.cell (World.block_lt_of_cell? w _ hw266_0)).trans hw266_0), ((HB.out.cell (World.block_lt_of_cell? w _ hw266_1)).trans hw266_1), ((HB.out.cell (World.block_lt_of_cell? w _ hw270_0)).trans hw270_0), ((HB.out.cell (World.block_lt_of_cell? w _ hw270_1)).trans hw270_1)⟩ (fun hHeld => ?_)
        clear hK K
        refine rN 22 ?_; refine rP 9 23 ?_; refine rP 10 24 ?_; refine rP 11 25 ?_; refine rP 12 26 ?_; refine rP 13 27 ?_; refine rP 14 28 ?_; refine rT 15 29 ?_
        refine one_ (i := 16) (N := some 30) #[true, true, true, true, true, true, true, true, true, true, true, true, true, true, true, true, true, false, false, false, false, false, false, false, false, false, false, false, false, false] rfl rfl (one_of HT_.out ψ14) ψ15 (fun K hK => ?_)
        refine goes_ Try.func43 ψ14 rfl #[.int .i64 ((rd_T77 l1 x7_1).f1), .int .i64 0, .int .i64 99] ψ16 rfl rfl ψ17 ?_
        with_reducible refine (spec_l1In.calls ((rd_T77 l1 x7_1).f1) 0 99 _ _ A11.out).mono ?_
        rintro e w' ⟨rfl, ⟨nd, rfl⟩⟩
        refine ⟨_, rfl, ?_⟩
        refine hK.out _ _ ⟨(blk_cell BK10.out 0).trans rfl, (blk_cell BK10.out 1).trans rfl, (blk_cell BK10.out 2).trans rfl, (blk_cell BK10.out 3).trans rfl, (blk_cell BK10.out 4).trans rfl, (blk_cell BK10.out 5).trans rfl, ((HB.out.cell (World.block_lt_of_cell? w _ hw266_0)).trans hw266_0), ((HB.out.cell (World.block_lt_of_cell? w _ hw266_1)).trans hw266_1), ((HB.out.cell (World.block_lt_of_cell? w _ hw270_0)).trans hw270_0), ((HB.out.cell (World.block_lt_of_cell? w _ hw270_1)).trans hw270_1)⟩ (fun hHeld => ?_)
        clear hK K
        refine rN 30 ?_; refine rP 17 31 ?_; refine rP 18 32 ?_; refine rP 19 33 ?_; refine rP 20 34 ?_; refine rP 21 35 ?_; refine rU 22 36 ?_; refine rU 23 37 ?_; refine rU 24 38 ?_; refine rU 25 39 ?_; refine rU 26 40 ?_; refine rU 27 41 ?_; refine rP 28 42 ?_; refine rP 29 43 ?_
        refine done_ (done_of HT_.out ψ14) ?_
        try go_wp2
        go_meet
        case rel => exact ⟨_, (false), ψ0, H', ⟨ψ3⟩, ⟨ψ23⟩, ⟨ψ52⟩⟩
      ·have H' := Aside0.mk H
       clear H
       try go_wp2
       have q := n2_ (blk_drew BK10.out) (below_drew1 HB.out)
       clear BK10 HB
       obtain ⟨BK10, HB⟩ := q
       have p266 : 0 ≤ (x7_1 : Int) := of_decide_eq_true ψ2
       have q266 : x7_1 < (l1.length : Int) := of_decide_eq_true ψ2
       obtain ⟨ad266, e266, hx266_0, hx266_1⟩ := at_T77 HR1.out x7_1 p266 q266
       have hw266_1 := hx266_1
       have hw266_0 := hx266_0
       cases e266
       replace hx266_0 := (HB.out.cell (World.block_lt_of_cell? w _ hx266_0)).trans hx266_0
       replace hx266_1 := (HB.out.cell (World.block_lt_of_cell? w _ hx266_1)).trans hx266_1
       replace p266 := eq_true p266
       replace q266 := eq_true q266
       have p270 : 0 ≤ (x7_1 : Int) := of_decide_eq_true ψ2
       have q270 : x7_1 < (l1.length : Int) := of_decide_eq_true ψ2
       obtain ⟨ad270, e270, hx270_0, hx270_1⟩ := at_T77 HR1.out x7_1 p270 q270
       have hw270_1 := hx270_1
       have hw270_0 := hx270_0
       obtain rfl : ad266 = ad270 := (by injection e270)
       replace hx270_0 := (HB.out.cell (World.block_lt_of_cell? w _ hx270_0)).trans hx270_0
       replace hx270_1 := (HB.out.cell (World.block_lt_of_cell? w _ hx270_1)).trans hx270_1
       replace p270 := eq_true p270
       replace q270 := eq_true q270
       refine start_ (n := 30) (S := fun w' => w'.cell? ⟨gb10, 0, none⟩ = some (.int .i64 a0_0) ∧ w'.cell? ⟨gb10, 1, none⟩ = some (.slice A0_1 l0_1.length c0_1) ∧ w'.cell? ⟨gb10, 2, none⟩ = some (.slice A0_2 l0_2.length c0_2) ∧ w'.cell? ⟨gb10, 3, none⟩ = some (.int .i64 a0_3) ∧ w'.cell? ⟨gb10, 4, none⟩ = some (.slice A0_4 l0_4.length c0_4) ∧ w'.cell? ⟨gb10, 5, none⟩ = some (.slice A0_5 l0_5.length c0_5) ∧ w'.cell? (ad266.add ((x7_1).toNat * 2)) = some (.int .i64 ((rd_T77 l1 x7_1).f0)) ∧ w'.cell? ⟨(ad266.add ((x7_1).toNat * 2)).block, (ad266.add ((x7_1).toNat * 2)).off + 1, none⟩ = some (.int .i64 ((rd_T77 l1 x7_1).f1)) ∧ w'.cell? (ad266.add ((x7_1).toNat * 2)) = some (.int .i64 ((rd_T77 l1 x7_1).f0)) ∧ w'.cell? ⟨(ad266.add ((x7_1).toNat * 2)).block, (ad266.add ((x7_1).toNat * 2)).off + 1, none⟩ = some (.int .i64 ((rd_T77 l1 x7_1).f1))) (ds := []) #[false, false, false, false, false, false, false, false, false, false, false, false, false, false, false, false, false, false, false, false, false, false, false, false, false, false, false, false, false, false] ψ14 rfl rfl ⟨(blk_cell BK10.out 0).trans rfl, (blk_cell BK10.out 1).trans rfl, (blk_cell BK10.out 2).trans rfl, (blk_cell BK10.out 3).trans rfl, (blk_cell BK10.out 4).trans rfl, (blk_cell BK10.out 5).trans rfl, ((HB.out.cell (World.block_lt_of_cell? w _ hw266_0)).trans hw266_0), ((HB.out.cell (World.block_lt_of_cell? w _ hw266_1)).trans hw266_1), ((HB.out.cell (World.block_lt_of_cell? w _ hw270_0)).trans hw270_0), ((HB.out.cell (World.block_lt_of_cell? w _ hw270_1)).trans hw270_1)⟩ (fun hHeld => ?_); refine with_tabW spec_l3Inputs.tab4 spec_l3Inputs.bits4 (fun HT_ HW_ => ?_)
       generalize wr.drew = w18 at BK10 HB hx266_0 hx266_1 hx270_0 hx270_1 hHeld ⊢
       refine rP 0 14 ?_; refine rP 1 15 ?_; refine rP 2 16 ?_; refine rP 3 17 ?_; refine rT 4 18 ?_; refine rT 5 19 ?_
       refine one_ (i := 6) (N := some 20) #[true, true, true, true, true, true, true, false, false, false, false, false, false, false, false, false, false, false, false, false, false, false, false, false, false, false, false, false, false, false] rfl rfl (one_of HT_.out ψ14) ψ15 (fun K hK => ?_)
       refine goes_ Try.func83 ψ14 rfl #[.agg #[.int .i64 a0_0, .slice A0_1 l0_1.length c0_1, .slice A0_2 l0_2.length c0_2, .int .i64 a0_3, .slice A0_4 l0_4.length c0_4, .slice A0_5 l0_5.length c0_5]] ψ16 rfl rfl ψ17 ?_
       with_reducible refine (spec_l3Size.calls k1 a0_0 _ _ l0_1 _ _ l0_2 a0_3 _ _ l0_4 _ _ l0_5 _ _ ?_ ?_ ?_ ?_ ?_ ?_ ?_ ?_ A8.out).mono ?_
       exact ψ54; exact HC0_1.out; exact ψ55; exact HC0_2.out; exact ψ56; exact HC0_4.out; exact ψ57; exact HC0_5.out
       rintro e w19 ⟨rfl, hb⟩
       refine ⟨_, rfl, ?_⟩
       have q := n2_ (blk_below (g := gb10) ψ23 hb) (below_step ψ52 hb)
       clear BK10 HB
       obtain ⟨BK10, HB⟩ := q
       (try clear hb)
       refine hK.out _ _ ⟨(blk_cell BK10.out 0).trans rfl, (blk_cell BK10.out 1).trans rfl, (blk_cell BK10.out 2).trans rfl, (blk_cell BK10.out 3).trans rfl, (blk_cell BK10.out 4).trans rfl, (blk_cell BK10.out 5).trans rfl, ((HB.out.cell (World.block_lt_of_cell? w _ hw266_0)).trans hw266_0), ((HB.out.cell (World.block_lt_of_cell? w _ hw266_1)).trans hw266_1), ((HB.out.cell (World.block_lt_of_cell? w _ hw270_0)).trans hw270_0), ((HB.out.cell (World.block_lt_of_cell? w _ hw270_1)).trans hw270_1)⟩ (fun hHeld => ?_)
       clear hK K
       refine rN 20 ?_; refine rP 7 21 ?_
       refine one_ (i := 8) (N := some 22) #[true, true, true, true, true, true, true, true, true, false, false, false, false, false, false, false, false, false, false, false, false, false, false, false, false, false, false, false, false, false] rfl rfl (one_of HT_.out ψ14) ψ15 (fun K hK => ?_)
       refine goes_ Try.func43 ψ14 rfl #[.int .i64 ((rd_T77 l1 x7_1).f0), .int .i64 0, .int .i64 (wrap64 (t268 - 1))] ψ16 rfl rfl ψ17 ?_
       with_reducible refine (spec_l1In.calls ((rd_T77 l1 x7_1).f0) 0 (wrap64 (t268 - 1)) _ _ A9.out).mono ?_
       rintro e w' ⟨rfl, ⟨nd, rfl⟩⟩
       refine ⟨_, rfl, ?_⟩
       refine hK.out _ _ ⟨(blk_cell BK10.out 0).trans rfl, (blk_cell BK10.out 1).trans rfl, (blk_cell BK10.out 2).trans rfl, (blk_cell BK10.out 3).trans rfl, (blk_cell BK10.out 4).trans rfl, (blk_cell BK10.out 5).trans rfl, ((HB.out.cell (World.block_lt_of_cell? w _ hw266_0)).trans hw266_0), ((HB.out.cell (World.block_lt_of_cell? w _ hw266_1)).trans hw266_1), ((HB.out.cell (World.block_lt_of_cell? w _ hw270_0)).trans hw270_0), ((HB.out.cell (World.block_lt_of_cell? w _ hw270_1)).trans hw270_1)⟩ (fun hHeld => ?_)
       clear hK K
       refine rN 22 ?_; refine rP 9 23 ?_; refine rP 10 24 ?_; refine rP 11 25 ?_; refine rP 12 26 ?_; refine rP 13 27 ?_; refine rP 14 28 ?_; refine rT 15 29 ?_
       refine one_ (i := 16) (N := some 30) #[true, true, true, true, true, true, true, true, true, true, true, true, true, true, true, true, true, false, false, false, false, false, false, false, false, false, false, false, false, false] rfl rfl (one_of HT_.out ψ14) ψ15 (fun K hK => ?_)
       refine goes_ Try.func43 ψ14 rfl #[.int .i64 ((rd_T77 l1 x7_1).f1), .int .i64 0, .int .i64 99] ψ16 rfl rfl ψ17 ?_
       with_reducible refine (spec_l1In.calls ((rd_T77 l1 x7_1).f1) 0 99 _ _ A11.out).mono ?_
       rintro e w' ⟨rfl, ⟨nd, rfl⟩⟩
       refine ⟨_, rfl, ?_⟩
       refine hK.out _ _ ⟨(blk_cell BK10.out 0).trans rfl, (blk_cell BK10.out 1).trans rfl, (blk_cell BK10.out 2).trans rfl, (blk_cell BK10.out 3).trans rfl, (blk_cell BK10.out 4).trans rfl, (blk_cell BK10.out 5).trans rfl, ((HB.out.cell (World.block_lt_of_cell? w _ hw266_0)).trans hw266_0), ((HB.out.cell (World.block_lt_of_cell? w _ hw266_1)).trans hw266_1), ((HB.out.cell (World.block_lt_of_cell? w _ hw270_0)).trans hw270_0), ((HB.out.cell (World.block_lt_of_cell? w _ hw270_1)).trans hw270_1)⟩ (fun hHeld => ?_)
       clear hK K
       refine rN 30 ?_; refine rP 17 31 ?_; refine rP 18 32 ?_; refine rP 19 33 ?_; refine rU 20 34 ?_; refine rU 21 35 ?_; refine rU 22 36 ?_; refine rU 23 37 ?_; refine rU 24 38 ?_; refine rU 25 39 ?_; refine rU 26 40 ?_; refine rU 27 41 ?_; refine rU 28 42 ?_; refine rP 29 43 ?_
       refine done_ (done_of HT_.out ψ14) ?_
       try go_wp2
       go_meet
       case rel => exact ⟨_, (true), ψ0, H', ⟨ψ3⟩, ⟨ψ23⟩, ⟨ψ52⟩⟩
     ·have H' := Aside0.mk H
      clear H
      try go_wp2
      have q := n2_ (blk_drew BK10.out) (below_drew1 HB.out)
      clear BK10 HB
      obtain ⟨BK10, HB⟩ := q
      have p266 : 0 ≤ (x7_1 : Int) := of_decide_eq_true ψ2
      have q266 : x7_1 < (l1.length : Int) := of_decide_eq_true ψ2
      obtain ⟨ad266, e266, hx266_0, hx266_1⟩ := at_T77 HR1.out x7_1 p266 q266
      have hw266_1 := hx266_1
      have hw266_0 := hx266_0
      cases e266
      replace hx266_0 := (HB.out.cell (World.block_lt_of_cell? w _ hx266_0)).trans hx266_0
      replace hx266_1 := (HB.out.cell (World.block_lt_of_cell? w _ hx266_1)).trans hx266_1
      replace p266 := eq_true p266
      replace q266 := eq_true q266
      refine start_ (n := 30) (S := fun w' => w'.cell? ⟨gb10, 0, none⟩ = some (.int .i64 a0_0) ∧ w'.cell? ⟨gb10, 1, none⟩ = some (.slice A0_1 l0_1.length c0_1) ∧ w'.cell? ⟨gb10, 2, none⟩ = some (.slice A0_2 l0_2.length c0_2) ∧ w'.cell? ⟨gb10, 3, none⟩ = some (.int .i64 a0_3) ∧ w'.cell? ⟨gb10, 4, none⟩ = some (.slice A0_4 l0_4.length c0_4) ∧ w'.cell? ⟨gb10, 5, none⟩ = some (.slice A0_5 l0_5.length c0_5) ∧ w'.cell? (ad266.add ((x7_1).toNat * 2)) = some (.int .i64 ((rd_T77 l1 x7_1).f0)) ∧ w'.cell? ⟨(ad266.add ((x7_1).toNat * 2)).block, (ad266.add ((x7_1).toNat * 2)).off + 1, none⟩ = some (.int .i64 ((rd_T77 l1 x7_1).f1))) (ds := []) #[false, false, false, false, false, false, false, false, false, false, false, false, false, false, false, false, false, false, false, false, false, false, false, false, false, false, false, false, false, false] ψ14 rfl rfl ⟨(blk_cell BK10.out 0).trans rfl, (blk_cell BK10.out 1).trans rfl, (blk_cell BK10.out 2).trans rfl, (blk_cell BK10.out 3).trans rfl, (blk_cell BK10.out 4).trans rfl, (blk_cell BK10.out 5).trans rfl, ((HB.out.cell (World.block_lt_of_cell? w _ hw266_0)).trans hw266_0), ((HB.out.cell (World.block_lt_of_cell? w _ hw266_1)).trans hw266_1)⟩ (fun hHeld => ?_); refine with_tabW spec_l3Inputs.tab4 spec_l3Inputs.bits4 (fun HT_ HW_ => ?_)
      generalize wr.drew = w20 at BK10 HB hx266_0 hx266_1 hHeld ⊢
      refine rP 0 14 ?_; refine rP 1 15 ?_; refine rP 2 16 ?_; refine rP 3 17 ?_; refine rT 4 18 ?_; refine rT 5 19 ?_
      refine one_ (i := 6) (N := some 20) #[true, true, true, true, true, true, true, false, false, false, false, false, false, false, false, false, false, false, false, false, false, false, false, false, false, false, false, false, false, false] rfl rfl (one_of HT_.out ψ14) ψ15 (fun K hK => ?_)
      refine goes_ Try.func83 ψ14 rfl #[.agg #[.int .i64 a0_0, .slice A0_1 l0_1.length c0_1, .slice A0_2 l0_2.length c0_2, .int .i64 a0_3, .slice A0_4 l0_4.length c0_4, .slice A0_5 l0_5.length c0_5]] ψ16 rfl rfl ψ17 ?_
      with_reducible refine (spec_l3Size.calls k1 a0_0 _ _ l0_1 _ _ l0_2 a0_3 _ _ l0_4 _ _ l0_5 _ _ ?_ ?_ ?_ ?_ ?_ ?_ ?_ ?_ A8.out).mono ?_
      exact ψ54; exact HC0_1.out; exact ψ55; exact HC0_2.out; exact ψ56; exact HC0_4.out; exact ψ57; exact HC0_5.out
      rintro e w21 ⟨rfl, hb⟩
      refine ⟨_, rfl, ?_⟩
      have q := n2_ (blk_below (g := gb10) ψ23 hb) (below_step ψ52 hb)
      clear BK10 HB
      obtain ⟨BK10, HB⟩ := q
      (try clear hb)
      refine hK.out _ _ ⟨(blk_cell BK10.out 0).trans rfl, (blk_cell BK10.out 1).trans rfl, (blk_cell BK10.out 2).trans rfl, (blk_cell BK10.out 3).trans rfl, (blk_cell BK10.out 4).trans rfl, (blk_cell BK10.out 5).trans rfl, ((HB.out.cell (World.block_lt_of_cell? w _ hw266_0)).trans hw266_0), ((HB.out.cell (World.block_lt_of_cell? w _ hw266_1)).trans hw266_1)⟩ (fun hHeld => ?_)
      clear hK K
      refine rN 20 ?_; refine rP 7 21 ?_
      refine one_ (i := 8) (N := some 22) #[true, true, true, true, true, true, true, true, true, false, false, false, false, false, false, false, false, false, false, false, false, false, false, false, false, false, false, false, false, false] rfl rfl (one_of HT_.out ψ14) ψ15 (fun K hK => ?_)
      refine goes_ Try.func43 ψ14 rfl #[.int .i64 ((rd_T77 l1 x7_1).f0), .int .i64 0, .int .i64 (wrap64 (t268 - 1))] ψ16 rfl rfl ψ17 ?_
      with_reducible refine (spec_l1In.calls ((rd_T77 l1 x7_1).f0) 0 (wrap64 (t268 - 1)) _ _ A9.out).mono ?_
      rintro e w' ⟨rfl, ⟨nd, rfl⟩⟩
      refine ⟨_, rfl, ?_⟩
      refine hK.out _ _ ⟨(blk_cell BK10.out 0).trans rfl, (blk_cell BK10.out 1).trans rfl, (blk_cell BK10.out 2).trans rfl, (blk_cell BK10.out 3).trans rfl, (blk_cell BK10.out 4).trans rfl, (blk_cell BK10.out 5).trans rfl, ((HB.out.cell (World.block_lt_of_cell? w _ hw266_0)).trans hw266_0), ((HB.out.cell (World.block_lt_of_cell? w _ hw266_1)).trans hw266_1)⟩ (fun hHeld => ?_)
      clear hK K
      refine rN 22 ?_; refine rP 9 23 ?_; refine rP 10 24 ?_; refine rU 11 25 ?_; refine rU 12 26 ?_; refine rU 13 27 ?_; refine rU 14 28 ?_; refine rU 15 29 ?_; refine rU 16 30 ?_; refine rU 17 31 ?_; refine rP 18 32 ?_; refine rP 19 33 ?_; refine rU 20 34 ?_; refine rU 21 35 ?_; refine rU 22 36 ?_; refine rU 23 37 ?_; refine rU 24 38 ?_; refine rU 25 39 ?_; refine rU 26 40 ?_; refine rU 27 41 ?_; refine rU 28 42 ?_; refine rP 29 43 ?_
      refine done_ (done_of HT_.out ψ14) ?_
      try go_wp2
      go_meet
      case rel => exact ⟨_, (true), ψ0, H', ⟨ψ3⟩, ⟨ψ23⟩, ⟨ψ52⟩⟩
    case rest =>
     clear HC6
     try clear c1
     try clear p2
     try clear q2
     try clear hx2
     try clear c4
     try clear p6
     try clear c7
     try clear c8
     try clear c10
     try clear c12
     try clear hx266_0
     try clear hx266_1
     try clear hx270_0
     try clear hx270_1
     try clear p266
     try clear p270
     try clear q266
     try clear q270
     obtain ⟨kq, x43_5, rfl, HA, HJ5, BK10, HB⟩ := hcut
     cases kq with
     | zero => exact absurd HA.out (by simp [spec_l3Inputs.j1])
     | succ kj5 =>
      have H := HA.out
      clear HA
      simp only [spec_l3Inputs.j1] at H
      replace H := ifB H; rcases H with ⟨rfl, H⟩ | ⟨rfl, H⟩
      ·obtain rfl := Option.some.inj H
       go_wp2
       go_ret
       exact ⟨ψ9, ψ52⟩
      ·have H' := Aside0.mk H
       clear H
       go_wp2
       go_roundg kj5
       case measure => have := HK1.out; have := HJ5.out; omega
       case rel => exact ⟨(wrap64 (x7_1 + 1)), ψ0, H', ⟨by have := HK1.out; have := HJ5.out; omega⟩, ⟨ψ23⟩, ⟨ψ52⟩⟩
   ·obtain rfl := Option.some.inj H
    go_wp2
    go_ret
    exact ⟨ψ9, ψ52⟩

/-! ### spec_l3Bits: function 84 -/
def spec_l3Bits.l0 : Nat → Int → Int → Option (Int)
 | 0, _, _ => none
 | k + 1, x0, x3 => if x0 > 0 then (spec_l3Bits.l0 k (wrap64 (Int.tdiv x0 2)) (wrap64 (x3 + 1))) else (some x3)
def spec_l3Bits.f (k : Nat) (a0 : Int) : Option (Int) := spec_l3Bits.l0 k a0 0
set_option maxHeartbeats 8000000 in
set_option maxRecDepth 100000 in
theorem spec_l3Bits.calls (k : Nat) (a0 : Int) (r : Int) (w : World) (h : spec_l3Bits.f k a0 = some r) :
 Calls Try.prog 84 #[.int .i64 a0] w fun e w' => e = .returned (.int .i64 r) ∧ Drawn0 w w' := by
 have H : (spec_l3Bits.l0 k a0 0) = some r := h
 clear h
 have H' := Aside0.mk H
 clear H
 go_enter Try.func84, Try.ntmps84
 go_wp2
 go_loopg [0, 3] k (fun kq v0 v3 w' => ∃ (x0_1 : Int) (x3_1 : Int), v0 = .int .i64 x0_1 ∧ v3 = .int .i64 x3_1 ∧ Aside0 (spec_l3Bits.l0 kq x0_1 x3_1 = some r) ∧ Aside0 (kq ≤ k) ∧ Drawn0 w w')
 case atStart => exact ⟨(a0), (0), ψ0, ψ0, H', ⟨Nat.le_refl _⟩, ψ1⟩
 case round =>
  clear H'
  obtain ⟨x0_1, x3_1, rfl, rfl, HA, HK1, ⟨m1, rfl⟩⟩ := hrel
  cases gk with
  | zero => exact absurd HA.out (by simp [spec_l3Bits.l0])
  | succ k1 =>
   have H := HA.out
   clear HA
   simp only [spec_l3Bits.l0] at H
   replace H := ifG H; rcases H with ⟨c2b0, H⟩ | ⟨c2b0, H⟩
   ·have H' := Aside0.mk H
    clear H
    go_wp2
    go_roundg k1
    case measure => have := HK1.out; omega
    case rel => exact ⟨(wrap64 (Int.tdiv x0_1 2)), (wrap64 (x3_1 + 1)), ψ0, ψ0, H', ⟨ψ53⟩, ψ1⟩
   ·obtain rfl := Option.some.inj H
    go_wp2
    go_ret
    exact ⟨ψ0, ψ1⟩

/-! ### spec_l3AllBits: function 54 -/
mutual
def spec_l3AllBits.l0 : Nat → Int → Int → Int → List (S77) → List (S77) → Int → List Int → List (S42) → Option (Int)
 | 0, _, _, _, _, _, _, _, _ => none
 | k + 1, x3, x4, x274000, x274001, x274002, x274003, x274004, x274005 => if x4 < (x274001.length : Int) then (if 0 ≤ x4 then ((spec_l3Bits.f k ((rd_T77 x274001 x4).f0)).bind fun t277 => (spec_l3AllBits.l0 k (wrap64 (x3 + t277)) (wrap64 (x4 + 1)) x274000 x274001 x274002 x274003 x274004 x274005)) else (none)) else (spec_l3AllBits.l1 k x3 0 x274000 x274001 x274002 x274003 x274004 x274005)
def spec_l3AllBits.l1 : Nat → Int → Int → Int → List (S77) → List (S77) → Int → List Int → List (S42) → Option (Int)
 | 0, _, _, _, _, _, _, _, _ => none
 | k + 1, x3, x5, x274000, x274001, x274002, x274003, x274004, x274005 => if x5 < (x274002.length : Int) then (if 0 ≤ x5 then ((spec_l3Bits.f k ((rd_T77 x274002 x5).f0)).bind fun t281 => (spec_l3AllBits.l1 k (wrap64 (x3 + t281)) (wrap64 (x5 + 1)) x274000 x274001 x274002 x274003 x274004 x274005)) else (none)) else (some x3)
end
def spec_l3AllBits.f (k : Nat) (a0_0 : Int) (l0_1 : List (S77)) (l0_2 : List (S77)) (a0_3 : Int) (l0_4 : List Int) (l0_5 : List (S42)) : Option (Int) := spec_l3AllBits.l0 k 0 0 a0_0 l0_1 l0_2 a0_3 l0_4 l0_5
set_option maxRecDepth 100000 in
theorem τ16 {P : Prop} (h : P := by
 first | obtain rfl := Option.some.inj H | (have H' := Aside0.mk H; clear H)
 obtain ⟨hczB10_0, hczB10_1, hczB10_2, hczB10_3, hczB10_4, hczB10_5, hfzB10_0, hfzB10_1, hfzB10_2, hfzB10_3, hfzB10_4, hfzB10_5⟩ := cells6 BK10.out
 try (have p280 : 0 ≤ (x5_2 : Int) := of_decide_eq_true ψ2; have q280 : x5_2 < (l0_2.length : Int) := of_decide_eq_true ψ2; obtain ⟨ad280, e280, hx280_0, hx280_1⟩ := at_T77 HR0_2.out x5_2 p280 q280; cases e280; replace hx280_0 := (HB.out.cell (World.block_lt_of_cell? w _ hx280_0)).trans hx280_0; replace hx280_1 := (HB.out.cell (World.block_lt_of_cell? w _ hx280_1)).trans hx280_1; replace p280 := eq_true p280; replace q280 := eq_true q280)
 go_wp2_with (first | ((with_reducible refine gate_callee (f := 84) rfl ?_); refine gL 36 Try.func84 #[.int .i64 ((rd_T77 l0_2 x5_2).f0)] ?_; (with_reducible refine (spec_l3Bits.calls k2 ((rd_T77 l0_2 x5_2).f0) _ _ A10.out).mono ?_); rintro e w' ⟨rfl, ⟨nd, rfl⟩⟩; refine ⟨_, rfl, ?_⟩))
 first | (go_roundg k2; (case measure => have := HK1.out; have := HK2.out; omega); (case rel => exact ⟨(wrap64 (x3_2 + t281)), (wrap64 (x5_2 + 1)), ψ0, ψ0, H', ⟨by have := HK1.out; have := HK2.out; omega⟩, ⟨ψ23⟩, ⟨ψ52⟩⟩)) | (go_ret; exact ⟨ψ9, ψ52⟩)) : P := h
set_option maxHeartbeats 8000000 in
set_option maxRecDepth 100000 in
theorem spec_l3AllBits.calls (k : Nat) (a0_0 : Int) (A0_1 : Option Addr) (c0_1 : Nat) (l0_1 : List (S77)) (A0_2 : Option Addr) (c0_2 : Nat) (l0_2 : List (S77)) (a0_3 : Int) (A0_4 : Option Addr) (c0_4 : Nat) (l0_4 : List Int) (A0_5 : Option Addr) (c0_5 : Nat) (l0_5 : List (S42)) (r : Int) (w : World) (hr0_1 : Kd.C k77 w A0_1 l0_1.length l0_1) (hc0_1 : l0_1.length ≤ c0_1) (hr0_2 : Kd.C k77 w A0_2 l0_2.length l0_2) (hc0_2 : l0_2.length ≤ c0_2) (hr0_4 : Kd.C (Kd.int .i64) w A0_4 l0_4.length l0_4) (hc0_4 : l0_4.length ≤ c0_4) (hr0_5 : Kd.C k42 w A0_5 l0_5.length l0_5) (hc0_5 : l0_5.length ≤ c0_5) (h : spec_l3AllBits.f k a0_0 l0_1 l0_2 a0_3 l0_4 l0_5 = some r) :
 Calls Try.prog 54 #[.agg #[.int .i64 a0_0, .slice A0_1 l0_1.length c0_1, .slice A0_2 l0_2.length c0_2, .int .i64 a0_3, .slice A0_4 l0_4.length c0_4, .slice A0_5 l0_5.length c0_5]] w fun e w' => e = .returned (.int .i64 r) ∧ Below w.heap.size w w' := by
 have hu35 := Try.underlying35
 have HR0_1 := Aside0.mk hr0_1
 have HC0_1 := Aside0.mk hc0_1
 clear hr0_1 hc0_1
 have HR0_2 := Aside0.mk hr0_2
 have HC0_2 := Aside0.mk hc0_2
 clear hr0_2 hc0_2
 have HR0_4 := Aside0.mk hr0_4
 have HC0_4 := Aside0.mk hc0_4
 clear hr0_4 hc0_4
 have HR0_5 := Aside0.mk hr0_5
 have HC0_5 := Aside0.mk hc0_5
 clear hr0_5 hc0_5
 have HB := Aside0.mk (Below.refl w.heap.size w)
 have H : (spec_l3AllBits.l0 k 0 0 a0_0 l0_1 l0_2 a0_3 l0_4 l0_5) = some r := h
 clear h
 have H' := Aside0.mk H
 clear H
 go_enter Try.func54, Try.ntmps54
 go_wp2_with (first | ((with_reducible refine gate_dst (N := 1) rfl ?_); refine bE 1 #[.int .i64 a0_0, .slice A0_1 l0_1.length c0_1, .slice A0_2 l0_2.length c0_2, .int .i64 a0_3, .slice A0_4 l0_4.length c0_4, .slice A0_5 l0_5.length c0_5] 35 ?_; intro gb10 hg w2 hbox hb; have q := n4_ (below_step ψ52 hb) (hbox) ((ψ311 : w.heap.size ≤ gb10)) ((ψ311 : w.heap.size ≤ gb10)); clear HB; obtain ⟨HB, BK10, GW10, GE10⟩ := q; clear hb hbox hg))
 go_loopg [3, 4] k (fun kq v3 v4 w' => ∃ (x3_1 : Int) (x4_1 : Int), v3 = .int .i64 x3_1 ∧ v4 = .int .i64 x4_1 ∧ Aside0 (spec_l3AllBits.l0 kq x3_1 x4_1 a0_0 l0_1 l0_2 a0_3 l0_4 l0_5 = some r) ∧ Aside0 (kq ≤ k) ∧ Aside0 (w'.heap[gb10]? = some (.cells #[.int .i64 a0_0, (.slice A0_1 l0_1.length c0_1), (.slice A0_2 l0_2.length c0_2), .int .i64 a0_3, (.slice A0_4 l0_4.length c0_4), (.slice A0_5 l0_5.length c0_5)] 35 (0, 0))) ∧ Aside0 (Below w.heap.size w w'))
 case atStart => exact ⟨(0), (0), ψ0, ψ0, H', ⟨Nat.le_refl _⟩, ⟨ψ23⟩, ⟨ψ52⟩⟩
 case round =>
  clear H'
  try clear p2
  obtain ⟨x3_1, x4_1, rfl, rfl, HA, HK1, BK10, HB⟩ := hrel
  cases gk with
  | zero => exact absurd HA.out (by simp [spec_l3AllBits.l0])
  | succ k1 =>
   have H := HA.out
   clear HA
   simp only [spec_l3AllBits.l0] at H
   replace H := ifD H; rcases H with ⟨c3b0, H⟩ | ⟨c3b0, H⟩
   ·replace H := ifN H; obtain ⟨c4b0, H⟩ := H
    replace H := Option.bind_eq_some_iff.mp H
    obtain ⟨t277, A50, H⟩ := H
    have A5 := Aside0.mk A50
    clear A50
    have H' := Aside0.mk H
    clear H
    obtain ⟨y6_0, y6_1, y6_2, y6_3, y6_4, y6_5, u6_0, u6_1, u6_2, u6_3, u6_4, u6_5⟩ := cells6 BK10.out
    have p276 : 0 ≤ (x4_1 : Int) := of_decide_eq_true ψ2
    have q276 : x4_1 < (l0_1.length : Int) := of_decide_eq_true ψ2
    obtain ⟨ad276, e276, hx276_0, hx276_1⟩ := at_T77 HR0_1.out x4_1 p276 q276
    cases e276
    replace hx276_0 := (HB.out.cell (World.block_lt_of_cell? w _ hx276_0)).trans hx276_0
    replace hx276_1 := (HB.out.cell (World.block_lt_of_cell? w _ hx276_1)).trans hx276_1
    replace p276 := eq_true p276
    replace q276 := eq_true q276
    go_wp2_with (first | ((with_reducible refine gate_callee (f := 84) rfl ?_); refine gL 20 Try.func84 #[.int .i64 ((rd_T77 l0_1 x4_1).f0)] ?_; (with_reducible refine (spec_l3Bits.calls k1 ((rd_T77 l0_1 x4_1).f0) _ _ A5.out).mono ?_); rintro e w' ⟨rfl, ⟨nd, rfl⟩⟩; refine ⟨_, rfl, ?_⟩))
    go_roundg k1
    case measure => have := HK1.out; omega
    case rel => exact ⟨(wrap64 (x3_1 + t277)), (wrap64 (x4_1 + 1)), ψ0, ψ0, H', ⟨ψ53⟩, ⟨ψ23⟩, ⟨ψ52⟩⟩
   ·have H' := Aside0.mk H
    clear H
    obtain ⟨y7_0, y7_1, y7_2, y7_3, y7_4, y7_5, u7_0, u7_1, u7_2, u7_3, u7_4, u7_5⟩ := cells6 BK10.out
    go_wp2
    go_loopg [3, 5] k1 (fun kq v3 v5 w' => ∃ (x3_2 : Int) (x5_2 : Int), v3 = .int .i64 x3_2 ∧ v5 = .int .i64 x5_2 ∧ Aside0 (spec_l3AllBits.l1 kq x3_2 x5_2 a0_0 l0_1 l0_2 a0_3 l0_4 l0_5 = some r) ∧ Aside0 (kq ≤ k1) ∧ Aside0 (w'.heap[gb10]? = some (.cells #[.int .i64 a0_0, (.slice A0_1 l0_1.length c0_1), (.slice A0_2 l0_2.length c0_2), .int .i64 a0_3, (.slice A0_4 l0_4.length c0_4), (.slice A0_5 l0_5.length c0_5)] 35 (0, 0))) ∧ Aside0 (Below w.heap.size w w'))
    case atStart => exact ⟨(x3_1), (0), ψ0, ψ0, H', ⟨Nat.le_refl _⟩, ⟨ψ23⟩, ⟨ψ52⟩⟩
    case round =>
     clear H'
     try clear p2
     try clear q2
     try clear hx2
     try clear c3
     try clear c3b0
     try clear c4
     try clear c4b0
     try clear c5
     try clear p6
     try clear y6_0 y6_1 y6_2 y6_3 y6_4 y6_5
     try clear y7_0 y7_1 y7_2 y7_3 y7_4 y7_5
     try clear u6_0 u6_1 u6_2 u6_3 u6_4 u6_5
     try clear u7_0 u7_1 u7_2 u7_3 u7_4 u7_5
     try clear hx276_0
     try clear hx276_1
     try clear p2
     try clear p276
     try clear q276
     obtain ⟨x3_2, x5_2, rfl, rfl, HA, HK2, BK10, HB⟩ := hrel
     cases gk with
     | zero => exact absurd HA.out (by simp [spec_l3AllBits.l1])
     | succ k2 =>
      have H := HA.out
      clear HA
      simp only [spec_l3AllBits.l1] at H
      replace H := ifD H; rcases H with ⟨c8b0, H⟩ | ⟨c8b0, H⟩
      ·replace H := ifN H; obtain ⟨c9b0, H⟩ := H
       replace H := Option.bind_eq_some_iff.mp H
       obtain ⟨t281, A100, H⟩ := H
       have A10 := Aside0.mk A100
       clear A100
       exact τ16
      ·exact τ16

/-! ### spec_l3Room: function 55 -/
mutual
def spec_l3Room.j0 : Nat → Bool → Int → List (S77) → List (S77) → Int → List Int → List (S42) → Option (Bool)
 | 0, _, _, _, _, _, _, _ => none
 | k + 1, x19, x283000, x283001, x283002, x283003, x283004, x283005 => if x19 = true then (some false) else (spec_l3Room.l0 k 0 x283000 x283001 x283002 x283003 x283004 x283005)
def spec_l3Room.l0 : Nat → Int → Int → List (S77) → List (S77) → Int → List Int → List (S42) → Option (Bool)
 | 0, _, _, _, _, _, _, _ => none
 | k + 1, x3, x283000, x283001, x283002, x283003, x283004, x283005 => if x3 < (x283004.length : Int) then (if 0 ≤ x3 then ((spec_l1In.f (rd x283004 x3) 1 6).bind fun t290 => (if t290 = true then (spec_l3Room.l0 k (wrap64 (x3 + 1)) x283000 x283001 x283002 x283003 x283004 x283005) else (some false))) else (none)) else (some true)
end
def spec_l3Room.f (k : Nat) (a0_0 : Int) (l0_1 : List (S77)) (l0_2 : List (S77)) (a0_3 : Int) (l0_4 : List Int) (l0_5 : List (S42)) : Option (Bool) := (spec_l1In.f a0_3 0 6).bind fun t284 => (if t284 = true then (if (l0_4.length : Int) > 2 then (spec_l3Room.j0 k true a0_0 l0_1 l0_2 a0_3 l0_4 l0_5) else (spec_l3Room.j0 k (decide ((l0_5.length : Int) > 40)) a0_0 l0_1 l0_2 a0_3 l0_4 l0_5)) else (spec_l3Room.j0 k true a0_0 l0_1 l0_2 a0_3 l0_4 l0_5))
set_option maxRecDepth 100000 in
theorem τ17 {P : Prop} (h : P := by
 have H' := Aside0.mk H
 clear H
 obtain ⟨hczB10_0, hczB10_1, hczB10_2, hczB10_3, hczB10_4, hczB10_5, hfzB10_0, hfzB10_1, hfzB10_2, hfzB10_3, hfzB10_4, hfzB10_5⟩ := cells6 BK10.out
 go_wp2_with (first | ((with_reducible refine gate_callee (f := 43) rfl ?_); refine gL 6 Try.func43 #[.int .i64 a0_3, .int .i64 0, .int .i64 6] ?_; (with_reducible refine (spec_l1In.calls a0_3 0 6 _ _ A4.out).mono ?_); rintro e w' ⟨rfl, ⟨nd, rfl⟩⟩; refine ⟨_, rfl, ?_⟩))
 first | (go_meet; (case rel => exact ⟨_, (true), ψ0, H', ⟨ψ25⟩, ⟨ψ23⟩, ⟨ψ52⟩⟩)) | (go_meet; (case rel => exact ⟨_, (decide ((l0_5.length : Int) > 40)), ψ0, H', ⟨ψ25⟩, ⟨ψ23⟩, ⟨ψ52⟩⟩))) : P := h
set_option maxRecDepth 100000 in
theorem τ18 {P : Prop} (h : P := by
 first | obtain rfl := Option.some.inj H | (have H' := Aside0.mk H; clear H)
 obtain ⟨hczB10_0, hczB10_1, hczB10_2, hczB10_3, hczB10_4, hczB10_5, hfzB10_0, hfzB10_1, hfzB10_2, hfzB10_3, hfzB10_4, hfzB10_5⟩ := cells6 BK10.out
 try (have p289 : 0 ≤ (x3_2 : Int) := of_decide_eq_true ψ2; have q289 : x3_2 < (l0_4.length : Int) := of_decide_eq_true ψ2; obtain ⟨ad289, e289, hx289_0⟩ := Kd.at_int HR0_4.out x3_2 p289 q289; cases e289; replace hx289_0 := (HB.out.cell (World.block_lt_of_cell? w _ hx289_0)).trans hx289_0; replace p289 := eq_true p289; replace q289 := eq_true q289)
 go_wp2_with (first | ((with_reducible refine gate_callee (f := 43) rfl ?_); refine gL 32 Try.func43 #[.int .i64 (rd l0_4 x3_2), .int .i64 1, .int .i64 6] ?_; (with_reducible refine (spec_l1In.calls (rd l0_4 x3_2) 1 6 _ _ A13.out).mono ?_); rintro e w' ⟨rfl, ⟨nd, rfl⟩⟩; refine ⟨_, rfl, ?_⟩))
 first | (go_roundg k2; (case measure => have := HJ1.out; have := HK2.out; omega); (case rel => exact ⟨(wrap64 (x3_2 + 1)), ψ0, H', ⟨ψ58⟩, ⟨ψ23⟩, ⟨ψ52⟩⟩)) | (go_ret; exact ⟨ψ9, ψ52⟩)) : P := h
set_option maxHeartbeats 8000000 in
set_option maxRecDepth 100000 in
theorem spec_l3Room.calls (k : Nat) (a0_0 : Int) (A0_1 : Option Addr) (c0_1 : Nat) (l0_1 : List (S77)) (A0_2 : Option Addr) (c0_2 : Nat) (l0_2 : List (S77)) (a0_3 : Int) (A0_4 : Option Addr) (c0_4 : Nat) (l0_4 : List Int) (A0_5 : Option Addr) (c0_5 : Nat) (l0_5 : List (S42)) (r : Bool) (w : World) (hr0_1 : Kd.C k77 w A0_1 l0_1.length l0_1) (hc0_1 : l0_1.length ≤ c0_1) (hr0_2 : Kd.C k77 w A0_2 l0_2.length l0_2) (hc0_2 : l0_2.length ≤ c0_2) (hr0_4 : Kd.C (Kd.int .i64) w A0_4 l0_4.length l0_4) (hc0_4 : l0_4.length ≤ c0_4) (hr0_5 : Kd.C k42 w A0_5 l0_5.length l0_5) (hc0_5 : l0_5.length ≤ c0_5) (h : spec_l3Room.f k a0_0 l0_1 l0_2 a0_3 l0_4 l0_5 = some r) :
 Calls Try.prog 55 #[.agg #[.int .i64 a0_0, .slice A0_1 l0_1.length c0_1, .slice A0_2 l0_2.length c0_2, .int .i64 a0_3, .slice A0_4 l0_4.length c0_4, .slice A0_5 l0_5.length c0_5]] w fun e w' => e = .returned (.bool r) ∧ Below w.heap.size w w' := by
 have hu35 := Try.underlying35
 have HR0_1 := Aside0.mk hr0_1
 have HC0_1 := Aside0.mk hc0_1
 clear hr0_1 hc0_1
 have HR0_2 := Aside0.mk hr0_2
 have HC0_2 := Aside0.mk hc0_2
 clear hr0_2 hc0_2
 have HR0_4 := Aside0.mk hr0_4
 have HC0_4 := Aside0.mk hc0_4
 clear hr0_4 hc0_4
 have HR0_5 := Aside0.mk hr0_5
 have HC0_5 := Aside0.mk hc0_5
 clear hr0_5 hc0_5
 have HB := Aside0.mk (Below.refl w.heap.size w)
 have H : ((spec_l1In.f a0_3 0 6).bind fun t284 => (if t284 = true then (if (l0_4.length : Int) > 2 then (spec_l3Room.j0 k true a0_0 l0_1 l0_2 a0_3 l0_4 l0_5) else (spec_l3Room.j0 k (decide ((l0_5.length : Int) > 40)) a0_0 l0_1 l0_2 a0_3 l0_4 l0_5)) else (spec_l3Room.j0 k true a0_0 l0_1 l0_2 a0_3 l0_4 l0_5))) = some r := h
 clear h
 have HC2 := Aside0.mk H
 clear H
 go_enter Try.func55, Try.ntmps55
 go_upto_region 1 with (first | ((with_reducible refine gate_dst (N := 1) rfl ?_); (try (refine gate_guard ψ16 ?_; dsimp only)); refine bE 1 #[.int .i64 a0_0, .slice A0_1 l0_1.length c0_1, .slice A0_2 l0_2.length c0_2, .int .i64 a0_3, .slice A0_4 l0_4.length c0_4, .slice A0_5 l0_5.length c0_5] 35 ?_; intro gb10 hg w3 hbox hb; have q := n4_ (below_step ψ52 hb) (hbox) ((ψ311 : w.heap.size ≤ gb10)) ((ψ311 : w.heap.size ≤ gb10)); clear HB; obtain ⟨HB, BK10, GW10, GE10⟩ := q; clear hb hbox hg))
 (try simp only [Act.put, List.setIfInBounds_toArray, List.set_cons_zero, List.set_cons_succ])
 go_cut [19] (fun v19 wc => ∃ (kq : Nat) (x19_1 : Bool), v19 = .bool x19_1 ∧ Aside0 (spec_l3Room.j0 kq x19_1 a0_0 l0_1 l0_2 a0_3 l0_4 l0_5 = some r) ∧ Aside0 (kq ≤ k) ∧ Aside0 (wc.heap[gb10]? = some (.cells #[.int .i64 a0_0, (.slice A0_1 l0_1.length c0_1), (.slice A0_2 l0_2.length c0_2), .int .i64 a0_3, (.slice A0_4 l0_4.length c0_4), (.slice A0_5 l0_5.length c0_5)] 35 (0, 0))) ∧ Aside0 (Below w.heap.size w wc))
 case first =>
  have H := HC2.out
  clear HC2
  replace H := Option.bind_eq_some_iff.mp H
  obtain ⟨t284, A40, H⟩ := H
  have A4 := Aside0.mk A40
  clear A40
  replace H := ifB H; rcases H with ⟨rfl, H⟩ | ⟨rfl, H⟩
  ·by_cases c6 : (l0_4.length : Int) > 2
   ·rw [if_pos c6] at H
    have c6b0 : decide (2 < (l0_4.length : Int)) = true := decide_eq_true c6
    have c6b1 : decide (2 < l0_4.length) = true := decide_eq_true ψ7
    clear c6
    (first | rw [c6b0] | rw [c6b1] | (simp only [i64_w, i32_w]; rw [c6b0]) | skip)
    exact τ17
   ·rw [if_neg c6] at H
    have c6b0 : decide (2 < (l0_4.length : Int)) = false := decide_eq_false c6
    have c6b1 : decide (2 < l0_4.length) = false := decide_eq_false ψ7
    clear c6
    (first | rw [c6b0] | rw [c6b1] | (simp only [i64_w, i32_w]; rw [c6b0]) | skip)
    exact τ17
  ·exact τ17
 case rest =>
  clear HC2
  try clear p2
  try clear c4
  try clear c5
  try clear c6
  try clear c6b0
  try clear c6b1
  try clear y7_0 y7_1 y7_2 y7_3 y7_4 y7_5
  try clear y8_0 y8_1 y8_2 y8_3 y8_4 y8_5
  try clear y9_0 y9_1 y9_2 y9_3 y9_4 y9_5
  try clear u7_0 u7_1 u7_2 u7_3 u7_4 u7_5
  try clear u8_0 u8_1 u8_2 u8_3 u8_4 u8_5
  try clear u9_0 u9_1 u9_2 u9_3 u9_4 u9_5
  obtain ⟨kq, x19_1, rfl, HA, HJ1, BK10, HB⟩ := hcut
  cases kq with
  | zero => exact absurd HA.out (by simp [spec_l3Room.j0])
  | succ kj1 =>
   have H := HA.out
   clear HA
   simp only [spec_l3Room.j0] at H
   replace H := ifB H; rcases H with ⟨rfl, H⟩ | ⟨rfl, H⟩
   ·obtain rfl := Option.some.inj H
    go_wp2
    go_ret
    exact ⟨ψ9, ψ52⟩
   ·have H' := Aside0.mk H
    clear H
    go_wp2
    go_loopg [3] kj1 (fun kq v3 w' => ∃ (x3_2 : Int), v3 = .int .i64 x3_2 ∧ Aside0 (spec_l3Room.l0 kq x3_2 a0_0 l0_1 l0_2 a0_3 l0_4 l0_5 = some r) ∧ Aside0 (kq ≤ kj1) ∧ Aside0 (w'.heap[gb10]? = some (.cells #[.int .i64 a0_0, (.slice A0_1 l0_1.length c0_1), (.slice A0_2 l0_2.length c0_2), .int .i64 a0_3, (.slice A0_4 l0_4.length c0_4), (.slice A0_5 l0_5.length c0_5)] 35 (0, 0))) ∧ Aside0 (Below w.heap.size w w'))
    case atStart => exact ⟨(0), ψ0, H', ⟨Nat.le_refl _⟩, ⟨ψ23⟩, ⟨ψ52⟩⟩
    case round =>
     clear H'
     try clear c1
     try clear p2
     try clear c4
     try clear c5
     try clear c6
     try clear c6b0
     try clear c6b1
     try clear c10
     try clear y7_0 y7_1 y7_2 y7_3 y7_4 y7_5
     try clear y8_0 y8_1 y8_2 y8_3 y8_4 y8_5
     try clear y9_0 y9_1 y9_2 y9_3 y9_4 y9_5
     try clear u7_0 u7_1 u7_2 u7_3 u7_4 u7_5
     try clear u8_0 u8_1 u8_2 u8_3 u8_4 u8_5
     try clear u9_0 u9_1 u9_2 u9_3 u9_4 u9_5
     try clear p2
     obtain ⟨x3_2, rfl, HA, HK2, BK10, HB⟩ := hrel
     cases gk with
     | zero => exact absurd HA.out (by simp [spec_l3Room.l0])
     | succ k2 =>
      have H := HA.out
      clear HA
      simp only [spec_l3Room.l0] at H
      replace H := ifD H; rcases H with ⟨c11b0, H⟩ | ⟨c11b0, H⟩
      ·replace H := ifN H; obtain ⟨c12b0, H⟩ := H
       replace H := Option.bind_eq_some_iff.mp H
       obtain ⟨t290, A130, H⟩ := H
       have A13 := Aside0.mk A130
       clear A130
       replace H := ifB H; rcases H with ⟨rfl, H⟩ | ⟨rfl, H⟩
       ·exact τ18
       ·exact τ18
      ·exact τ18

/-! ### spec_TakesOf: function 106 -/
def spec_TakesOf.f (a0 : Int) : Option (Int) := (spec_l1In.f a0 0 17).bind fun t291 => (if t291 = true then ((some (([0, 0, 1, 1, 1, 2, 2, 2, 2, 2, 2, 2, 2, 2, 2, 2, 2, 3] : List Int) : List Int)).bind fun y292 => (if 0 ≤ a0 then (if a0 < (y292.length : Int) then (some (rd y292 a0)) else (none)) else (none))) else (some (-1)))
set_option maxRecDepth 100000 in
theorem τ19 {P : Prop} (h : P := by
 obtain rfl := Option.some.inj H
 go_enter Try.func106, Try.ntmps106
 go_wp2_with (first | ((with_reducible refine gate_callee (f := 43) rfl ?_); refine gL 4 Try.func43 #[.int .i64 a0, .int .i64 0, .int .i64 17] ?_; (with_reducible refine (spec_l1In.calls a0 0 17 _ _ A2.out).mono ?_); rintro e w' ⟨rfl, ⟨nd, rfl⟩⟩; refine ⟨_, rfl, ?_⟩) | ((with_reducible refine gate_dst (N := 6) rfl ?_); refine Kd.R_lit (Kd.int .i64) _ 2 ?hg (N := 6) ?hd (xs := ([0, 0, 1, 1, 1, 2, 2, 2, 2, 2, 2, 2, 2, 2, 2, 2, 2, 3] : List Int)) (inner := [.int .i64 0, .int .i64 0, .int .i64 1, .int .i64 1, .int .i64 1, .int .i64 2, .int .i64 2, .int .i64 2, .int .i64 2, .int .i64 2, .int .i64 2, .int .i64 2, .int .i64 2, .int .i64 2, .int .i64 2, .int .i64 2, .int .i64 2, .int .i64 3]) (ok := fun _ => True) (okp := fun _ => True) ?hr ?hp (fun _ hk => hk) trivial (Below.refl _ _) (Nat.le_refl _) ψ8 ?_; (case hd => rfl); (case hg => rfl); (case hr => first | (go_simp; done) | (go_simp; rfl)); (case hp => exact (Reps.one (show Kd.M (Kd.int .i64) _ _ _ 0 [.int .i64 0] from rfl) (Reps.one (show Kd.M (Kd.int .i64) _ _ _ 0 [.int .i64 0] from rfl) (Reps.one (show Kd.M (Kd.int .i64) _ _ _ 1 [.int .i64 1] from rfl) (Reps.one (show Kd.M (Kd.int .i64) _ _ _ 1 [.int .i64 1] from rfl) (Reps.one (show Kd.M (Kd.int .i64) _ _ _ 1 [.int .i64 1] from rfl) (Reps.one (show Kd.M (Kd.int .i64) _ _ _ 2 [.int .i64 2] from rfl) (Reps.one (show Kd.M (Kd.int .i64) _ _ _ 2 [.int .i64 2] from rfl) (Reps.one (show Kd.M (Kd.int .i64) _ _ _ 2 [.int .i64 2] from rfl) (Reps.one (show Kd.M (Kd.int .i64) _ _ _ 2 [.int .i64 2] from rfl) (Reps.one (show Kd.M (Kd.int .i64) _ _ _ 2 [.int .i64 2] from rfl) (Reps.one (show Kd.M (Kd.int .i64) _ _ _ 2 [.int .i64 2] from rfl) (Reps.one (show Kd.M (Kd.int .i64) _ _ _ 2 [.int .i64 2] from rfl) (Reps.one (show Kd.M (Kd.int .i64) _ _ _ 2 [.int .i64 2] from rfl) (Reps.one (show Kd.M (Kd.int .i64) _ _ _ 2 [.int .i64 2] from rfl) (Reps.one (show Kd.M (Kd.int .i64) _ _ _ 2 [.int .i64 2] from rfl) (Reps.one (show Kd.M (Kd.int .i64) _ _ _ 2 [.int .i64 2] from rfl) (Reps.one (show Kd.M (Kd.int .i64) _ _ _ 2 [.int .i64 2] from rfl) (Reps.one (show Kd.M (Kd.int .i64) _ _ _ 3 [.int .i64 3] from rfl) (Reps.none _ _)))))))))))))))))))); intro v293 w1_ ho7 hb hg_ hnew_; clear hg_ hnew_; (first | rw [← Ny292.out] at ho7 | (simp only [Int.reduceToNat] at ho7; rw [← Ny292.out] at ho7)); have q := n2_ (Kd.R_lower ho7 (below_size ψ59)) (below_step ψ59 hb); clear HB; obtain ⟨HO294, HB⟩ := q; clear hb ho7; obtain ⟨Ao1_, co1_, eo1_⟩ := Kd.R_slice HO294.out; subst eo1_; have p295 : 0 ≤ (a0 : Int) := of_decide_eq_true ψ2; have q295 : a0 < (y292.length : Int) := of_decide_eq_true ψ2; obtain ⟨ad295, e295, hx295_0⟩ := Kd.at_int (Kd.R_reads' HO294.out).2.2 a0 p295 q295; cases e295; replace p295 := eq_true p295; replace q295 := eq_true q295))
 go_ret
 exact ⟨ψ9, ψ59⟩) : P := h
set_option maxHeartbeats 8000000 in
set_option maxRecDepth 100000 in
theorem spec_TakesOf.calls (a0 : Int) (r : Int) (w : World) (h : spec_TakesOf.f a0 = some r) :
 Calls Try.prog 106 #[.int .i64 a0] w fun e w' => e = .returned (.int .i64 r) ∧ Below w.heap.size w w' := by
 have HB := Aside0.mk (Below.refl w.heap.size w)
 have H : ((spec_l1In.f a0 0 17).bind fun t291 => (if t291 = true then ((some (([0, 0, 1, 1, 1, 2, 2, 2, 2, 2, 2, 2, 2, 2, 2, 2, 2, 3] : List Int) : List Int)).bind fun y292 => (if 0 ≤ a0 then (if a0 < (y292.length : Int) then (some (rd y292 a0)) else (none)) else (none))) else (some (-1)))) = some r := h
 clear h
 replace H := Option.bind_eq_some_iff.mp H
 obtain ⟨t291, A20, H⟩ := H
 have A2 := Aside0.mk A20
 clear A20
 replace H := ifB H; rcases H with ⟨rfl, H⟩ | ⟨rfl, H⟩
 ·obtain ⟨y292, hy292⟩ : ∃ y_ : List Int, y_ = (([0, 0, 1, 1, 1, 2, 2, 2, 2, 2, 2, 2, 2, 2, 2, 2, 2, 3] : List Int)) := ⟨_, rfl⟩
  replace H : (if 0 ≤ a0 then (if a0 < (y292.length : Int) then (some (rd y292 a0)) else (none)) else (none)) = some r := by first | (rw [hy292]; with_reducible exact H) | (have H2_ := (Option.bind_some _ _).symm.trans H; rw [hy292]; with_reducible exact H2_) | (have H2_ := (Option.bind_some _ _).symm.trans H; with_reducible exact H2_) | with_reducible exact H | (rw [hy292]; exact H) | exact H
  have Ny292 := Aside0.mk hy292
  clear hy292
  replace H := ifN H; obtain ⟨c4b0, H⟩ := H
  replace H := ifN H; obtain ⟨c5b0, H⟩ := H
  exact τ19
 ·exact τ19

/-! ### spec_ExpOk: function 104 -/
def spec_ExpOk.l0 : Nat → List (S100) → Int → Int → Option (Bool)
 | 0, _, _, _ => none
 | k + 1, x0, x3, x4 => if x4 < (x0.length : Int) then (if 0 ≤ x4 then ((spec_TakesOf.f ((rd_T100 x0 x4).f0)).bind fun t297 => (if t297 < 0 then (some false) else (if t297 > x3 then (some false) else ((spec_l1In.f ((rd_T100 x0 x4).f1) 0 255).bind fun t299 => (if t299 = true then (if ((rd_T100 x0 x4).f0) > 2 then (if ((rd_T100 x0 x4).f1) = 0 then (spec_ExpOk.l0 k x0 (wrap64 ((wrap64 (x3 - t297)) + 1)) (wrap64 (x4 + 1))) else (some false)) else (spec_ExpOk.l0 k x0 (wrap64 ((wrap64 (x3 - t297)) + 1)) (wrap64 (x4 + 1)))) else (some false)))))) else (none)) else (some (x3 == 1))
def spec_ExpOk.f (k : Nat) (l0 : List (S100)) : Option (Bool) := if (l0.length : Int) > 3000 then (some false) else (spec_ExpOk.l0 k l0 0 0)
set_option maxRecDepth 100000 in
theorem τ20 {P : Prop} (h : P := by
 first | obtain rfl := Option.some.inj H | (have H' := Aside0.mk H; clear H)
 try (have p296 : 0 ≤ (x4_1 : Int) := of_decide_eq_true ψ2; have q296 : x4_1 < (l0.length : Int) := of_decide_eq_true ψ2; obtain ⟨ad296, e296, hx296_0, hx296_1⟩ := at_T100 HR0.out x4_1 p296 q296; cases e296; replace hx296_0 := (HB.out.cell (World.block_lt_of_cell? w _ hx296_0)).trans hx296_0; replace hx296_1 := (HB.out.cell (World.block_lt_of_cell? w _ hx296_1)).trans hx296_1; replace p296 := eq_true p296; replace q296 := eq_true q296)
 go_wp2_with (first | ((with_reducible refine gate_callee (f := 106) rfl ?_); refine gL 20 Try.func106 #[.int .i64 ((rd_T100 l0 x4_1).f0)] ?_; (with_reducible refine (spec_TakesOf.calls ((rd_T100 l0 x4_1).f0) _ _ A5.out).mono ?_); rintro e w1_ ⟨rfl, hb⟩; refine ⟨_, rfl, ?_⟩; replace HB := Aside0.mk (below_step ψ59 hb); (try clear hb); (try (have p298 : 0 ≤ (x4_1 : Int) := of_decide_eq_true ψ2; have q298 : x4_1 < (l0.length : Int) := of_decide_eq_true ψ2; obtain ⟨ad298, e298, hx298_0, hx298_1⟩ := at_T100 HR0.out x4_1 p298 q298; obtain rfl : ad296 = ad298 := (by injection e298); replace hx298_0 := (HB.out.cell (World.block_lt_of_cell? w _ hx298_0)).trans hx298_0; replace hx298_1 := (HB.out.cell (World.block_lt_of_cell? w _ hx298_1)).trans hx298_1; replace p298 := eq_true p298; replace q298 := eq_true q298))) | (go_at_call 43; (with_reducible refine (spec_l1In.calls ((rd_T100 l0 x4_1).f1) 0 255 _ _ A10.out).mono ?_); rintro e w' ⟨rfl, ⟨nd, rfl⟩⟩; (try (have p300 : 0 ≤ (x4_1 : Int) := of_decide_eq_true ψ2; have q300 : x4_1 < (l0.length : Int) := of_decide_eq_true ψ2; obtain ⟨ad300, e300, hx300_0, hx300_1⟩ := at_T100 HR0.out x4_1 p300 q300; obtain rfl : ad296 = ad300 := (by injection e300); replace hx300_0 := (HB.out.cell (World.block_lt_of_cell? w _ hx300_0)).trans hx300_0; replace hx300_1 := (HB.out.cell (World.block_lt_of_cell? w _ hx300_1)).trans hx300_1; replace p300 := eq_true p300; replace q300 := eq_true q300)); (try (have p301 : 0 ≤ (x4_1 : Int) := of_decide_eq_true ψ2; have q301 : x4_1 < (l0.length : Int) := of_decide_eq_true ψ2; obtain ⟨ad301, e301, hx301_0, hx301_1⟩ := at_T100 HR0.out x4_1 p301 q301; obtain rfl : ad296 = ad301 := (by injection e301); replace hx301_0 := (HB.out.cell (World.block_lt_of_cell? w _ hx301_0)).trans hx301_0; replace hx301_1 := (HB.out.cell (World.block_lt_of_cell? w _ hx301_1)).trans hx301_1; replace p301 := eq_true p301; replace q301 := eq_true q301))))
 first | (go_ret; exact ⟨ψ9, ψ59⟩) | (go_roundg k1; (case measure => have := HK1.out; omega); (case rel => exact ⟨(wrap64 ((wrap64 (x3_1 - t297)) + 1)), (wrap64 (x4_1 + 1)), ψ0, ψ0, H', ⟨ψ53⟩, ⟨ψ59⟩⟩))) : P := h
set_option maxHeartbeats 8000000 in
set_option maxRecDepth 100000 in
theorem spec_ExpOk.calls (k : Nat) (A0 : Option Addr) (c0 : Nat) (l0 : List (S100)) (r : Bool) (w : World) (hr0 : Kd.C k100 w A0 l0.length l0) (hc0 : l0.length ≤ c0) (h : spec_ExpOk.f k l0 = some r) :
 Calls Try.prog 104 #[.slice A0 l0.length c0] w fun e w' => e = .returned (.bool r) ∧ Below w.heap.size w w' := by
 have HR0 := Aside0.mk hr0
 have HC0 := Aside0.mk hc0
 clear hr0 hc0
 have HB := Aside0.mk (Below.refl w.heap.size w)
 have H : (if (l0.length : Int) > 3000 then (some false) else (spec_ExpOk.l0 k l0 0 0)) = some r := h
 clear h
 by_cases c2 : (l0.length : Int) > 3000
 ·rw [if_pos c2] at H
  have c2b0 : decide (3000 < (l0.length : Int)) = true := decide_eq_true c2
  have c2b1 : decide (3000 < l0.length) = true := decide_eq_true ψ7
  clear c2
  obtain rfl := Option.some.inj H
  go_enter Try.func104, Try.ntmps104
  go_wp2
  go_ret
  exact ⟨ψ9, ψ59⟩
 ·rw [if_neg c2] at H
  have c2b0 : decide (3000 < (l0.length : Int)) = false := decide_eq_false c2
  have c2b1 : decide (3000 < l0.length) = false := decide_eq_false ψ7
  clear c2
  have H' := Aside0.mk H
  clear H
  go_enter Try.func104, Try.ntmps104
  go_wp2
  go_loopg [3, 4] k (fun kq v3 v4 w' => ∃ (x3_1 : Int) (x4_1 : Int), v3 = .int .i64 x3_1 ∧ v4 = .int .i64 x4_1 ∧ Aside0 (spec_ExpOk.l0 kq l0 x3_1 x4_1 = some r) ∧ Aside0 (kq ≤ k) ∧ Aside0 (Below w.heap.size w w'))
  case atStart => exact ⟨(0), (0), ψ0, ψ0, H', ⟨Nat.le_refl _⟩, ⟨ψ59⟩⟩
  case round =>
   clear H'
   try clear c1
   try clear c2
   try clear c2b0
   try clear c2b1
   try clear p2
   obtain ⟨x3_1, x4_1, rfl, rfl, HA, HK1, HB⟩ := hrel
   cases gk with
   | zero => exact absurd HA.out (by simp [spec_ExpOk.l0])
   | succ k1 =>
    have H := HA.out
    clear HA
    simp only [spec_ExpOk.l0] at H
    replace H := ifD H; rcases H with ⟨c3b0, H⟩ | ⟨c3b0, H⟩
    ·replace H := ifN H; obtain ⟨c4b0, H⟩ := H
     replace H := Option.bind_eq_some_iff.mp H
     obtain ⟨t297, A50, H⟩ := H
     have A5 := Aside0.mk A50
     clear A50
     replace H := ifD H; rcases H with ⟨c6b0, H⟩ | ⟨c6b0, H⟩
     ·exact τ20
     ·by_cases c8 : t297 > x3_1
      ·rw [if_pos c8] at H
       have c8b0 : decide (x3_1 < t297) = true := decide_eq_true c8
       clear c8
       exact τ20
      ·rw [if_neg c8] at H
       have c8b0 : decide (x3_1 < t297) = false := decide_eq_false c8
       clear c8
       replace H := Option.bind_eq_some_iff.mp H
       obtain ⟨t299, A100, H⟩ := H
       have A10 := Aside0.mk A100
       clear A100
       replace H := ifB H; rcases H with ⟨rfl, H⟩ | ⟨rfl, H⟩
       ·by_cases c12 : ((rd_T100 l0 x4_1).f0) > 2
        ·rw [if_pos c12] at H
         have c12b0 : decide (2 < ((rd_T100 l0 x4_1).f0)) = true := decide_eq_true c12
         clear c12
         replace H := ifF H; rcases H with ⟨c13b0, c13b1, H⟩ | ⟨c13b0, c13b1, c13, H⟩
         ·exact τ20
         ·exact τ20
        ·rw [if_neg c12] at H
         have c12b0 : decide (2 < ((rd_T100 l0 x4_1).f0)) = false := decide_eq_false c12
         clear c12
         exact τ20
       ·exact τ20
    ·exact τ20

/-! ### spec_l3Vars: function 105 -/
def spec_l3Vars.f (a0_0 : Int) (l0_1 : List (S77)) (l0_2 : List (S77)) (a0_3 : Int) (l0_4 : List Int) (l0_5 : List (S42)) : Option (Int) := some (wrap64 ((wrap64 ((l0_1.length : Int) + (l0_2.length : Int))) + a0_3))
set_option maxHeartbeats 8000000 in
set_option maxRecDepth 100000 in
theorem spec_l3Vars.calls (a0_0 : Int) (A0_1 : Option Addr) (c0_1 : Nat) (l0_1 : List (S77)) (A0_2 : Option Addr) (c0_2 : Nat) (l0_2 : List (S77)) (a0_3 : Int) (A0_4 : Option Addr) (c0_4 : Nat) (l0_4 : List Int) (A0_5 : Option Addr) (c0_5 : Nat) (l0_5 : List (S42)) (r : Int) (w : World) (hr0_1 : Kd.C k77 w A0_1 l0_1.length l0_1) (hc0_1 : l0_1.length ≤ c0_1) (hr0_2 : Kd.C k77 w A0_2 l0_2.length l0_2) (hc0_2 : l0_2.length ≤ c0_2) (hr0_4 : Kd.C (Kd.int .i64) w A0_4 l0_4.length l0_4) (hc0_4 : l0_4.length ≤ c0_4) (hr0_5 : Kd.C k42 w A0_5 l0_5.length l0_5) (hc0_5 : l0_5.length ≤ c0_5) (h : spec_l3Vars.f a0_0 l0_1 l0_2 a0_3 l0_4 l0_5 = some r) :
 Calls Try.prog 105 #[.agg #[.int .i64 a0_0, .slice A0_1 l0_1.length c0_1, .slice A0_2 l0_2.length c0_2, .int .i64 a0_3, .slice A0_4 l0_4.length c0_4, .slice A0_5 l0_5.length c0_5]] w fun e w' => e = .returned (.int .i64 r) ∧ Below w.heap.size w w' := by
 have hu35 := Try.underlying35
 have HR0_1 := Aside0.mk hr0_1
 have HC0_1 := Aside0.mk hc0_1
 clear hr0_1 hc0_1
 have HR0_2 := Aside0.mk hr0_2
 have HC0_2 := Aside0.mk hc0_2
 clear hr0_2 hc0_2
 have HR0_4 := Aside0.mk hr0_4
 have HC0_4 := Aside0.mk hc0_4
 clear hr0_4 hc0_4
 have HR0_5 := Aside0.mk hr0_5
 have HC0_5 := Aside0.mk hc0_5
 clear hr0_5 hc0_5
 have HB := Aside0.mk (Below.refl w.heap.size w)
 have H : (some (wrap64 ((wrap64 ((l0_1.length : Int) + (l0_2.length : Int))) + a0_3))) = some r := h
 clear h
 obtain rfl := Option.some.inj H
 go_enter Try.func105, Try.ntmps105
 go_wp2_with (first | ((with_reducible refine gate_dst (N := 1) rfl ?_); refine bE 1 #[.int .i64 a0_0, .slice A0_1 l0_1.length c0_1, .slice A0_2 l0_2.length c0_2, .int .i64 a0_3, .slice A0_4 l0_4.length c0_4, .slice A0_5 l0_5.length c0_5] 35 ?_; intro gb10 hg w2 hbox hb; have q := n4_ (below_step ψ52 hb) (hbox) ((ψ311 : w.heap.size ≤ gb10)) ((ψ311 : w.heap.size ≤ gb10)); clear HB; obtain ⟨HB, BK10, GW10, GE10⟩ := q; clear hb hbox hg; obtain ⟨y3_0, y3_1, y3_2, y3_3, y3_4, y3_5, u3_0, u3_1, u3_2, u3_3, u3_4, u3_5⟩ := cells6 BK10.out))
 go_ret
 exact ⟨ψ9, ψ52⟩

/-! ### spec_l3Names: function 94 -/
def spec_l3Names.l0 : Nat → List (S100) → Int → Int → List (S77) → List (S77) → Int → List Int → List (S42) → Option (Bool)
 | 0, _, _, _, _, _, _, _, _ => none
 | k + 1, x1, x5, x307000, x307001, x307002, x307003, x307004, x307005 => if x5 < (x1.length : Int) then (if 0 ≤ x5 then (if ((rd_T100 x1 x5).f0) = 0 then ((spec_l3Size.f k x307000 x307001 x307002 x307003 x307004 x307005).bind fun t311 => (if ((rd_T100 x1 x5).f1) ≥ t311 then (some false) else (spec_l3Names.l0 k x1 (wrap64 (x5 + 1)) x307000 x307001 x307002 x307003 x307004 x307005))) else (if ((rd_T100 x1 x5).f0) = 1 then ((spec_l3Vars.f x307000 x307001 x307002 x307003 x307004 x307005).bind fun t314 => (if ((rd_T100 x1 x5).f1) ≥ t314 then (some false) else (spec_l3Names.l0 k x1 (wrap64 (x5 + 1)) x307000 x307001 x307002 x307003 x307004 x307005))) else (if ((rd_T100 x1 x5).f0) = 2 then (if ((rd_T100 x1 x5).f1) ≥ (x307004.length : Int) then (some false) else (spec_l3Names.l0 k x1 (wrap64 (x5 + 1)) x307000 x307001 x307002 x307003 x307004 x307005)) else (spec_l3Names.l0 k x1 (wrap64 (x5 + 1)) x307000 x307001 x307002 x307003 x307004 x307005)))) else (none)) else (some true)
def spec_l3Names.f (k : Nat) (a0_0 : Int) (l0_1 : List (S77)) (l0_2 : List (S77)) (a0_3 : Int) (l0_4 : List Int) (l0_5 : List (S42)) (l1 : List (S100)) : Option (Bool) := (spec_ExpOk.f k l1).bind fun t307 => (if t307 = true then (spec_l3Names.l0 k l1 0 a0_0 l0_1 l0_2 a0_3 l0_4 l0_5) else (some false))
def spec_l3Names.T8 : Bool × List (List Nat × List Nat) := (true, [([], []), ([], []), ([0, 1], [0, 1]), ([2], [2]), ([3], [3]), ([], []), ([5], [5]), ([4, 6], [4, 6])])
def spec_l3Names.B8 : List Nat := [0, 0, 3, 7, 15, 0, 32, 127]
theorem spec_l3Names.tab8 : rtab .any (opsOf Try.f94 8) = spec_l3Names.T8 := by kernel_rfl
theorem spec_l3Names.bits8 : waitsOk spec_l3Names.T8.2 spec_l3Names.B8 = true := by kernel_rfl
def spec_l3Names.T11 : Bool × List (List Nat × List Nat) := (true, [([], []), ([], []), ([0, 1], [0, 1]), ([2], [2]), ([3], [3]), ([], []), ([5], [5]), ([4, 6], [4, 6])])
def spec_l3Names.B11 : List Nat := [0, 0, 3, 7, 15, 0, 32, 127]
theorem spec_l3Names.tab11 : rtab .any (opsOf Try.f94 11) = spec_l3Names.T11 := by kernel_rfl
theorem spec_l3Names.bits11 : waitsOk spec_l3Names.T11.2 spec_l3Names.B11 = true := by kernel_rfl
def spec_l3Names.T14 : Bool × List (List Nat × List Nat) := (true, [([], []), ([], []), ([0, 1], [0, 1]), ([2], [2]), ([3], [3]), ([], []), ([5], [5]), ([6], [6]), ([4, 7], [4, 7])])
def spec_l3Names.B14 : List Nat := [0, 0, 3, 7, 15, 0, 32, 96, 255]
theorem spec_l3Names.tab14 : rtab .any (opsOf Try.f94 14) = spec_l3Names.T14 := by kernel_rfl
theorem spec_l3Names.bits14 : waitsOk spec_l3Names.T14.2 spec_l3Names.B14 = true := by kernel_rfl
set_option maxRecDepth 100000 in
theorem τ21 {P : Prop} (h : P := by
 first | obtain rfl := Option.some.inj H | (have H' := Aside0.mk H; clear H)
 have p308 : 0 ≤ (x5_1 : Int) := of_decide_eq_true ψ2
 have q308 : x5_1 < (l1.length : Int) := of_decide_eq_true ψ2
 obtain ⟨ad308, e308, hx308_0, hx308_1⟩ := at_T100 HR1.out x5_1 p308 q308
 cases e308
 replace hx308_0 := (HB.out.cell (World.block_lt_of_cell? w _ hx308_0)).trans hx308_0
 replace hx308_1 := (HB.out.cell (World.block_lt_of_cell? w _ hx308_1)).trans hx308_1
 replace p308 := eq_true p308
 replace q308 := eq_true q308
 try go_wp2
 have q := n2_ (blk_drew BK10.out) (below_drew1 HB.out)
 clear BK10 HB
 obtain ⟨BK10, HB⟩ := q
 have p309 : 0 ≤ (x5_1 : Int) := of_decide_eq_true ψ2
 have q309 : x5_1 < (l1.length : Int) := of_decide_eq_true ψ2
 obtain ⟨ad309, e309, hx309_0, hx309_1⟩ := at_T100 HR1.out x5_1 p309 q309
 have hw309_1 := hx309_1
 have hw309_0 := hx309_0
 obtain rfl : ad308 = ad309 := (by injection e309)
 replace hx309_0 := (HB.out.cell (World.block_lt_of_cell? w _ hx309_0)).trans hx309_0
 replace hx309_1 := (HB.out.cell (World.block_lt_of_cell? w _ hx309_1)).trans hx309_1
 replace p309 := eq_true p309
 replace q309 := eq_true q309
 refine start_ (n := 8) (S := fun w' => w'.cell? ⟨gb10, 0, none⟩ = some (.int .i64 a0_0) ∧ w'.cell? ⟨gb10, 1, none⟩ = some (.slice A0_1 l0_1.length c0_1) ∧ w'.cell? ⟨gb10, 2, none⟩ = some (.slice A0_2 l0_2.length c0_2) ∧ w'.cell? ⟨gb10, 3, none⟩ = some (.int .i64 a0_3) ∧ w'.cell? ⟨gb10, 4, none⟩ = some (.slice A0_4 l0_4.length c0_4) ∧ w'.cell? ⟨gb10, 5, none⟩ = some (.slice A0_5 l0_5.length c0_5) ∧ w'.cell? (ad308.add ((x5_1).toNat * 2)) = some (.int .i64 ((rd_T100 l1 x5_1).f0)) ∧ w'.cell? ⟨(ad308.add ((x5_1).toNat * 2)).block, (ad308.add ((x5_1).toNat * 2)).off + 1, none⟩ = some (.int .i64 ((rd_T100 l1 x5_1).f1))) (ds := []) #[false, false, false, false, false, false, false, false] ψ14 rfl rfl ⟨(blk_cell BK10.out 0).trans rfl, (blk_cell BK10.out 1).trans rfl, (blk_cell BK10.out 2).trans rfl, (blk_cell BK10.out 3).trans rfl, (blk_cell BK10.out 4).trans rfl, (blk_cell BK10.out 5).trans rfl, ((HB.out.cell (World.block_lt_of_cell? w _ hw309_0)).trans hw309_0), ((HB.out.cell (World.block_lt_of_cell? w _ hw309_1)).trans hw309_1)⟩ (fun hHeld => ?_); refine with_tabW spec_l3Names.tab8 spec_l3Names.bits8 (fun HT_ HW_ => ?_)
 generalize wr.drew = w1_ at BK10 HB hx309_0 hx309_1 hHeld ⊢
 refine rP 0 22 ?_; refine rP 1 23 ?_; refine rP 2 24 ?_; refine rP 3 25 ?_; refine rT 4 26 ?_; refine rT 5 27 ?_
 refine one_ (i := 6) (N := some 28) #[true, true, true, true, true, true, true, false] rfl rfl (one_of HT_.out ψ14) ψ15 (fun K hK => ?_)
 refine goes_ Try.func83 ψ14 rfl #[.agg #[.int .i64 a0_0, .slice A0_1 l0_1.length c0_1, .slice A0_2 l0_2.length c0_2, .int .i64 a0_3, .slice A0_4 l0_4.length c0_4, .slice A0_5 l0_5.length c0_5]] ψ16 rfl rfl ψ17 ?_
 with_reducible refine (spec_l3Size.calls k1 a0_0 _ _ l0_1 _ _ l0_2 a0_3 _ _ l0_4 _ _ l0_5 _ _ ?_ ?_ ?_ ?_ ?_ ?_ ?_ ?_ A10.out).mono ?_
 exact ψ54; exact HC0_1.out; exact ψ55; exact HC0_2.out; exact ψ56; exact HC0_4.out; exact ψ57; exact HC0_5.out
 rintro e w2_ ⟨rfl, hb⟩
 refine ⟨_, rfl, ?_⟩
 have q := n2_ (blk_below (g := gb10) ψ23 hb) (below_step ψ52 hb)
 clear BK10 HB
 obtain ⟨BK10, HB⟩ := q
 (try clear hb)
 refine hK.out _ _ ⟨(blk_cell BK10.out 0).trans rfl, (blk_cell BK10.out 1).trans rfl, (blk_cell BK10.out 2).trans rfl, (blk_cell BK10.out 3).trans rfl, (blk_cell BK10.out 4).trans rfl, (blk_cell BK10.out 5).trans rfl, ((HB.out.cell (World.block_lt_of_cell? w _ hw309_0)).trans hw309_0), ((HB.out.cell (World.block_lt_of_cell? w _ hw309_1)).trans hw309_1)⟩ (fun hHeld => ?_)
 clear hK K
 refine rN 28 ?_; refine rP 7 29 ?_
 refine done_ (done_of HT_.out ψ14) ?_
 try go_wp2
 first | (go_ret; exact ⟨ψ9, ψ52⟩) | (go_roundg k1; (case measure => have := HK1.out; omega); (case rel => exact ⟨(wrap64 (x5_1 + 1)), ψ0, H', ⟨ψ53⟩, ⟨ψ23⟩, ⟨ψ52⟩⟩))) : P := h
set_option maxRecDepth 100000 in
theorem τ22 {P : Prop} (h : P := by
 first | obtain rfl := Option.some.inj H | (have H' := Aside0.mk H; clear H)
 have p308 : 0 ≤ (x5_1 : Int) := of_decide_eq_true ψ2
 have q308 : x5_1 < (l1.length : Int) := of_decide_eq_true ψ2
 obtain ⟨ad308, e308, hx308_0, hx308_1⟩ := at_T100 HR1.out x5_1 p308 q308
 cases e308
 replace hx308_0 := (HB.out.cell (World.block_lt_of_cell? w _ hx308_0)).trans hx308_0
 replace hx308_1 := (HB.out.cell (World.block_lt_of_cell? w _ hx308_1)).trans hx308_1
 replace p308 := eq_true p308
 replace q308 := eq_true q308
 try go_wp2
 have q := n2_ (blk_drew BK10.out) (below_drew1 HB.out)
 clear BK10 HB
 obtain ⟨BK10, HB⟩ := q
 have p312 : 0 ≤ (x5_1 : Int) := of_decide_eq_true ψ2
 have q312 : x5_1 < (l1.length : Int) := of_decide_eq_true ψ2
 obtain ⟨ad312, e312, hx312_0, hx312_1⟩ := at_T100 HR1.out x5_1 p312 q312
 have hw312_1 := hx312_1
 have hw312_0 := hx312_0
 obtain rfl : ad308 = ad312 := (by injection e312)
 replace hx312_0 := (HB.out.cell (World.block_lt_of_cell? w _ hx312_0)).trans hx312_0
 replace hx312_1 := (HB.out.cell (World.block_lt_of_cell? w _ hx312_1)).trans hx312_1
 replace p312 := eq_true p312
 replace q312 := eq_true q312
 refine start_ (n := 8) (S := fun w' => w'.cell? ⟨gb10, 0, none⟩ = some (.int .i64 a0_0) ∧ w'.cell? ⟨gb10, 1, none⟩ = some (.slice A0_1 l0_1.length c0_1) ∧ w'.cell? ⟨gb10, 2, none⟩ = some (.slice A0_2 l0_2.length c0_2) ∧ w'.cell? ⟨gb10, 3, none⟩ = some (.int .i64 a0_3) ∧ w'.cell? ⟨gb10, 4, none⟩ = some (.slice A0_4 l0_4.length c0_4) ∧ w'.cell? ⟨gb10, 5, none⟩ = some (.slice A0_5 l0_5.length c0_5) ∧ w'.cell? (ad308.add ((x5_1).toNat * 2)) = some (.int .i64 ((rd_T100 l1 x5_1).f0)) ∧ w'.cell? ⟨(ad308.add ((x5_1).toNat * 2)).block, (ad308.add ((x5_1).toNat * 2)).off + 1, none⟩ = some (.int .i64 ((rd_T100 l1 x5_1).f1))) (ds := []) #[false, false, false, false, false, false, false, false] ψ14 rfl rfl ⟨(blk_cell BK10.out 0).trans rfl, (blk_cell BK10.out 1).trans rfl, (blk_cell BK10.out 2).trans rfl, (blk_cell BK10.out 3).trans rfl, (blk_cell BK10.out 4).trans rfl, (blk_cell BK10.out 5).trans rfl, ((HB.out.cell (World.block_lt_of_cell? w _ hw312_0)).trans hw312_0), ((HB.out.cell (World.block_lt_of_cell? w _ hw312_1)).trans hw312_1)⟩ (fun hHeld => ?_); refine with_tabW spec_l3Names.tab11 spec_l3Names.bits11 (fun HT_ HW_ => ?_)
 generalize wr.drew = w1_ at BK10 HB hx312_0 hx312_1 hHeld ⊢
 refine rP 0 32 ?_; refine rP 1 33 ?_; refine rP 2 34 ?_; refine rP 3 35 ?_; refine rT 4 36 ?_; refine rT 5 37 ?_
 refine one_ (i := 6) (N := some 38) #[true, true, true, true, true, true, true, false] rfl rfl (one_of HT_.out ψ14) ψ15 (fun K hK => ?_)
 refine goes_ Try.func105 ψ14 rfl #[.agg #[.int .i64 a0_0, .slice A0_1 l0_1.length c0_1, .slice A0_2 l0_2.length c0_2, .int .i64 a0_3, .slice A0_4 l0_4.length c0_4, .slice A0_5 l0_5.length c0_5]] ψ16 rfl rfl ψ17 ?_
 with_reducible refine (spec_l3Vars.calls a0_0 _ _ l0_1 _ _ l0_2 a0_3 _ _ l0_4 _ _ l0_5 _ _ ?_ ?_ ?_ ?_ ?_ ?_ ?_ ?_ A17.out).mono ?_
 exact ψ54; exact HC0_1.out; exact ψ55; exact HC0_2.out; exact ψ56; exact HC0_4.out; exact ψ57; exact HC0_5.out
 rintro e w2_ ⟨rfl, hb⟩
 refine ⟨_, rfl, ?_⟩
 have q := n2_ (blk_below (g := gb10) ψ23 hb) (below_step ψ52 hb)
 clear BK10 HB
 obtain ⟨BK10, HB⟩ := q
 (try clear hb)
 refine hK.out _ _ ⟨(blk_cell BK10.out 0).trans rfl, (blk_cell BK10.out 1).trans rfl, (blk_cell BK10.out 2).trans rfl, (blk_cell BK10.out 3).trans rfl, (blk_cell BK10.out 4).trans rfl, (blk_cell BK10.out 5).trans rfl, ((HB.out.cell (World.block_lt_of_cell? w _ hw312_0)).trans hw312_0), ((HB.out.cell (World.block_lt_of_cell? w _ hw312_1)).trans hw312_1)⟩ (fun hHeld => ?_)
 clear hK K
 refine rN 38 ?_; refine rP 7 39 ?_
 refine done_ (done_of HT_.out ψ14) ?_
 try go_wp2
 first | (go_ret; exact ⟨ψ9, ψ52⟩) | (go_roundg k1; (case measure => have := HK1.out; omega); (case rel => exact ⟨(wrap64 (x5_1 + 1)), ψ0, H', ⟨ψ53⟩, ⟨ψ23⟩, ⟨ψ52⟩⟩))) : P := h
set_option maxRecDepth 100000 in
theorem τ23 {P : Prop} (h : P := by
 first | obtain rfl := Option.some.inj H | (have H' := Aside0.mk H; clear H)
 have p308 : 0 ≤ (x5_1 : Int) := of_decide_eq_true ψ2
 have q308 : x5_1 < (l1.length : Int) := of_decide_eq_true ψ2
 obtain ⟨ad308, e308, hx308_0, hx308_1⟩ := at_T100 HR1.out x5_1 p308 q308
 cases e308
 replace hx308_0 := (HB.out.cell (World.block_lt_of_cell? w _ hx308_0)).trans hx308_0
 replace hx308_1 := (HB.out.cell (World.block_lt_of_cell? w _ hx308_1)).trans hx308_1
 replace p308 := eq_true p308
 replace q308 := eq_true q308
 try go_wp2
 have q := n2_ (blk_drew BK10.out) (below_drew1 HB.out)
 clear BK10 HB
 obtain ⟨BK10, HB⟩ := q
 have p315 : 0 ≤ (x5_1 : Int) := of_decide_eq_true ψ2
 have q315 : x5_1 < (l1.length : Int) := of_decide_eq_true ψ2
 obtain ⟨ad315, e315, hx315_0, hx315_1⟩ := at_T100 HR1.out x5_1 p315 q315
 have hw315_1 := hx315_1
 have hw315_0 := hx315_0
 obtain rfl : ad308 = ad315 := (by injection e315)
 replace hx315_0 := (HB.out.cell (World.block_lt_of_cell? w _ hx315_0)).trans hx315_0
 replace hx315_1 := (HB.out.cell (World.block_lt_of_cell? w _ hx315_1)).trans hx315_1
 replace p315 := eq_true p315
 replace q315 := eq_true q315
 refine start_ (n := 9) (S := fun w' => w'.cell? ⟨gb10, 0, none⟩ = some (.int .i64 a0_0) ∧ w'.cell? ⟨gb10, 1, none⟩ = some (.slice A0_1 l0_1.length c0_1) ∧ w'.cell? ⟨gb10, 2, none⟩ = some (.slice A0_2 l0_2.length c0_2) ∧ w'.cell? ⟨gb10, 3, none⟩ = some (.int .i64 a0_3) ∧ w'.cell? ⟨gb10, 4, none⟩ = some (.slice A0_4 l0_4.length c0_4) ∧ w'.cell? ⟨gb10, 5, none⟩ = some (.slice A0_5 l0_5.length c0_5) ∧ w'.cell? (ad308.add ((x5_1).toNat * 2)) = some (.int .i64 ((rd_T100 l1 x5_1).f0)) ∧ w'.cell? ⟨(ad308.add ((x5_1).toNat * 2)).block, (ad308.add ((x5_1).toNat * 2)).off + 1, none⟩ = some (.int .i64 ((rd_T100 l1 x5_1).f1))) (ds := []) #[false, false, false, false, false, false, false, false, false] ψ14 rfl rfl ⟨(blk_cell BK10.out 0).trans rfl, (blk_cell BK10.out 1).trans rfl, (blk_cell BK10.out 2).trans rfl, (blk_cell BK10.out 3).trans rfl, (blk_cell BK10.out 4).trans rfl, (blk_cell BK10.out 5).trans rfl, ((HB.out.cell (World.block_lt_of_cell? w _ hw315_0)).trans hw315_0), ((HB.out.cell (World.block_lt_of_cell? w _ hw315_1)).trans hw315_1)⟩ (fun hHeld => ?_); refine with_tabW spec_l3Names.tab14 spec_l3Names.bits14 (fun HT_ HW_ => ?_)
 generalize wr.drew = w1_ at BK10 HB hx315_0 hx315_1 hHeld ⊢
 refine rP 0 42 ?_; refine rP 1 43 ?_; refine rP 2 44 ?_; refine rP 3 45 ?_; refine rP 5 47 ?_; refine rT 4 46 ?_; refine rT 6 48 ?_; refine rP 7 49 ?_; refine rP 8 50 ?_
 refine done_ (done_of HT_.out ψ14) ?_
 try go_wp2
 first | (go_ret; exact ⟨ψ9, ψ52⟩) | (go_roundg k1; (case measure => have := HK1.out; omega); (case rel => exact ⟨(wrap64 (x5_1 + 1)), ψ0, H', ⟨ψ53⟩, ⟨ψ23⟩, ⟨ψ52⟩⟩))) : P := h
set_option maxHeartbeats 8000000 in
set_option maxRecDepth 100000 in
theorem spec_l3Names.calls (k : Nat) (a0_0 : Int) (A0_1 : Option Addr) (c0_1 : Nat) (l0_1 : List (S77)) (A0_2 : Option Addr) (c0_2 : Nat) (l0_2 : List (S77)) (a0_3 : Int) (A0_4 : Option Addr) (c0_4 : Nat) (l0_4 : List Int) (A0_5 : Option Addr) (c0_5 : Nat) (l0_5 : List (S42)) (A1 : Option Addr) (c1 : Nat) (l1 : List (S100)) (r : Bool) (w : World) (hr0_1 : Kd.C k77 w A0_1 l0_1.length l0_1) (hc0_1 : l0_1.length ≤ c0_1) (hr0_2 : Kd.C k77 w A0_2 l0_2.length l0_2) (hc0_2 : l0_2.length ≤ c0_2) (hr0_4 : Kd.C (Kd.int .i64) w A0_4 l0_4.length l0_4) (hc0_4 : l0_4.length ≤ c0_4) (hr0_5 : Kd.C k42 w A0_5 l0_5.length l0_5) (hc0_5 : l0_5.length ≤ c0_5) (hr1 : Kd.C k100 w A1 l1.length l1) (hc1 : l1.length ≤ c1) (h : spec_l3Names.f k a0_0 l0_1 l0_2 a0_3 l0_4 l0_5 l1 = some r) :
 Calls Try.prog 94 #[.agg #[.int .i64 a0_0, .slice A0_1 l0_1.length c0_1, .slice A0_2 l0_2.length c0_2, .int .i64 a0_3, .slice A0_4 l0_4.length c0_4, .slice A0_5 l0_5.length c0_5], .slice A1 l1.length c1] w fun e w' => e = .returned (.bool r) ∧ Below w.heap.size w w' := by
 have hu35 := Try.underlying35
 have HR0_1 := Aside0.mk hr0_1
 have HC0_1 := Aside0.mk hc0_1
 clear hr0_1 hc0_1
 have HR0_2 := Aside0.mk hr0_2
 have HC0_2 := Aside0.mk hc0_2
 clear hr0_2 hc0_2
 have HR0_4 := Aside0.mk hr0_4
 have HC0_4 := Aside0.mk hc0_4
 clear hr0_4 hc0_4
 have HR0_5 := Aside0.mk hr0_5
 have HC0_5 := Aside0.mk hc0_5
 clear hr0_5 hc0_5
 have HR1 := Aside0.mk hr1
 have HC1 := Aside0.mk hc1
 clear hr1 hc1
 have HB := Aside0.mk (Below.refl w.heap.size w)
 have H : ((spec_ExpOk.f k l1).bind fun t307 => (if t307 = true then (spec_l3Names.l0 k l1 0 a0_0 l0_1 l0_2 a0_3 l0_4 l0_5) else (some false))) = some r := h
 clear h
 replace H := Option.bind_eq_some_iff.mp H
 obtain ⟨t307, A30, H⟩ := H
 have A3 := Aside0.mk A30
 clear A30
 replace H := ifB H; rcases H with ⟨rfl, H⟩ | ⟨rfl, H⟩
 ·have H' := Aside0.mk H
  clear H
  go_enter Try.func94, Try.ntmps94
  go_wp2_with (first | ((with_reducible refine gate_dst (N := 2) rfl ?_); refine bE 2 #[.int .i64 a0_0, .slice A0_1 l0_1.length c0_1, .slice A0_2 l0_2.length c0_2, .int .i64 a0_3, .slice A0_4 l0_4.length c0_4, .slice A0_5 l0_5.length c0_5] 35 ?_; intro gb10 hg w5 hbox hb; have q := n4_ (below_step ψ52 hb) (hbox) ((ψ311 : w.heap.size ≤ gb10)) ((ψ311 : w.heap.size ≤ gb10)); clear HB; obtain ⟨HB, BK10, GW10, GE10⟩ := q; clear hb hbox hg) | ((with_reducible refine gate_callee (f := 104) rfl ?_); refine gL 7 Try.func104 #[.slice A1 l1.length c1] ?_; (with_reducible refine (spec_ExpOk.calls k _ _ l1 _ _ ?_ ?_ A3.out).mono ?_); exact ψ60; exact HC1.out; rintro e w6 ⟨rfl, hb⟩; refine ⟨_, rfl, ?_⟩; have q := n2_ (blk_below (g := gb10) ψ23 hb) (below_step ψ52 hb); clear BK10 HB; obtain ⟨BK10, HB⟩ := q; (try clear hb)))
  go_loopg [5] k (fun kq v5 w' => ∃ (x5_1 : Int), v5 = .int .i64 x5_1 ∧ Aside0 (spec_l3Names.l0 kq l1 x5_1 a0_0 l0_1 l0_2 a0_3 l0_4 l0_5 = some r) ∧ Aside0 (kq ≤ k) ∧ Aside0 (w'.heap[gb10]? = some (.cells #[.int .i64 a0_0, (.slice A0_1 l0_1.length c0_1), (.slice A0_2 l0_2.length c0_2), .int .i64 a0_3, (.slice A0_4 l0_4.length c0_4), (.slice A0_5 l0_5.length c0_5)] 35 (0, 0))) ∧ Aside0 (Below w.heap.size w w'))
  case atStart => exact ⟨(0), ψ0, H', ⟨Nat.le_refl _⟩, ⟨ψ23⟩, ⟨ψ52⟩⟩
  case round =>
   clear H'
   try clear c1
   try clear p2
   try clear c4
   obtain ⟨x5_1, rfl, HA, HK1, BK10, HB⟩ := hrel
   cases gk with
   | zero => exact absurd HA.out (by simp [spec_l3Names.l0])
   | succ k1 =>
    have H := HA.out
    clear HA
    simp only [spec_l3Names.l0] at H
    replace H := ifD H; rcases H with ⟨c7b0, H⟩ | ⟨c7b0, H⟩
    ·replace H := ifN H; obtain ⟨c8b0, H⟩ := H
     replace H := ifF H; rcases H with ⟨c9b0, c9b1, H⟩ | ⟨c9b0, c9b1, c9, H⟩
     ·replace H := Option.bind_eq_some_iff.mp H
      obtain ⟨t311, A100, H⟩ := H
      have A10 := Aside0.mk A100
      clear A100
      replace H := ifL H; rcases H with ⟨c11b0, H⟩ | ⟨c11b0, H⟩
      ·exact τ21
      ·exact τ21
     ·by_cases c16 : ((rd_T100 l1 x5_1).f0) = 1
      ·rw [if_pos c16] at H
       have c16b0 : (((rd_T100 l1 x5_1).f0) == 1) = true := beq_iff_eq.mpr c16
       have c16b1 : (((rd_T100 l1 x5_1).f0) != 1) = false := bne_eq_false_iff_eq.mpr c16
       clear c16
       replace H := Option.bind_eq_some_iff.mp H
       obtain ⟨t314, A170, H⟩ := H
       have A17 := Aside0.mk A170
       clear A170
       replace H := ifL H; rcases H with ⟨c18b0, H⟩ | ⟨c18b0, H⟩
       ·exact τ22
       ·exact τ22
      ·rw [if_neg c16] at H
       have c16b0 : (((rd_T100 l1 x5_1).f0) == 1) = false := beq_eq_false_iff_ne.mpr c16
       have c16b1 : (((rd_T100 l1 x5_1).f0) != 1) = true := bne_iff_ne.mpr c16
       replace H := ifF H; rcases H with ⟨c23b0, c23b1, H⟩ | ⟨c23b0, c23b1, c23, H⟩
       ·by_cases c24 : ((rd_T100 l1 x5_1).f1) ≥ (l0_4.length : Int)
        ·rw [if_pos c24] at H
         have c24b0 : decide ((l0_4.length : Int) ≤ ((rd_T100 l1 x5_1).f1)) = true := decide_eq_true c24
         clear c24
         exact τ23
        ·rw [if_neg c24] at H
         have c24b0 : decide ((l0_4.length : Int) ≤ ((rd_T100 l1 x5_1).f1)) = false := decide_eq_false c24
         clear c24
         exact τ23
       ·have H' := Aside0.mk H
        clear H
        have p308 : 0 ≤ (x5_1 : Int) := of_decide_eq_true ψ2
        have q308 : x5_1 < (l1.length : Int) := of_decide_eq_true ψ2
        obtain ⟨ad308, e308, hx308_0, hx308_1⟩ := at_T100 HR1.out x5_1 p308 q308
        cases e308
        replace hx308_0 := (HB.out.cell (World.block_lt_of_cell? w _ hx308_0)).trans hx308_0
        replace hx308_1 := (HB.out.cell (World.block_lt_of_cell? w _ hx308_1)).trans hx308_1
        replace p308 := eq_true p308
        replace q308 := eq_true q308
        go_wp2
        go_roundg k1
        case measure => have := HK1.out; omega
        case rel => exact ⟨(wrap64 (x5_1 + 1)), ψ0, H', ⟨ψ53⟩, ⟨ψ23⟩, ⟨ψ52⟩⟩
    ·obtain rfl := Option.some.inj H
     go_wp2
     go_ret
     exact ⟨ψ9, ψ52⟩
 ·obtain rfl := Option.some.inj H
  go_enter Try.func94, Try.ntmps94
  go_wp2_with (first | ((with_reducible refine gate_dst (N := 2) rfl ?_); refine bE 2 #[.int .i64 a0_0, .slice A0_1 l0_1.length c0_1, .slice A0_2 l0_2.length c0_2, .int .i64 a0_3, .slice A0_4 l0_4.length c0_4, .slice A0_5 l0_5.length c0_5] 35 ?_; intro gb10 hg w27 hbox hb; have q := n4_ (below_step ψ52 hb) (hbox) ((ψ311 : w.heap.size ≤ gb10)) ((ψ311 : w.heap.size ≤ gb10)); clear HB; obtain ⟨HB, BK10, GW10, GE10⟩ := q; clear hb hbox hg) | ((with_reducible refine gate_callee (f := 104) rfl ?_); refine gL 7 Try.func104 #[.slice A1 l1.length c1] ?_; (with_reducible refine (spec_ExpOk.calls k _ _ l1 _ _ ?_ ?_ A3.out).mono ?_); exact ψ60; exact HC1.out; rintro e w28 ⟨rfl, hb⟩; refine ⟨_, rfl, ?_⟩; have q := n2_ (blk_below (g := gb10) ψ23 hb) (below_step ψ52 hb); clear BK10 HB; obtain ⟨BK10, HB⟩ := q; (try clear hb)))
  go_ret
  exact ⟨ψ9, ψ52⟩

/-! ### spec_l3Exp: function 70 -/
def spec_l3Exp.l0 : Nat → List (S100) → Int → Int → List (S77) → List (S77) → Int → List Int → List (S42) → Option (Bool)
 | 0, _, _, _, _, _, _, _, _ => none
 | k + 1, x1, x5, x318000, x318001, x318002, x318003, x318004, x318005 => if x5 < (x1.length : Int) then (if 0 ≤ x5 then (if ((rd_T100 x1 x5).f0) = 17 then (some false) else (spec_l3Exp.l0 k x1 (wrap64 (x5 + 1)) x318000 x318001 x318002 x318003 x318004 x318005)) else (none)) else (if (x1.length : Int) ≤ 40 then ((spec_l3Names.f k x318000 x318001 x318002 x318003 x318004 x318005 x1).bind fun t320 => (some t320)) else (some false))
def spec_l3Exp.f (k : Nat) (a0_0 : Int) (l0_1 : List (S77)) (l0_2 : List (S77)) (a0_3 : Int) (l0_4 : List Int) (l0_5 : List (S42)) (l1 : List (S100)) : Option (Bool) := spec_l3Exp.l0 k l1 0 a0_0 l0_1 l0_2 a0_3 l0_4 l0_5
set_option maxRecDepth 100000 in
theorem τ24 {P : Prop} (h : P := by
 first | obtain rfl := Option.some.inj H | (have H' := Aside0.mk H; clear H)
 try (obtain ⟨hczB10_0, hczB10_1, hczB10_2, hczB10_3, hczB10_4, hczB10_5, hfzB10_0, hfzB10_1, hfzB10_2, hfzB10_3, hfzB10_4, hfzB10_5⟩ := cells6 BK10.out)
 try (have p318 : 0 ≤ (x5_1 : Int) := of_decide_eq_true ψ2; have q318 : x5_1 < (l1.length : Int) := of_decide_eq_true ψ2; obtain ⟨ad318, e318, hx318_0, hx318_1⟩ := at_T100 HR1.out x5_1 p318 q318; cases e318; replace hx318_0 := (HB.out.cell (World.block_lt_of_cell? w _ hx318_0)).trans hx318_0; replace hx318_1 := (HB.out.cell (World.block_lt_of_cell? w _ hx318_1)).trans hx318_1; replace p318 := eq_true p318; replace q318 := eq_true q318)
 go_wp2_with (first | (go_at_call 94; (with_reducible refine (spec_l3Names.calls k1 a0_0 _ _ l0_1 _ _ l0_2 a0_3 _ _ l0_4 _ _ l0_5 _ _ l1 _ _ ?_ ?_ ?_ ?_ ?_ ?_ ?_ ?_ ?_ ?_ A8.out).mono ?_); exact ψ54; exact HC0_1.out; exact ψ55; exact HC0_2.out; exact ψ56; exact HC0_4.out; exact ψ57; exact HC0_5.out; exact ψ60; exact HC1.out; rintro e w1_ ⟨rfl, hb⟩; have q := n2_ (blk_below (g := gb10) ψ23 hb) (below_step ψ52 hb); clear BK10 HB; obtain ⟨BK10, HB⟩ := q; (try clear hb)))
 first | (go_ret; exact ⟨ψ9, ψ52⟩) | (go_roundg k1; (case measure => have := HK1.out; omega); (case rel => exact ⟨(wrap64 (x5_1 + 1)), ψ0, H', ⟨ψ53⟩, ⟨ψ23⟩, ⟨ψ52⟩⟩))) : P := h
set_option maxHeartbeats 8000000 in
set_option maxRecDepth 100000 in
theorem spec_l3Exp.calls (k : Nat) (a0_0 : Int) (A0_1 : Option Addr) (c0_1 : Nat) (l0_1 : List (S77)) (A0_2 : Option Addr) (c0_2 : Nat) (l0_2 : List (S77)) (a0_3 : Int) (A0_4 : Option Addr) (c0_4 : Nat) (l0_4 : List Int) (A0_5 : Option Addr) (c0_5 : Nat) (l0_5 : List (S42)) (A1 : Option Addr) (c1 : Nat) (l1 : List (S100)) (r : Bool) (w : World) (hr0_1 : Kd.C k77 w A0_1 l0_1.length l0_1) (hc0_1 : l0_1.length ≤ c0_1) (hr0_2 : Kd.C k77 w A0_2 l0_2.length l0_2) (hc0_2 : l0_2.length ≤ c0_2) (hr0_4 : Kd.C (Kd.int .i64) w A0_4 l0_4.length l0_4) (hc0_4 : l0_4.length ≤ c0_4) (hr0_5 : Kd.C k42 w A0_5 l0_5.length l0_5) (hc0_5 : l0_5.length ≤ c0_5) (hr1 : Kd.C k100 w A1 l1.length l1) (hc1 : l1.length ≤ c1) (h : spec_l3Exp.f k a0_0 l0_1 l0_2 a0_3 l0_4 l0_5 l1 = some r) :
 Calls Try.prog 70 #[.agg #[.int .i64 a0_0, .slice A0_1 l0_1.length c0_1, .slice A0_2 l0_2.length c0_2, .int .i64 a0_3, .slice A0_4 l0_4.length c0_4, .slice A0_5 l0_5.length c0_5], .slice A1 l1.length c1] w fun e w' => e = .returned (.bool r) ∧ Below w.heap.size w w' := by
 have hu35 := Try.underlying35
 have HR0_1 := Aside0.mk hr0_1
 have HC0_1 := Aside0.mk hc0_1
 clear hr0_1 hc0_1
 have HR0_2 := Aside0.mk hr0_2
 have HC0_2 := Aside0.mk hc0_2
 clear hr0_2 hc0_2
 have HR0_4 := Aside0.mk hr0_4
 have HC0_4 := Aside0.mk hc0_4
 clear hr0_4 hc0_4
 have HR0_5 := Aside0.mk hr0_5
 have HC0_5 := Aside0.mk hc0_5
 clear hr0_5 hc0_5
 have HR1 := Aside0.mk hr1
 have HC1 := Aside0.mk hc1
 clear hr1 hc1
 have HB := Aside0.mk (Below.refl w.heap.size w)
 have H : (spec_l3Exp.l0 k l1 0 a0_0 l0_1 l0_2 a0_3 l0_4 l0_5) = some r := h
 clear h
 have H' := Aside0.mk H
 clear H
 go_enter Try.func70, Try.ntmps70
 go_wp2_with (first | ((with_reducible refine gate_dst (N := 2) rfl ?_); refine bE 2 #[.int .i64 a0_0, .slice A0_1 l0_1.length c0_1, .slice A0_2 l0_2.length c0_2, .int .i64 a0_3, .slice A0_4 l0_4.length c0_4, .slice A0_5 l0_5.length c0_5] 35 ?_; intro gb10 hg w3 hbox hb; have q := n4_ (below_step ψ52 hb) (hbox) ((ψ311 : w.heap.size ≤ gb10)) ((ψ311 : w.heap.size ≤ gb10)); clear HB; obtain ⟨HB, BK10, GW10, GE10⟩ := q; clear hb hbox hg))
 go_loopg [5] k (fun kq v5 w' => ∃ (x5_1 : Int), v5 = .int .i64 x5_1 ∧ Aside0 (spec_l3Exp.l0 kq l1 x5_1 a0_0 l0_1 l0_2 a0_3 l0_4 l0_5 = some r) ∧ Aside0 (kq ≤ k) ∧ Aside0 (w'.heap[gb10]? = some (.cells #[.int .i64 a0_0, (.slice A0_1 l0_1.length c0_1), (.slice A0_2 l0_2.length c0_2), .int .i64 a0_3, (.slice A0_4 l0_4.length c0_4), (.slice A0_5 l0_5.length c0_5)] 35 (0, 0))) ∧ Aside0 (Below w.heap.size w w'))
 case atStart => exact ⟨(0), ψ0, H', ⟨Nat.le_refl _⟩, ⟨ψ23⟩, ⟨ψ52⟩⟩
 case round =>
  clear H'
  try clear c1
  try clear p2
  obtain ⟨x5_1, rfl, HA, HK1, BK10, HB⟩ := hrel
  cases gk with
  | zero => exact absurd HA.out (by simp [spec_l3Exp.l0])
  | succ k1 =>
   have H := HA.out
   clear HA
   simp only [spec_l3Exp.l0] at H
   replace H := ifD H; rcases H with ⟨c4b0, H⟩ | ⟨c4b0, H⟩
   ·replace H := ifN H; obtain ⟨c5b0, H⟩ := H
    replace H := ifF H; rcases H with ⟨c6b0, c6b1, H⟩ | ⟨c6b0, c6b1, c6, H⟩
    ·exact τ24
    ·exact τ24
   ·by_cases c7 : (l1.length : Int) ≤ 40
    ·rw [if_pos c7] at H
     have c7b0 : decide ((l1.length : Int) ≤ 40) = true := decide_eq_true c7
     have c7b1 : decide (l1.length ≤ 40) = true := decide_eq_true ψ7
     clear c7
     replace H := Option.bind_eq_some_iff.mp H
     obtain ⟨t320, A80, H⟩ := H
     have A8 := Aside0.mk A80
     clear A80
     exact τ24
    ·rw [if_neg c7] at H
     have c7b0 : decide ((l1.length : Int) ≤ 40) = false := decide_eq_false c7
     have c7b1 : decide (l1.length ≤ 40) = false := decide_eq_false ψ7
     clear c7
     exact τ24

end Go.Proofs.Ytbjmhdoagjmmcaa.PCore

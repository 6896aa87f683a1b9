/- The walks of the functions that the laws come to, part 1: turned out of the kit's print, and mended where that fell. -/
import Derived.Test.YtakmkdlkipfnhaaPCoreg
import Derived.Test.YtakmkdlkipfnhaaPCoreg0
namespace Go.Proofs.Ytakmkdlkipfnhaa.PCore
open Go.RowKit Go.Proofs.YtakmkdlkipfnhaaW.PrintWords Go.Proofs.YtakmkdlkipfnhaaW.PrintLast Go.Proofs.YtakmkdlkipfnhaaW.PrintMore
attribute [local go_sem] max2_int min2_int max_two min_two max_three min_three max_four min_four   -- for this text's walks alone
set_option linter.unusedVariables false
set_option maxHeartbeats 8000000
set_option maxRecDepth 100000
set_option linter.unusedSimpArgs false

/-! ### spec_l3Inputs: function 130 -/
mutual
def spec_l3Inputs.l0 : Nat → List (S106) → Bool → Int → Int → List (S106) → List (S106) → Int → List Int → List (S114) → Option (Bool)
 | 0, _, _, _, _, _, _, _, _, _ => none
 | k + 1, x1, x2, x7, x136000, x136001, x136002, x136003, x136004, x136005 => if x7 < (x1.length : Int) then (if 0 ≤ x7 then ((spec_l3Size.f k x136000 x136001 x136002 x136003 x136004 x136005).bind fun t138 => ((spec_l1In.f ((rd_T106 x1 x7).f0) 0 (wrap64 (t138 - 1))).bind fun t139 => (if t139 = true then ((spec_l1In.f ((rd_T106 x1 x7).f1) 0 99).bind fun t141 => (if t141 = true then (if x2 = true then (spec_l3Inputs.j1 k x1 x2 x7 (((rd_T106 x1 x7).f1) != 0) x136000 x136001 x136002 x136003 x136004 x136005) else (spec_l3Inputs.j1 k x1 x2 x7 false x136000 x136001 x136002 x136003 x136004 x136005)) else (spec_l3Inputs.j1 k x1 x2 x7 true x136000 x136001 x136002 x136003 x136004 x136005))) else (spec_l3Inputs.j1 k x1 x2 x7 true x136000 x136001 x136002 x136003 x136004 x136005)))) else (none)) else (some (decide ((x1.length : Int) ≤ 3)))
def spec_l3Inputs.j1 : Nat → List (S106) → Bool → Int → Bool → Int → List (S106) → List (S106) → Int → List Int → List (S114) → Option (Bool)
 | 0, _, _, _, _, _, _, _, _, _, _ => none
 | k + 1, x1, x2, x7, x43, x136000, x136001, x136002, x136003, x136004, x136005 => if x43 = true then (some false) else (spec_l3Inputs.l0 k x1 x2 (wrap64 (x7 + 1)) x136000 x136001 x136002 x136003 x136004 x136005)
end
def spec_l3Inputs.f (k : Nat) (a0_0 : Int) (l0_1 : List (S106)) (l0_2 : List (S106)) (a0_3 : Int) (l0_4 : List Int) (l0_5 : List (S114)) (l1 : List (S106)) (a2 : Bool) : Option (Bool) := spec_l3Inputs.l0 k l1 a2 0 a0_0 l0_1 l0_2 a0_3 l0_4 l0_5
def spec_l3Inputs.T4 : Bool × List (List Nat × List Nat) := (true, [([], []), ([], []), ([0, 1], [0, 1]), ([2], [2]), ([3], [3]), ([], []), ([5], [5]), ([6], [6]), ([4, 7, 6], [4, 7]), ([8], [8]), ([9, 8], [9]), ([10], [10]), ([10], [10]), ([11, 12, 10], [10, 11, 12]), ([13, 10], [10, 13]), ([14, 10], [10, 14]), ([15, 10, 10], [10, 15]), ([16, 10], [10, 16]), ([10, 17], [10, 17]), ([18, 16], [18]), ([19], [19]), ([20, 19, 19], [19, 20]), ([21], [21]), ([21], [21]), ([22, 23, 21], [21, 22, 23]), ([24, 21], [21, 24]), ([25, 21], [21, 25]), ([26, 21], [21, 26]), ([21, 27, 19], [19, 21, 27]), ([19, 28], [19, 28])])
def spec_l3Inputs.B4 : List Nat := [0, 0, 3, 7, 15, 0, 32, 96, 255, 511, 1023, 2047, 2047, 8191, 16383, 32767, 65535, 131071, 262143, 524287, 1048575, 2097151, 4194303, 4194303, 16777215, 33554431, 67108863, 134217727, 268435455, 536870911]
theorem spec_l3Inputs.tab4 : rtab .any (opsOf Try.f130 4) = spec_l3Inputs.T4 := by kernel_rfl
theorem spec_l3Inputs.bits4 : waitsOk spec_l3Inputs.T4.2 spec_l3Inputs.B4 = true := by kernel_rfl
theorem spec_l3Inputs.calls (k : Nat) (a0_0 : Int) (A0_1 : Option Addr) (c0_1 : Nat) (l0_1 : List (S106)) (A0_2 : Option Addr) (c0_2 : Nat) (l0_2 : List (S106)) (a0_3 : Int) (A0_4 : Option Addr) (c0_4 : Nat) (l0_4 : List Int) (A0_5 : Option Addr) (c0_5 : Nat) (l0_5 : List (S114)) (A1 : Option Addr) (c1 : Nat) (l1 : List (S106)) (a2 : Bool) (r : Bool) (w : World) (hr0_1 : Kd.C k106 w A0_1 l0_1.length l0_1) (hc0_1 : l0_1.length ≤ c0_1) (hr0_2 : Kd.C k106 w A0_2 l0_2.length l0_2) (hc0_2 : l0_2.length ≤ c0_2) (hr0_4 : Kd.C (Kd.int .i64) w A0_4 l0_4.length l0_4) (hc0_4 : l0_4.length ≤ c0_4) (hr0_5 : Kd.C k114 w A0_5 l0_5.length l0_5) (hc0_5 : l0_5.length ≤ c0_5) (hr1 : Kd.C k106 w A1 l1.length l1) (hc1 : l1.length ≤ c1) (h : spec_l3Inputs.f k a0_0 l0_1 l0_2 a0_3 l0_4 l0_5 l1 a2 = some r) :
 Calls Try.prog 130 #[.agg #[.int .i64 a0_0, .slice A0_1 l0_1.length c0_1, .slice A0_2 l0_2.length c0_2, .int .i64 a0_3, .slice A0_4 l0_4.length c0_4, .slice A0_5 l0_5.length c0_5], .slice A1 l1.length c1, .bool a2] w fun e w' => e = .returned (.bool r) ∧ Below w.heap.size w w' := by
 have hu36 := Try.underlying36
 have q := n10_ hr0_1 hc0_1 hr0_2 hc0_2 hr0_4 hc0_4 hr0_5 hc0_5 hr1 hc1
 clear hr0_1 hc0_1 hr0_2 hc0_2 hr0_4 hc0_4 hr0_5 hc0_5 hr1 hc1
 obtain ⟨HR0_1, HC0_1, HR0_2, HC0_2, HR0_4, HC0_4, HR0_5, HC0_5, HR1, HC1⟩ := q
 have HB := Aside0.mk (Below.refl w.heap.size w)
 unfold spec_l3Inputs.f at h
 have H := h
 clear h
 have H' := Aside0.mk H
 clear H
 go_enter Try.func130, Try.ntmps130
 go_wp2_with (first | ((with_reducible refine gate_dst (N := 3) rfl ?_); refine bE 3 #[.int .i64 a0_0, .slice A0_1 l0_1.length c0_1, .slice A0_2 l0_2.length c0_2, .int .i64 a0_3, .slice A0_4 l0_4.length c0_4, .slice A0_5 l0_5.length c0_5] 36 ?_; intro gb10 hg w4 hbox hb; have q := n4_ (below_step ψ2 hb) (hbox) ((ψ113 : w.heap.size ≤ gb10)) ((ψ113 : w.heap.size ≤ gb10)); clear HB; obtain ⟨HB, BK10, GW10, GE10⟩ := q; clear hb hbox hg))
 go_loopg [7] k (fun kq v7 w' => ∃ (x7_1 : Int), v7 = .int .i64 x7_1 ∧ Aside0 (spec_l3Inputs.l0 kq l1 a2 x7_1 a0_0 l0_1 l0_2 a0_3 l0_4 l0_5 = some r) ∧ Aside0 (kq ≤ k) ∧ Aside0 (w'.heap[gb10]? = some (.cells #[.int .i64 a0_0, (.slice A0_1 l0_1.length c0_1), (.slice A0_2 l0_2.length c0_2), .int .i64 a0_3, (.slice A0_4 l0_4.length c0_4), (.slice A0_5 l0_5.length c0_5)] 36 (0, 0))) ∧ Aside0 (Below w.heap.size w w'))
 case atStart => exact ⟨(0), ψ7, H', ⟨Nat.le_refl _⟩, ⟨ψ10⟩, ⟨ψ2⟩⟩
 case round =>
  clear H'
  try clear c1
  obtain ⟨x7_1, rfl, HA, HK1, BK10, HB⟩ := hrel
  cases gk with
  | zero => exact absurd HA.out (by simp [spec_l3Inputs.l0])
  | succ k1 =>
   have H := HA.out
   clear HA
   simp only [spec_l3Inputs.l0] at H
   replace H := ifD H; rcases H with ⟨c5b0, H⟩ | ⟨c5b0, H⟩
   ·have HC6 := Aside0.mk H
    clear H
    go_upto_region 4 with (fail)
    go_cut [43] (fun v43 wc => ∃ (kq : Nat) (x43_5 : Bool), v43 = .bool x43_5 ∧ Aside0 (spec_l3Inputs.j1 kq l1 a2 x7_1 x43_5 a0_0 l0_1 l0_2 a0_3 l0_4 l0_5 = some r) ∧ Aside0 (kq ≤ k1) ∧ Aside0 (wc.heap[gb10]? = some (.cells #[.int .i64 a0_0, (.slice A0_1 l0_1.length c0_1), (.slice A0_2 l0_2.length c0_2), .int .i64 a0_3, (.slice A0_4 l0_4.length c0_4), (.slice A0_5 l0_5.length c0_5)] 36 (0, 0))) ∧ Aside0 (Below w.heap.size w wc))
    case first =>
     have H := HC6.out
     clear HC6
     replace H := ifN H; obtain ⟨c7b0, H⟩ := H
     (first | rw [c7b0] | (simp only [i64_w, i32_w]; rw [c7b0]) | skip)
     replace H := bS H; obtain ⟨t138, A8, H⟩ := H
     replace H := bS H; obtain ⟨t139, A9, H⟩ := H
     replace H := ifB H; rcases H with ⟨rfl, H⟩ | ⟨rfl, H⟩
     ·replace H := bS H; obtain ⟨t141, A11, H⟩ := H
      replace H := ifB H; rcases H with ⟨rfl, H⟩ | ⟨rfl, H⟩
      ·replace H := ifB H; rcases H with ⟨rfl, H⟩ | ⟨rfl, H⟩
       ·have H' := Aside0.mk H
        clear H
        try go_wp2
        have q := n2_ (blk_drew BK10.out) (below_drew1 HB.out)
        clear BK10 HB
        obtain ⟨BK10, HB⟩ := q
        have p136 : 0 ≤ (x7_1 : Int) := of_decide_eq_true ψ5
        have q136 : x7_1 < (l1.length : Int) := of_decide_eq_true ψ5
        obtain ⟨ad136, e136, hx136_0, hx136_1⟩ := at_T106 HR1.out x7_1 p136 q136
        have hw136_1 := hx136_1
        have hw136_0 := hx136_0
        cases e136
        replace hx136_0 := cB HB hx136_0
        replace hx136_1 := cB HB hx136_1
        replace p136 := eq_true p136
        replace q136 := eq_true q136
        have p140 : 0 ≤ (x7_1 : Int) := of_decide_eq_true ψ5
        have q140 : x7_1 < (l1.length : Int) := of_decide_eq_true ψ5
        obtain ⟨ad140, e140, hx140_0, hx140_1⟩ := at_T106 HR1.out x7_1 p140 q140
        have hw140_1 := hx140_1
        have hw140_0 := hx140_0
        obtain rfl : ad136 = ad140 := (by injection e140)
        replace hx140_0 := cB HB hx140_0
        replace hx140_1 := cB HB hx140_1
        replace p140 := eq_true p140
        replace q140 := eq_true q140
        have p142 : 0 ≤ (x7_1 : Int) := of_decide_eq_true ψ5
        have q142 : x7_1 < (l1.length : Int) := of_decide_eq_true ψ5
        obtain ⟨ad142, e142, hx142_0, hx142_1⟩ := at_T106 HR1.out x7_1 p142 q142
        have hw142_1 := hx142_1
        have hw142_0 := hx142_0
        obtain rfl : ad136 = ad142 := (by injection e142)
        replace hx142_0 := cB HB hx142_0
        replace hx142_1 := cB HB hx142_1
        replace p142 := eq_true p142
        replace q142 := eq_true q142
        refine start_ (n := 30) (S := fun w' => w'.cell? ⟨gb10, 0, none⟩ = some (.int .i64 a0_0) ∧ w'.cell? ⟨gb10, 1, none⟩ = some (.slice A0_1 l0_1.length c0_1) ∧ w'.cell? ⟨gb10, 2, none⟩ = some (.slice A0_2 l0_2.length c0_2) ∧ w'.cell? ⟨gb10, 3, none⟩ = some (.int .i64 a0_3) ∧ w'.cell? ⟨gb10, 4, none⟩ = some (.slice A0_4 l0_4.length c0_4) ∧ w'.cell? ⟨gb10, 5, none⟩ = some (.slice A0_5 l0_5.length c0_5) ∧ w'.cell? (ad136.add ((x7_1).toNat * 2)) = some (.int .i64 ((rd_T106 l1 x7_1).f0)) ∧ w'.cell? ⟨(ad136.add ((x7_1).toNat * 2)).block, (ad136.add ((x7_1).toNat * 2)).off + 1, none⟩ = some (.int .i64 ((rd_T106 l1 x7_1).f1)) ∧ w'.cell? (ad136.add ((x7_1).toNat * 2)) = some (.int .i64 ((rd_T106 l1 x7_1).f0)) ∧ w'.cell? ⟨(ad136.add ((x7_1).toNat * 2)).block, (ad136.add ((x7_1).toNat * 2)).off + 1, none⟩ = some (.int .i64 ((rd_T106 l1 x7_1).f1)) ∧ w'.cell? (ad136.add ((x7_1).toNat * 2)) = some (.int .i64 ((rd_T106 l1 x7_1).f0)) ∧ w'.cell? ⟨(ad136.add ((x7_1).toNat * 2)).block, (ad136.add ((x7_1).toNat * 2)).off + 1, none⟩ = some (.int .i64 ((rd_T106 l1 x7_1).f1))) (ds := []) #[false, false, false, false, false, false, false, false, false, false, false, false, false, false, false, false, false, false, false, false, false, false, false, false, false, false, false, false, false, false] ψ12 rfl rfl ⟨(blk_cell BK10.out 0).trans rfl, (blk_cell BK10.out 1).trans rfl, (blk_cell BK10.out 2).trans rfl, (blk_cell BK10.out 3).trans rfl, (blk_cell BK10.out 4).trans rfl, (blk_cell BK10.out 5).trans rfl, ((HB.out.cell (World.block_lt_of_cell? w _ hw136_0)).trans hw136_0), ((HB.out.cell (World.block_lt_of_cell? w _ hw136_1)).trans hw136_1), ((HB.out.cell (World.block_lt_of_cell? w _ hw140_0)).trans hw140_0), ((HB.out.cell (World.block_lt_of_cell? w _ hw140_1)).trans hw140_1), ((HB.out.cell (World.block_lt_of_cell? w _ hw142_0)).trans hw142_0), ((HB.out.cell (World.block_lt_of_cell? w _ hw142_1)).trans hw142_1)⟩ (fun hHeld => ?_); refine with_tabW spec_l3Inputs.tab4 spec_l3Inputs.bits4 (fun HT_ HW_ => ?_)
        generalize wr.drew = w14 at BK10 HB hx136_0 hx136_1 hx140_0 hx140_1 hx142_0 hx142_1 hHeld ⊢
        refine rP 0 14 ?_; refine rP 1 15 ?_; refine rP 2 16 ?_; refine rP 3 17 ?_; refine rT 4 18 ?_; refine rT 5 19 ?_
        refine one_ (i := 6) (N := some 20) #[true, true, true, true, true, true, true, false, false, false, false, false, false, false, false, false, false, false, false, false, false, false, false, false, false, false, false, false, false, false] rfl rfl (one_of HT_.out ψ12) ψ13 (fun K hK => ?_)
        refine goes_ Try.func70 ψ12 rfl #[.agg #[.int .i64 a0_0, .slice A0_1 l0_1.length c0_1, .slice A0_2 l0_2.length c0_2, .int .i64 a0_3, .slice A0_4 l0_4.length c0_4, .slice A0_5 l0_5.length c0_5]] ψ14 rfl rfl ψ15 ?_
        with_reducible refine (spec_l3Size.calls k1 a0_0 _ _ l0_1 _ _ l0_2 a0_3 _ _ l0_4 _ _ l0_5 _ _ ?_ ?_ ?_ ?_ ?_ ?_ ?_ ?_ A8.out).mono ?_
        exact ψ9; exact HC0_1.out; exact ψ3; exact HC0_2.out; exact ψ16; exact HC0_4.out; exact ψ17; exact HC0_5.out
        rintro e w15 ⟨rfl, hb⟩
        refine ⟨_, rfl, ?_⟩
        have q := n2_ (blk_below (g := gb10) ψ10 hb) (below_step ψ2 hb)
        clear BK10 HB
        obtain ⟨BK10, HB⟩ := q
        (try clear hb)
        refine hK.out _ _ ⟨(blk_cell BK10.out 0).trans rfl, (blk_cell BK10.out 1).trans rfl, (blk_cell BK10.out 2).trans rfl, (blk_cell BK10.out 3).trans rfl, (blk_cell BK10.out 4).trans rfl, (blk_cell BK10.out 5).trans rfl, ((HB.out.cell (World.block_lt_of_cell? w _ hw136_0)).trans hw136_0), ((HB.out.cell (World.block_lt_of_cell? w _ hw136_1)).trans hw136_1), ((HB.out.cell (World.block_lt_of_cell? w _ hw140_0)).trans hw140_0), ((HB.out.cell (World.block_lt_of_cell? w _ hw140_1)).trans hw140_1), ((HB.out.cell (World.block_lt_of_cell? w _ hw142_0)).trans hw142_0), ((HB.out.cell (World.block_lt_of_cell? w _ hw142_1)).trans hw142_1)⟩ (fun hHeld => ?_)
        clear hK K
        refine rN 20 ?_; refine rP 7 21 ?_
        refine one_ (i := 8) (N := some 22) #[true, true, true, true, true, true, true, true, true, false, false, false, false, false, false, false, false, false, false, false, false, false, false, false, false, false, false, false, false, false] rfl rfl (one_of HT_.out ψ12) ψ13 (fun K hK => ?_)
        refine goes_ Try.func79 ψ12 rfl #[.int .i64 ((rd_T106 l1 x7_1).f0), .int .i64 0, .int .i64 (wrap64 (t138 - 1))] ψ14 rfl rfl ψ15 ?_
        with_reducible refine (spec_l1In.calls ((rd_T106 l1 x7_1).f0) 0 (wrap64 (t138 - 1)) _ _ A9.out).mono ?_
        rintro e w' ⟨rfl, ⟨nd, rfl⟩⟩
        refine ⟨_, rfl, ?_⟩
        refine hK.out _ _ ⟨(blk_cell BK10.out 0).trans rfl, (blk_cell BK10.out 1).trans rfl, (blk_cell BK10.out 2).trans rfl, (blk_cell BK10.out 3).trans rfl, (blk_cell BK10.out 4).trans rfl, (blk_cell BK10.out 5).trans rfl, ((HB.out.cell (World.block_lt_of_cell? w _ hw136_0)).trans hw136_0), ((HB.out.cell (World.block_lt_of_cell? w _ hw136_1)).trans hw136_1), ((HB.out.cell (World.block_lt_of_cell? w _ hw140_0)).trans hw140_0), ((HB.out.cell (World.block_lt_of_cell? w _ hw140_1)).trans hw140_1), ((HB.out.cell (World.block_lt_of_cell? w _ hw142_0)).trans hw142_0), ((HB.out.cell (World.block_lt_of_cell? w _ hw142_1)).trans hw142_1)⟩ (fun hHeld => ?_)
        clear hK K
        refine rN 22 ?_; refine rP 9 23 ?_; refine rP 10 24 ?_; refine rP 11 25 ?_; refine rP 12 26 ?_; refine rP 13 27 ?_; refine rP 14 28 ?_; refine rT 15 29 ?_
        refine one_ (i := 16) (N := some 30) #[true, true, true, true, true, true, true, true, true, true, true, true, true, true, true, true, true, false, false, false, false, false, false, false, false, false, false, false, false, false] rfl rfl (one_of HT_.out ψ12) ψ13 (fun K hK => ?_)
        refine goes_ Try.func79 ψ12 rfl #[.int .i64 ((rd_T106 l1 x7_1).f1), .int .i64 0, .int .i64 99] ψ14 rfl rfl ψ15 ?_
        with_reducible refine (spec_l1In.calls ((rd_T106 l1 x7_1).f1) 0 99 _ _ A11.out).mono ?_
        rintro e w' ⟨rfl, ⟨nd, rfl⟩⟩
        refine ⟨_, rfl, ?_⟩
        refine hK.out _ _ ⟨(blk_cell BK10.out 0).trans rfl, (blk_cell BK10.out 1).trans rfl, (blk_cell BK10.out 2).trans rfl, (blk_cell BK10.out 3).trans rfl, (blk_cell BK10.out 4).trans rfl, (blk_cell BK10.out 5).trans rfl, ((HB.out.cell (World.block_lt_of_cell? w _ hw136_0)).trans hw136_0), ((HB.out.cell (World.block_lt_of_cell? w _ hw136_1)).trans hw136_1), ((HB.out.cell (World.block_lt_of_cell? w _ hw140_0)).trans hw140_0), ((HB.out.cell (World.block_lt_of_cell? w _ hw140_1)).trans hw140_1), ((HB.out.cell (World.block_lt_of_cell? w _ hw142_0)).trans hw142_0), ((HB.out.cell (World.block_lt_of_cell? w _ hw142_1)).trans hw142_1)⟩ (fun hHeld => ?_)
        clear hK K
        refine rN 30 ?_; refine rP 17 31 ?_; refine rP 18 32 ?_; refine rP 19 33 ?_; refine rP 20 34 ?_; refine rP 21 35 ?_; refine rP 22 36 ?_; refine rP 23 37 ?_; refine rP 24 38 ?_; refine rP 25 39 ?_; refine rT 26 40 ?_; refine rP 27 41 ?_; refine rP 28 42 ?_; refine rP 29 43 ?_
        refine done_ (done_of HT_.out ψ12) ?_
        try go_wp2
        go_meet
        case rel => exact ⟨_, ((((rd_T106 l1 x7_1).f1) != 0)), ψ7, H', ⟨ψ18⟩, ⟨ψ10⟩, ⟨ψ2⟩⟩
       ·have H' := Aside0.mk H
        clear H
        try go_wp2
        have q := n2_ (blk_drew BK10.out) (below_drew1 HB.out)
        clear BK10 HB
        obtain ⟨BK10, HB⟩ := q
        have p136 : 0 ≤ (x7_1 : Int) := of_decide_eq_true ψ5
        have q136 : x7_1 < (l1.length : Int) := of_decide_eq_true ψ5
        obtain ⟨ad136, e136, hx136_0, hx136_1⟩ := at_T106 HR1.out x7_1 p136 q136
        have hw136_1 := hx136_1
        have hw136_0 := hx136_0
        cases e136
        replace hx136_0 := cB HB hx136_0
        replace hx136_1 := cB HB hx136_1
        replace p136 := eq_true p136
        replace q136 := eq_true q136
        have p140 : 0 ≤ (x7_1 : Int) := of_decide_eq_true ψ5
        have q140 : x7_1 < (l1.length : Int) := of_decide_eq_true ψ5
        obtain ⟨ad140, e140, hx140_0, hx140_1⟩ := at_T106 HR1.out x7_1 p140 q140
        have hw140_1 := hx140_1
        have hw140_0 := hx140_0
        obtain rfl : ad136 = ad140 := (by injection e140)
        replace hx140_0 := cB HB hx140_0
        replace hx140_1 := cB HB hx140_1
        replace p140 := eq_true p140
        replace q140 := eq_true q140
        refine start_ (n := 30) (S := fun w' => w'.cell? ⟨gb10, 0, none⟩ = some (.int .i64 a0_0) ∧ w'.cell? ⟨gb10, 1, none⟩ = some (.slice A0_1 l0_1.length c0_1) ∧ w'.cell? ⟨gb10, 2, none⟩ = some (.slice A0_2 l0_2.length c0_2) ∧ w'.cell? ⟨gb10, 3, none⟩ = some (.int .i64 a0_3) ∧ w'.cell? ⟨gb10, 4, none⟩ = some (.slice A0_4 l0_4.length c0_4) ∧ w'.cell? ⟨gb10, 5, none⟩ = some (.slice A0_5 l0_5.length c0_5) ∧ w'.cell? (ad136.add ((x7_1).toNat * 2)) = some (.int .i64 ((rd_T106 l1 x7_1).f0)) ∧ w'.cell? ⟨(ad136.add ((x7_1).toNat * 2)).block, (ad136.add ((x7_1).toNat * 2)).off + 1, none⟩ = some (.int .i64 ((rd_T106 l1 x7_1).f1)) ∧ w'.cell? (ad136.add ((x7_1).toNat * 2)) = some (.int .i64 ((rd_T106 l1 x7_1).f0)) ∧ w'.cell? ⟨(ad136.add ((x7_1).toNat * 2)).block, (ad136.add ((x7_1).toNat * 2)).off + 1, none⟩ = some (.int .i64 ((rd_T106 l1 x7_1).f1))) (ds := []) #[false, false, false, false, false, false, false, false, false, false, false, false, false, false, false, false, false, false, false, false, false, false, false, false, false, false, false, false, false, false] ψ12 rfl rfl ⟨(blk_cell BK10.out 0).trans rfl, (blk_cell BK10.out 1).trans rfl, (blk_cell BK10.out 2).trans rfl, (blk_cell BK10.out 3).trans rfl, (blk_cell BK10.out 4).trans rfl, (blk_cell BK10.out 5).trans rfl, ((HB.out.cell (World.block_lt_of_cell? w _ hw136_0)).trans hw136_0), ((HB.out.cell (World.block_lt_of_cell? w _ hw136_1)).trans hw136_1), ((HB.out.cell (World.block_lt_of_cell? w _ hw140_0)).trans hw140_0), ((HB.out.cell (World.block_lt_of_cell? w _ hw140_1)).trans hw140_1)⟩ (fun hHeld => ?_); refine with_tabW spec_l3Inputs.tab4 spec_l3Inputs.bits4 (fun HT_ HW_ => ?_)
        generalize wr.drew = w16 at BK10 HB hx136_0 hx136_1 hx140_0 hx140_1 hHeld ⊢
        refine rP 0 14 ?_; refine rP 1 15 ?_; refine rP 2 16 ?_; refine rP 3 17 ?_; refine rT 4 18 ?_; refine rT 5 19 ?_
        refine one_ (i := 6) (N := some 20) #[true, true, true, true, true, true, true, false, false, false, false, false, false, false, false, false, false, false, false, false, false, false, false, false, false, false, false, false, false, false] rfl rfl (one_of HT_.out ψ12) ψ13 (fun K hK => ?_)
        refine goes_ Try.func70 ψ12 rfl #[.agg #[.int .i64 a0_0, .slice A0_1 l0_1.length c0_1, .slice A0_2 l0_2.length c0_2, .int .i64 a0_3, .slice A0_4 l0_4.length c0_4, .slice A0_5 l0_5.length c0_5]] ψ14 rfl rfl ψ15 ?_
        with_reducible refine (spec_l3Size.calls k1 a0_0 _ _ l0_1 _ _ l0_2 a0_3 _ _ l0_4 _ _ l0_5 _ _ ?_ ?_ ?_ ?_ ?_ ?_ ?_ ?_ A8.out).mono ?_
        exact ψ9; exact HC0_1.out; exact ψ3; exact HC0_2.out; exact ψ16; exact HC0_4.out; exact ψ17; exact HC0_5.out
        rintro e w17 ⟨rfl, hb⟩
        refine ⟨_, rfl, ?_⟩
        have q := n2_ (blk_below (g := gb10) ψ10 hb) (below_step ψ2 hb)
        clear BK10 HB
        obtain ⟨BK10, HB⟩ := q
        (try clear hb)
        refine hK.out _ _ ⟨(blk_cell BK10.out 0).trans rfl, (blk_cell BK10.out 1).trans rfl, (blk_cell BK10.out 2).trans rfl, (blk_cell BK10.out 3).trans rfl, (blk_cell BK10.out 4).trans rfl, (blk_cell BK10.out 5).trans rfl, ((HB.out.cell (World.block_lt_of_cell? w _ hw136_0)).trans hw136_0), ((HB.out.cell (World.block_lt_of_cell? w _ hw136_1)).trans hw136_1), ((HB.out.cell (World.block_lt_of_cell? w _ hw140_0)).trans hw140_0), ((HB.out.cell (World.block_lt_of_cell? w _ hw140_1)).trans hw140_1)⟩ (fun hHeld => ?_)
        clear hK K
        refine rN 20 ?_; refine rP 7 21 ?_
        refine one_ (i := 8) (N := some 22) #[true, true, true, true, true, true, true, true, true, false, false, false, false, false, false, false, false, false, false, false, false, false, false, false, false, false, false, false, false, false] rfl rfl (one_of HT_.out ψ12) ψ13 (fun K hK => ?_)
        refine goes_ Try.func79 ψ12 rfl #[.int .i64 ((rd_T106 l1 x7_1).f0), .int .i64 0, .int .i64 (wrap64 (t138 - 1))] ψ14 rfl rfl ψ15 ?_
        with_reducible refine (spec_l1In.calls ((rd_T106 l1 x7_1).f0) 0 (wrap64 (t138 - 1)) _ _ A9.out).mono ?_
        rintro e w' ⟨rfl, ⟨nd, rfl⟩⟩
        refine ⟨_, rfl, ?_⟩
        refine hK.out _ _ ⟨(blk_cell BK10.out 0).trans rfl, (blk_cell BK10.out 1).trans rfl, (blk_cell BK10.out 2).trans rfl, (blk_cell BK10.out 3).trans rfl, (blk_cell BK10.out 4).trans rfl, (blk_cell BK10.out 5).trans rfl, ((HB.out.cell (World.block_lt_of_cell? w _ hw136_0)).trans hw136_0), ((HB.out.cell (World.block_lt_of_cell? w _ hw136_1)).trans hw136_1), ((HB.out.cell (World.block_lt_of_cell? w _ hw140_0)).trans hw140_0), ((HB.out.cell (World.block_lt_of_cell? w _ hw140_1)).trans hw140_1)⟩ (fun hHeld => ?_)
        clear hK K
        refine rN 22 ?_; refine rP 9 23 ?_; refine rP 10 24 ?_; refine rP 11 25 ?_; refine rP 12 26 ?_; refine rP 13 27 ?_; refine rP 14 28 ?_; refine rT 15 29 ?_
        refine one_ (i := 16) (N := some 30) #[true, true, true, true, true, true, true, true, true, true, true, true, true, true, true, true, true, false, false, false, false, false, false, false, false, false, false, false, false, false] rfl rfl (one_of HT_.out ψ12) ψ13 (fun K hK => ?_)
        refine goes_ Try.func79 ψ12 rfl #[.int .i64 ((rd_T106 l1 x7_1).f1), .int .i64 0, .int .i64 99] ψ14 rfl rfl ψ15 ?_
        with_reducible refine (spec_l1In.calls ((rd_T106 l1 x7_1).f1) 0 99 _ _ A11.out).mono ?_
        rintro e w' ⟨rfl, ⟨nd, rfl⟩⟩
        refine ⟨_, rfl, ?_⟩
        refine hK.out _ _ ⟨(blk_cell BK10.out 0).trans rfl, (blk_cell BK10.out 1).trans rfl, (blk_cell BK10.out 2).trans rfl, (blk_cell BK10.out 3).trans rfl, (blk_cell BK10.out 4).trans rfl, (blk_cell BK10.out 5).trans rfl, ((HB.out.cell (World.block_lt_of_cell? w _ hw136_0)).trans hw136_0), ((HB.out.cell (World.block_lt_of_cell? w _ hw136_1)).trans hw136_1), ((HB.out.cell (World.block_lt_of_cell? w _ hw140_0)).trans hw140_0), ((HB.out.cell (World.block_lt_of_cell? w _ hw140_1)).trans hw140_1)⟩ (fun hHeld => ?_)
        clear hK K
        refine rN 30 ?_; refine rP 17 31 ?_; refine rP 18 32 ?_; refine rP 19 33 ?_; refine rP 20 34 ?_; refine rP 21 35 ?_; refine rU 22 36 ?_; refine rU 23 37 ?_; refine rU 24 38 ?_; refine rU 25 39 ?_; refine rU 26 40 ?_; refine rU 27 41 ?_; refine rP 28 42 ?_; refine rP 29 43 ?_
        refine done_ (done_of HT_.out ψ12) ?_
        try go_wp2
        go_meet
        case rel => exact ⟨_, (false), ψ7, H', ⟨ψ18⟩, ⟨ψ10⟩, ⟨ψ2⟩⟩
      ·have H' := Aside0.mk H
       clear H
       try go_wp2
       have q := n2_ (blk_drew BK10.out) (below_drew1 HB.out)
       clear BK10 HB
       obtain ⟨BK10, HB⟩ := q
       have p136 : 0 ≤ (x7_1 : Int) := of_decide_eq_true ψ5
       have q136 : x7_1 < (l1.length : Int) := of_decide_eq_true ψ5
       obtain ⟨ad136, e136, hx136_0, hx136_1⟩ := at_T106 HR1.out x7_1 p136 q136
       have hw136_1 := hx136_1
       have hw136_0 := hx136_0
       cases e136
       replace hx136_0 := cB HB hx136_0
       replace hx136_1 := cB HB hx136_1
       replace p136 := eq_true p136
       replace q136 := eq_true q136
       have p140 : 0 ≤ (x7_1 : Int) := of_decide_eq_true ψ5
       have q140 : x7_1 < (l1.length : Int) := of_decide_eq_true ψ5
       obtain ⟨ad140, e140, hx140_0, hx140_1⟩ := at_T106 HR1.out x7_1 p140 q140
       have hw140_1 := hx140_1
       have hw140_0 := hx140_0
       obtain rfl : ad136 = ad140 := (by injection e140)
       replace hx140_0 := cB HB hx140_0
       replace hx140_1 := cB HB hx140_1
       replace p140 := eq_true p140
       replace q140 := eq_true q140
       refine start_ (n := 30) (S := fun w' => w'.cell? ⟨gb10, 0, none⟩ = some (.int .i64 a0_0) ∧ w'.cell? ⟨gb10, 1, none⟩ = some (.slice A0_1 l0_1.length c0_1) ∧ w'.cell? ⟨gb10, 2, none⟩ = some (.slice A0_2 l0_2.length c0_2) ∧ w'.cell? ⟨gb10, 3, none⟩ = some (.int .i64 a0_3) ∧ w'.cell? ⟨gb10, 4, none⟩ = some (.slice A0_4 l0_4.length c0_4) ∧ w'.cell? ⟨gb10, 5, none⟩ = some (.slice A0_5 l0_5.length c0_5) ∧ w'.cell? (ad136.add ((x7_1).toNat * 2)) = some (.int .i64 ((rd_T106 l1 x7_1).f0)) ∧ w'.cell? ⟨(ad136.add ((x7_1).toNat * 2)).block, (ad136.add ((x7_1).toNat * 2)).off + 1, none⟩ = some (.int .i64 ((rd_T106 l1 x7_1).f1)) ∧ w'.cell? (ad136.add ((x7_1).toNat * 2)) = some (.int .i64 ((rd_T106 l1 x7_1).f0)) ∧ w'.cell? ⟨(ad136.add ((x7_1).toNat * 2)).block, (ad136.add ((x7_1).toNat * 2)).off + 1, none⟩ = some (.int .i64 ((rd_T106 l1 x7_1).f1))) (ds := []) #[false, false, false, false, false, false, false, false, false, false, false, false, false, false, false, false, false, false, false, false, false, false, false, false, false, false, false, false, false, false] ψ12 rfl rfl ⟨(blk_cell BK10.out 0).trans rfl, (blk_cell BK10.out 1).trans rfl, (blk_cell BK10.out 2).trans rfl, (blk_cell BK10.out 3).trans rfl, (blk_cell BK10.out 4).trans rfl, (blk_cell BK10.out 5).trans rfl, ((HB.out.cell (World.block_lt_of_cell? w _ hw136_0)).trans hw136_0), ((HB.out.cell (World.block_lt_of_cell? w _ hw136_1)).trans hw136_1), ((HB.out.cell (World.block_lt_of_cell? w _ hw140_0)).trans hw140_0), ((HB.out.cell (World.block_lt_of_cell? w _ hw140_1)).trans hw140_1)⟩ (fun hHeld => ?_); refine with_tabW spec_l3Inputs.tab4 spec_l3Inputs.bits4 (fun HT_ HW_ => ?_)
       generalize wr.drew = w18 at BK10 HB hx136_0 hx136_1 hx140_0 hx140_1 hHeld ⊢
       refine rP 0 14 ?_; refine rP 1 15 ?_; refine rP 2 16 ?_; refine rP 3 17 ?_; refine rT 4 18 ?_; refine rT 5 19 ?_
       refine one_ (i := 6) (N := some 20) #[true, true, true, true, true, true, true, false, false, false, false, false, false, false, false, false, false, false, false, false, false, false, false, false, false, false, false, false, false, false] rfl rfl (one_of HT_.out ψ12) ψ13 (fun K hK => ?_)
       refine goes_ Try.func70 ψ12 rfl #[.agg #[.int .i64 a0_0, .slice A0_1 l0_1.length c0_1, .slice A0_2 l0_2.length c0_2, .int .i64 a0_3, .slice A0_4 l0_4.length c0_4, .slice A0_5 l0_5.length c0_5]] ψ14 rfl rfl ψ15 ?_
       with_reducible refine (spec_l3Size.calls k1 a0_0 _ _ l0_1 _ _ l0_2 a0_3 _ _ l0_4 _ _ l0_5 _ _ ?_ ?_ ?_ ?_ ?_ ?_ ?_ ?_ A8.out).mono ?_
       exact ψ9; exact HC0_1.out; exact ψ3; exact HC0_2.out; exact ψ16; exact HC0_4.out; exact ψ17; exact HC0_5.out
       rintro e w19 ⟨rfl, hb⟩
       refine ⟨_, rfl, ?_⟩
       have q := n2_ (blk_below (g := gb10) ψ10 hb) (below_step ψ2 hb)
       clear BK10 HB
       obtain ⟨BK10, HB⟩ := q
       (try clear hb)
       refine hK.out _ _ ⟨(blk_cell BK10.out 0).trans rfl, (blk_cell BK10.out 1).trans rfl, (blk_cell BK10.out 2).trans rfl, (blk_cell BK10.out 3).trans rfl, (blk_cell BK10.out 4).trans rfl, (blk_cell BK10.out 5).trans rfl, ((HB.out.cell (World.block_lt_of_cell? w _ hw136_0)).trans hw136_0), ((HB.out.cell (World.block_lt_of_cell? w _ hw136_1)).trans hw136_1), ((HB.out.cell (World.block_lt_of_cell? w _ hw140_0)).trans hw140_0), ((HB.out.cell (World.block_lt_of_cell? w _ hw140_1)).trans hw140_1)⟩ (fun hHeld => ?_)
       clear hK K
       refine rN 20 ?_; refine rP 7 21 ?_
       refine one_ (i := 8) (N := some 22) #[true, true, true, true, true, true, true, true, true, false, false, false, false, false, false, false, false, false, false, false, false, false, false, false, false, false, false, false, false, false] rfl rfl (one_of HT_.out ψ12) ψ13 (fun K hK => ?_)
       refine goes_ Try.func79 ψ12 rfl #[.int .i64 ((rd_T106 l1 x7_1).f0), .int .i64 0, .int .i64 (wrap64 (t138 - 1))] ψ14 rfl rfl ψ15 ?_
       with_reducible refine (spec_l1In.calls ((rd_T106 l1 x7_1).f0) 0 (wrap64 (t138 - 1)) _ _ A9.out).mono ?_
       rintro e w' ⟨rfl, ⟨nd, rfl⟩⟩
       refine ⟨_, rfl, ?_⟩
       refine hK.out _ _ ⟨(blk_cell BK10.out 0).trans rfl, (blk_cell BK10.out 1).trans rfl, (blk_cell BK10.out 2).trans rfl, (blk_cell BK10.out 3).trans rfl, (blk_cell BK10.out 4).trans rfl, (blk_cell BK10.out 5).trans rfl, ((HB.out.cell (World.block_lt_of_cell? w _ hw136_0)).trans hw136_0), ((HB.out.cell (World.block_lt_of_cell? w _ hw136_1)).trans hw136_1), ((HB.out.cell (World.block_lt_of_cell? w _ hw140_0)).trans hw140_0), ((HB.out.cell (World.block_lt_of_cell? w _ hw140_1)).trans hw140_1)⟩ (fun hHeld => ?_)
       clear hK K
       refine rN 22 ?_; refine rP 9 23 ?_; refine rP 10 24 ?_; refine rP 11 25 ?_; refine rP 12 26 ?_; refine rP 13 27 ?_; refine rP 14 28 ?_; refine rT 15 29 ?_
       refine one_ (i := 16) (N := some 30) #[true, true, true, true, true, true, true, true, true, true, true, true, true, true, true, true, true, false, false, false, false, false, false, false, false, false, false, false, false, false] rfl rfl (one_of HT_.out ψ12) ψ13 (fun K hK => ?_)
       refine goes_ Try.func79 ψ12 rfl #[.int .i64 ((rd_T106 l1 x7_1).f1), .int .i64 0, .int .i64 99] ψ14 rfl rfl ψ15 ?_
       with_reducible refine (spec_l1In.calls ((rd_T106 l1 x7_1).f1) 0 99 _ _ A11.out).mono ?_
       rintro e w' ⟨rfl, ⟨nd, rfl⟩⟩
       refine ⟨_, rfl, ?_⟩
       refine hK.out _ _ ⟨(blk_cell BK10.out 0).trans rfl, (blk_cell BK10.out 1).trans rfl, (blk_cell BK10.out 2).trans rfl, (blk_cell BK10.out 3).trans rfl, (blk_cell BK10.out 4).trans rfl, (blk_cell BK10.out 5).trans rfl, ((HB.out.cell (World.block_lt_of_cell? w _ hw136_0)).trans hw136_0), ((HB.out.cell (World.block_lt_of_cell? w _ hw136_1)).trans hw136_1), ((HB.out.cell (World.block_lt_of_cell? w _ hw140_0)).trans hw140_0), ((HB.out.cell (World.block_lt_of_cell? w _ hw140_1)).trans hw140_1)⟩ (fun hHeld => ?_)
       clear hK K
       refine rN 30 ?_; refine rP 17 31 ?_; refine rP 18 32 ?_; refine rP 19 33 ?_; refine rU 20 34 ?_; refine rU 21 35 ?_; refine rU 22 36 ?_; refine rU 23 37 ?_; refine rU 24 38 ?_; refine rU 25 39 ?_; refine rU 26 40 ?_; refine rU 27 41 ?_; refine rU 28 42 ?_; refine rP 29 43 ?_
       refine done_ (done_of HT_.out ψ12) ?_
       try go_wp2
       go_meet
       case rel => exact ⟨_, (true), ψ7, H', ⟨ψ18⟩, ⟨ψ10⟩, ⟨ψ2⟩⟩
     ·have H' := Aside0.mk H
      clear H
      try go_wp2
      have q := n2_ (blk_drew BK10.out) (below_drew1 HB.out)
      clear BK10 HB
      obtain ⟨BK10, HB⟩ := q
      have p136 : 0 ≤ (x7_1 : Int) := of_decide_eq_true ψ5
      have q136 : x7_1 < (l1.length : Int) := of_decide_eq_true ψ5
      obtain ⟨ad136, e136, hx136_0, hx136_1⟩ := at_T106 HR1.out x7_1 p136 q136
      have hw136_1 := hx136_1
      have hw136_0 := hx136_0
      cases e136
      replace hx136_0 := cB HB hx136_0
      replace hx136_1 := cB HB hx136_1
      replace p136 := eq_true p136
      replace q136 := eq_true q136
      refine start_ (n := 30) (S := fun w' => w'.cell? ⟨gb10, 0, none⟩ = some (.int .i64 a0_0) ∧ w'.cell? ⟨gb10, 1, none⟩ = some (.slice A0_1 l0_1.length c0_1) ∧ w'.cell? ⟨gb10, 2, none⟩ = some (.slice A0_2 l0_2.length c0_2) ∧ w'.cell? ⟨gb10, 3, none⟩ = some (.int .i64 a0_3) ∧ w'.cell? ⟨gb10, 4, none⟩ = some (.slice A0_4 l0_4.length c0_4) ∧ w'.cell? ⟨gb10, 5, none⟩ = some (.slice A0_5 l0_5.length c0_5) ∧ w'.cell? (ad136.add ((x7_1).toNat * 2)) = some (.int .i64 ((rd_T106 l1 x7_1).f0)) ∧ w'.cell? ⟨(ad136.add ((x7_1).toNat * 2)).block, (ad136.add ((x7_1).toNat * 2)).off + 1, none⟩ = some (.int .i64 ((rd_T106 l1 x7_1).f1))) (ds := []) #[false, false, false, false, false, false, false, false, false, false, false, false, false, false, false, false, false, false, false, false, false, false, false, false, false, false, false, false, false, false] ψ12 rfl rfl ⟨(blk_cell BK10.out 0).trans rfl, (blk_cell BK10.out 1).trans rfl, (blk_cell BK10.out 2).trans rfl, (blk_cell BK10.out 3).trans rfl, (blk_cell BK10.out 4).trans rfl, (blk_cell BK10.out 5).trans rfl, ((HB.out.cell (World.block_lt_of_cell? w _ hw136_0)).trans hw136_0), ((HB.out.cell (World.block_lt_of_cell? w _ hw136_1)).trans hw136_1)⟩ (fun hHeld => ?_); refine with_tabW spec_l3Inputs.tab4 spec_l3Inputs.bits4 (fun HT_ HW_ => ?_)
      generalize wr.drew = w20 at BK10 HB hx136_0 hx136_1 hHeld ⊢
      refine rP 0 14 ?_; refine rP 1 15 ?_; refine rP 2 16 ?_; refine rP 3 17 ?_; refine rT 4 18 ?_; refine rT 5 19 ?_
      refine one_ (i := 6) (N := some 20) #[true, true, true, true, true, true, true, false, false, false, false, false, false, false, false, false, false, false, false, false, false, false, false, false, false, false, false, false, false, false] rfl rfl (one_of HT_.out ψ12) ψ13 (fun K hK => ?_)
      refine goes_ Try.func70 ψ12 rfl #[.agg #[.int .i64 a0_0, .slice A0_1 l0_1.length c0_1, .slice A0_2 l0_2.length c0_2, .int .i64 a0_3, .slice A0_4 l0_4.length c0_4, .slice A0_5 l0_5.length c0_5]] ψ14 rfl rfl ψ15 ?_
      with_reducible refine (spec_l3Size.calls k1 a0_0 _ _ l0_1 _ _ l0_2 a0_3 _ _ l0_4 _ _ l0_5 _ _ ?_ ?_ ?_ ?_ ?_ ?_ ?_ ?_ A8.out).mono ?_
      exact ψ9; exact HC0_1.out; exact ψ3; exact HC0_2.out; exact ψ16; exact HC0_4.out; exact ψ17; exact HC0_5.out
      rintro e w21 ⟨rfl, hb⟩
      refine ⟨_, rfl, ?_⟩
      have q := n2_ (blk_below (g := gb10) ψ10 hb) (below_step ψ2 hb)
      clear BK10 HB
      obtain ⟨BK10, HB⟩ := q
      (try clear hb)
      refine hK.out _ _ ⟨(blk_cell BK10.out 0).trans rfl, (blk_cell BK10.out 1).trans rfl, (blk_cell BK10.out 2).trans rfl, (blk_cell BK10.out 3).trans rfl, (blk_cell BK10.out 4).trans rfl, (blk_cell BK10.out 5).trans rfl, ((HB.out.cell (World.block_lt_of_cell? w _ hw136_0)).trans hw136_0), ((HB.out.cell (World.block_lt_of_cell? w _ hw136_1)).trans hw136_1)⟩ (fun hHeld => ?_)
      clear hK K
      refine rN 20 ?_; refine rP 7 21 ?_
      refine one_ (i := 8) (N := some 22) #[true, true, true, true, true, true, true, true, true, false, false, false, false, false, false, false, false, false, false, false, false, false, false, false, false, false, false, false, false, false] rfl rfl (one_of HT_.out ψ12) ψ13 (fun K hK => ?_)
      refine goes_ Try.func79 ψ12 rfl #[.int .i64 ((rd_T106 l1 x7_1).f0), .int .i64 0, .int .i64 (wrap64 (t138 - 1))] ψ14 rfl rfl ψ15 ?_
      with_reducible refine (spec_l1In.calls ((rd_T106 l1 x7_1).f0) 0 (wrap64 (t138 - 1)) _ _ A9.out).mono ?_
      rintro e w' ⟨rfl, ⟨nd, rfl⟩⟩
      refine ⟨_, rfl, ?_⟩
      refine hK.out _ _ ⟨(blk_cell BK10.out 0).trans rfl, (blk_cell BK10.out 1).trans rfl, (blk_cell BK10.out 2).trans rfl, (blk_cell BK10.out 3).trans rfl, (blk_cell BK10.out 4).trans rfl, (blk_cell BK10.out 5).trans rfl, ((HB.out.cell (World.block_lt_of_cell? w _ hw136_0)).trans hw136_0), ((HB.out.cell (World.block_lt_of_cell? w _ hw136_1)).trans hw136_1)⟩ (fun hHeld => ?_)
      clear hK K
      refine rN 22 ?_; refine rP 9 23 ?_; refine rP 10 24 ?_; refine rU 11 25 ?_; refine rU 12 26 ?_; refine rU 13 27 ?_; refine rU 14 28 ?_; refine rU 15 29 ?_; refine rU 16 30 ?_; refine rU 17 31 ?_; refine rP 18 32 ?_; refine rP 19 33 ?_; refine rU 20 34 ?_; refine rU 21 35 ?_; refine rU 22 36 ?_; refine rU 23 37 ?_; refine rU 24 38 ?_; refine rU 25 39 ?_; refine rU 26 40 ?_; refine rU 27 41 ?_; refine rU 28 42 ?_; refine rP 29 43 ?_
      refine done_ (done_of HT_.out ψ12) ?_
      try go_wp2
      go_meet
      case rel => exact ⟨_, (true), ψ7, H', ⟨ψ18⟩, ⟨ψ10⟩, ⟨ψ2⟩⟩
    case rest =>
     clear HC6
     try clear c1
     try clear c7
     try clear c10
     try clear c12
     try clear hx136_0
     try clear hx136_1
     try clear hx140_0
     try clear hx140_1
     try clear p136
     try clear p140
     try clear q136
     try clear q140
     obtain ⟨kq, x43_5, rfl, HA, HJ5, BK10, HB⟩ := hcut
     cases kq with
     | zero => exact absurd HA.out (by simp [spec_l3Inputs.j1])
     | succ kj5 =>
      have H := HA.out
      clear HA
      simp only [spec_l3Inputs.j1] at H
      replace H := ifB H; rcases H with ⟨rfl, H⟩ | ⟨rfl, H⟩
      ·obtain rfl := Option.some.inj H
       go_wp2
       go_ret
       exact ⟨ψ4, ψ2⟩
      ·have H' := Aside0.mk H
       clear H
       go_wp2
       go_roundg kj5
       case measure => have := HK1.out; have := HJ5.out; omega
       case rel => exact ⟨(wrap64 (x7_1 + 1)), ψ7, H', ⟨by have := HK1.out; have := HJ5.out; omega⟩, ⟨ψ10⟩, ⟨ψ2⟩⟩
   ·obtain rfl := Option.some.inj H
    go_wp2
    go_ret
    exact ⟨ψ4, ψ2⟩

/-! ### spec_l3Room: function 131 -/
mutual
def spec_l3Room.j0 : Nat → Bool → Int → List (S106) → List (S106) → Int → List Int → List (S114) → Option (Bool)
 | 0, _, _, _, _, _, _, _ => none
 | k + 1, x19, x144000, x144001, x144002, x144003, x144004, x144005 => if x19 = true then (some false) else (spec_l3Room.l0 k 0 x144000 x144001 x144002 x144003 x144004 x144005)
def spec_l3Room.l0 : Nat → Int → Int → List (S106) → List (S106) → Int → List Int → List (S114) → Option (Bool)
 | 0, _, _, _, _, _, _, _ => none
 | k + 1, x3, x144000, x144001, x144002, x144003, x144004, x144005 => if x3 < (x144004.length : Int) then (if 0 ≤ x3 then ((spec_l1In.f (rd x144004 x3) 1 6).bind fun t151 => (if t151 = true then (spec_l3Room.l0 k (wrap64 (x3 + 1)) x144000 x144001 x144002 x144003 x144004 x144005) else (some false))) else (none)) else (some true)
end
def spec_l3Room.f (k : Nat) (a0_0 : Int) (l0_1 : List (S106)) (l0_2 : List (S106)) (a0_3 : Int) (l0_4 : List Int) (l0_5 : List (S114)) : Option (Bool) := (spec_l1In.f a0_3 0 6).bind fun t145 => (if t145 = true then (if (l0_4.length : Int) > 2 then (spec_l3Room.j0 k true a0_0 l0_1 l0_2 a0_3 l0_4 l0_5) else (spec_l3Room.j0 k (decide ((l0_5.length : Int) > 40)) a0_0 l0_1 l0_2 a0_3 l0_4 l0_5)) else (spec_l3Room.j0 k true a0_0 l0_1 l0_2 a0_3 l0_4 l0_5))
theorem τ11 {P : Prop} (h : P := by
 have H' := Aside0.mk H
 clear H
 obtain ⟨hczB10_0, hczB10_1, hczB10_2, hczB10_3, hczB10_4, hczB10_5, hfzB10_0, hfzB10_1, hfzB10_2, hfzB10_3, hfzB10_4, hfzB10_5⟩ := cells6 BK10.out
 go_wp2_with (first | ((with_reducible refine gate_callee (f := 79) rfl ?_); refine gL 6 Try.func79 #[.int .i64 a0_3, .int .i64 0, .int .i64 6] ?_; (with_reducible refine (spec_l1In.calls a0_3 0 6 _ _ A4.out).mono ?_); rintro e w' ⟨rfl, ⟨nd, rfl⟩⟩; refine ⟨_, rfl, ?_⟩))
 first | (go_meet; (case rel => exact ⟨_, (true), ψ7, H', ⟨ψ19⟩, ⟨ψ10⟩, ⟨ψ2⟩⟩)) | (go_meet; (case rel => exact ⟨_, (decide ((l0_5.length : Int) > 40)), ψ7, H', ⟨ψ19⟩, ⟨ψ10⟩, ⟨ψ2⟩⟩))) : P := h
theorem τ12 {P : Prop} (h : P := by
 first | obtain rfl := Option.some.inj H | (have H' := Aside0.mk H; clear H)
 obtain ⟨hczB10_0, hczB10_1, hczB10_2, hczB10_3, hczB10_4, hczB10_5, hfzB10_0, hfzB10_1, hfzB10_2, hfzB10_3, hfzB10_4, hfzB10_5⟩ := cells6 BK10.out
 try (have p150 : 0 ≤ (x3_2 : Int) := of_decide_eq_true ψ5; have q150 : x3_2 < (l0_4.length : Int) := of_decide_eq_true ψ5; obtain ⟨ad150, e150, hx150_0⟩ := Kd.at_int HR0_4.out x3_2 p150 q150; cases e150; replace hx150_0 := cB HB hx150_0; replace p150 := eq_true p150; replace q150 := eq_true q150)
 go_wp2_with (first | ((with_reducible refine gate_callee (f := 79) rfl ?_); refine gL 32 Try.func79 #[.int .i64 (rd l0_4 x3_2), .int .i64 1, .int .i64 6] ?_; (with_reducible refine (spec_l1In.calls (rd l0_4 x3_2) 1 6 _ _ A13.out).mono ?_); rintro e w' ⟨rfl, ⟨nd, rfl⟩⟩; refine ⟨_, rfl, ?_⟩))
 first | (go_roundg k2; (case measure => have := HJ1.out; have := HK2.out; omega); (case rel => exact ⟨(wrap64 (x3_2 + 1)), ψ7, H', ⟨ψ20⟩, ⟨ψ10⟩, ⟨ψ2⟩⟩)) | (go_ret; exact ⟨ψ4, ψ2⟩)) : P := h
theorem spec_l3Room.calls (k : Nat) (a0_0 : Int) (A0_1 : Option Addr) (c0_1 : Nat) (l0_1 : List (S106)) (A0_2 : Option Addr) (c0_2 : Nat) (l0_2 : List (S106)) (a0_3 : Int) (A0_4 : Option Addr) (c0_4 : Nat) (l0_4 : List Int) (A0_5 : Option Addr) (c0_5 : Nat) (l0_5 : List (S114)) (r : Bool) (w : World) (hr0_1 : Kd.C k106 w A0_1 l0_1.length l0_1) (hc0_1 : l0_1.length ≤ c0_1) (hr0_2 : Kd.C k106 w A0_2 l0_2.length l0_2) (hc0_2 : l0_2.length ≤ c0_2) (hr0_4 : Kd.C (Kd.int .i64) w A0_4 l0_4.length l0_4) (hc0_4 : l0_4.length ≤ c0_4) (hr0_5 : Kd.C k114 w A0_5 l0_5.length l0_5) (hc0_5 : l0_5.length ≤ c0_5) (h : spec_l3Room.f k a0_0 l0_1 l0_2 a0_3 l0_4 l0_5 = some r) :
 Calls Try.prog 131 #[.agg #[.int .i64 a0_0, .slice A0_1 l0_1.length c0_1, .slice A0_2 l0_2.length c0_2, .int .i64 a0_3, .slice A0_4 l0_4.length c0_4, .slice A0_5 l0_5.length c0_5]] w fun e w' => e = .returned (.bool r) ∧ Below w.heap.size w w' := by
 have hu36 := Try.underlying36
 have q := n8_ hr0_1 hc0_1 hr0_2 hc0_2 hr0_4 hc0_4 hr0_5 hc0_5
 clear hr0_1 hc0_1 hr0_2 hc0_2 hr0_4 hc0_4 hr0_5 hc0_5
 obtain ⟨HR0_1, HC0_1, HR0_2, HC0_2, HR0_4, HC0_4, HR0_5, HC0_5⟩ := q
 have HB := Aside0.mk (Below.refl w.heap.size w)
 unfold spec_l3Room.f at h
 have H := h
 clear h
 have HC2 := Aside0.mk H
 clear H
 go_enter Try.func131, Try.ntmps131
 go_upto_region 1 with (first | ((with_reducible refine gate_dst (N := 1) rfl ?_); (try (refine gate_guard ψ14 ?_; dsimp only)); refine bE 1 #[.int .i64 a0_0, .slice A0_1 l0_1.length c0_1, .slice A0_2 l0_2.length c0_2, .int .i64 a0_3, .slice A0_4 l0_4.length c0_4, .slice A0_5 l0_5.length c0_5] 36 ?_; intro gb10 hg w3 hbox hb; have q := n4_ (below_step ψ2 hb) (hbox) ((ψ113 : w.heap.size ≤ gb10)) ((ψ113 : w.heap.size ≤ gb10)); clear HB; obtain ⟨HB, BK10, GW10, GE10⟩ := q; clear hb hbox hg))
 (try simp only [Act.put, List.setIfInBounds_toArray, List.set_cons_zero, List.set_cons_succ])
 go_cut [19] (fun v19 wc => ∃ (kq : Nat) (x19_1 : Bool), v19 = .bool x19_1 ∧ Aside0 (spec_l3Room.j0 kq x19_1 a0_0 l0_1 l0_2 a0_3 l0_4 l0_5 = some r) ∧ Aside0 (kq ≤ k) ∧ Aside0 (wc.heap[gb10]? = some (.cells #[.int .i64 a0_0, (.slice A0_1 l0_1.length c0_1), (.slice A0_2 l0_2.length c0_2), .int .i64 a0_3, (.slice A0_4 l0_4.length c0_4), (.slice A0_5 l0_5.length c0_5)] 36 (0, 0))) ∧ Aside0 (Below w.heap.size w wc))
 case first =>
  have H := HC2.out
  clear HC2
  replace H := bS H; obtain ⟨t145, A4, H⟩ := H
  replace H := ifB H; rcases H with ⟨rfl, H⟩ | ⟨rfl, H⟩
  ·by_cases c6 : (l0_4.length : Int) > 2
   ·rw [if_pos c6] at H
    have c6b0 : decide (2 < (l0_4.length : Int)) = true := decide_eq_true c6
    have c6b1 : decide (2 < l0_4.length) = true := decide_eq_true ψ21
    clear c6
    (first | rw [c6b0] | rw [c6b1] | (simp only [i64_w, i32_w]; rw [c6b0]) | skip)
    exact τ11
   ·rw [if_neg c6] at H
    have c6b0 : decide (2 < (l0_4.length : Int)) = false := decide_eq_false c6
    have c6b1 : decide (2 < l0_4.length) = false := decide_eq_false ψ21
    clear c6
    (first | rw [c6b0] | rw [c6b1] | (simp only [i64_w, i32_w]; rw [c6b0]) | skip)
    exact τ11
  ·exact τ11
 case rest =>
  clear HC2
  try clear c5
  try clear c6
  try clear c6b0
  try clear c6b1
  try clear y7_0 y7_1 y7_2 y7_3 y7_4 y7_5
  try clear y8_0 y8_1 y8_2 y8_3 y8_4 y8_5
  try clear y9_0 y9_1 y9_2 y9_3 y9_4 y9_5
  try clear u7_0 u7_1 u7_2 u7_3 u7_4 u7_5
  try clear u8_0 u8_1 u8_2 u8_3 u8_4 u8_5
  try clear u9_0 u9_1 u9_2 u9_3 u9_4 u9_5
  obtain ⟨kq, x19_1, rfl, HA, HJ1, BK10, HB⟩ := hcut
  cases kq with
  | zero => exact absurd HA.out (by simp [spec_l3Room.j0])
  | succ kj1 =>
   have H := HA.out
   clear HA
   simp only [spec_l3Room.j0] at H
   replace H := ifB H; rcases H with ⟨rfl, H⟩ | ⟨rfl, H⟩
   ·obtain rfl := Option.some.inj H
    go_wp2
    go_ret
    exact ⟨ψ4, ψ2⟩
   ·have H' := Aside0.mk H
    clear H
    go_wp2
    go_loopg [3] kj1 (fun kq v3 w' => ∃ (x3_2 : Int), v3 = .int .i64 x3_2 ∧ Aside0 (spec_l3Room.l0 kq x3_2 a0_0 l0_1 l0_2 a0_3 l0_4 l0_5 = some r) ∧ Aside0 (kq ≤ kj1) ∧ Aside0 (w'.heap[gb10]? = some (.cells #[.int .i64 a0_0, (.slice A0_1 l0_1.length c0_1), (.slice A0_2 l0_2.length c0_2), .int .i64 a0_3, (.slice A0_4 l0_4.length c0_4), (.slice A0_5 l0_5.length c0_5)] 36 (0, 0))) ∧ Aside0 (Below w.heap.size w w'))
    case atStart => exact ⟨(0), ψ7, H', ⟨Nat.le_refl _⟩, ⟨ψ10⟩, ⟨ψ2⟩⟩
    case round =>
     clear H'
     try clear c5
     try clear c6
     try clear c6b0
     try clear c6b1
     try clear c10
     try clear y7_0 y7_1 y7_2 y7_3 y7_4 y7_5
     try clear y8_0 y8_1 y8_2 y8_3 y8_4 y8_5
     try clear y9_0 y9_1 y9_2 y9_3 y9_4 y9_5
     try clear u7_0 u7_1 u7_2 u7_3 u7_4 u7_5
     try clear u8_0 u8_1 u8_2 u8_3 u8_4 u8_5
     try clear u9_0 u9_1 u9_2 u9_3 u9_4 u9_5
     obtain ⟨x3_2, rfl, HA, HK2, BK10, HB⟩ := hrel
     cases gk with
     | zero => exact absurd HA.out (by simp [spec_l3Room.l0])
     | succ k2 =>
      have H := HA.out
      clear HA
      simp only [spec_l3Room.l0] at H
      replace H := ifD H; rcases H with ⟨c11b0, H⟩ | ⟨c11b0, H⟩
      ·replace H := ifN H; obtain ⟨c12b0, H⟩ := H
       replace H := bS H; obtain ⟨t151, A13, H⟩ := H
       replace H := ifB H; rcases H with ⟨rfl, H⟩ | ⟨rfl, H⟩
       ·exact τ12
       ·exact τ12
      ·exact τ12

/-! ### spec_l3Vars: function 69 -/
def spec_l3Vars.f (a0_0 : Int) (l0_1 : List (S106)) (l0_2 : List (S106)) (a0_3 : Int) (l0_4 : List Int) (l0_5 : List (S114)) : Option (Int) := some (wrap64 ((wrap64 ((l0_1.length : Int) + (l0_2.length : Int))) + a0_3))
theorem spec_l3Vars.calls (a0_0 : Int) (A0_1 : Option Addr) (c0_1 : Nat) (l0_1 : List (S106)) (A0_2 : Option Addr) (c0_2 : Nat) (l0_2 : List (S106)) (a0_3 : Int) (A0_4 : Option Addr) (c0_4 : Nat) (l0_4 : List Int) (A0_5 : Option Addr) (c0_5 : Nat) (l0_5 : List (S114)) (r : Int) (w : World) (hr0_1 : Kd.C k106 w A0_1 l0_1.length l0_1) (hc0_1 : l0_1.length ≤ c0_1) (hr0_2 : Kd.C k106 w A0_2 l0_2.length l0_2) (hc0_2 : l0_2.length ≤ c0_2) (hr0_4 : Kd.C (Kd.int .i64) w A0_4 l0_4.length l0_4) (hc0_4 : l0_4.length ≤ c0_4) (hr0_5 : Kd.C k114 w A0_5 l0_5.length l0_5) (hc0_5 : l0_5.length ≤ c0_5) (h : spec_l3Vars.f a0_0 l0_1 l0_2 a0_3 l0_4 l0_5 = some r) :
 Calls Try.prog 69 #[.agg #[.int .i64 a0_0, .slice A0_1 l0_1.length c0_1, .slice A0_2 l0_2.length c0_2, .int .i64 a0_3, .slice A0_4 l0_4.length c0_4, .slice A0_5 l0_5.length c0_5]] w fun e w' => e = .returned (.int .i64 r) ∧ Below w.heap.size w w' := by
 have hu36 := Try.underlying36
 have q := n8_ hr0_1 hc0_1 hr0_2 hc0_2 hr0_4 hc0_4 hr0_5 hc0_5
 clear hr0_1 hc0_1 hr0_2 hc0_2 hr0_4 hc0_4 hr0_5 hc0_5
 obtain ⟨HR0_1, HC0_1, HR0_2, HC0_2, HR0_4, HC0_4, HR0_5, HC0_5⟩ := q
 have HB := Aside0.mk (Below.refl w.heap.size w)
 unfold spec_l3Vars.f at h
 have H := h
 clear h
 obtain rfl := Option.some.inj H
 go_enter Try.func69, Try.ntmps69
 go_wp2_with (first | ((with_reducible refine gate_dst (N := 1) rfl ?_); refine bE 1 #[.int .i64 a0_0, .slice A0_1 l0_1.length c0_1, .slice A0_2 l0_2.length c0_2, .int .i64 a0_3, .slice A0_4 l0_4.length c0_4, .slice A0_5 l0_5.length c0_5] 36 ?_; intro gb10 hg w2 hbox hb; have q := n4_ (below_step ψ2 hb) (hbox) ((ψ113 : w.heap.size ≤ gb10)) ((ψ113 : w.heap.size ≤ gb10)); clear HB; obtain ⟨HB, BK10, GW10, GE10⟩ := q; clear hb hbox hg; obtain ⟨y3_0, y3_1, y3_2, y3_3, y3_4, y3_5, u3_0, u3_1, u3_2, u3_3, u3_4, u3_5⟩ := cells6 BK10.out))
 go_ret
 exact ⟨ψ4, ψ2⟩

/-! ### spec_TakesOf: function 128 -/
def spec_TakesOf.f (a0 : Int) : Option (Int) := (spec_l1In.f a0 0 17).bind fun t156 => (if t156 = true then ((some (([0, 0, 1, 1, 1, 2, 2, 2, 2, 2, 2, 2, 2, 2, 2, 2, 2, 3] : List Int) : List Int)).bind fun y157 => (if 0 ≤ a0 then (if a0 < (y157.length : Int) then (some (rd y157 a0)) else (none)) else (none))) else (some (-1)))
theorem τ13 {P : Prop} (h : P := by
 obtain rfl := Option.some.inj H
 go_enter Try.func128, Try.ntmps128
 go_wp2_with (first | ((with_reducible refine gate_callee (f := 79) rfl ?_); refine gL 4 Try.func79 #[.int .i64 a0, .int .i64 0, .int .i64 17] ?_; (with_reducible refine (spec_l1In.calls a0 0 17 _ _ A2.out).mono ?_); rintro e w' ⟨rfl, ⟨nd, rfl⟩⟩; refine ⟨_, rfl, ?_⟩) | ((with_reducible refine gate_dst (N := 6) rfl ?_); refine Kd.R_lit (Kd.int .i64) _ 2 ?hg (N := 6) ?hd (xs := ([0, 0, 1, 1, 1, 2, 2, 2, 2, 2, 2, 2, 2, 2, 2, 2, 2, 3] : List Int)) (inner := [.int .i64 0, .int .i64 0, .int .i64 1, .int .i64 1, .int .i64 1, .int .i64 2, .int .i64 2, .int .i64 2, .int .i64 2, .int .i64 2, .int .i64 2, .int .i64 2, .int .i64 2, .int .i64 2, .int .i64 2, .int .i64 2, .int .i64 2, .int .i64 3]) (ok := fun _ => True) (okp := fun _ => True) ?hr ?hp (fun _ hk => hk) trivial (Below.refl _ _) (Nat.le_refl _) ψ22 ?_; (case hd => rfl); (case hg => rfl); (case hr => first | (go_simp; done) | (go_simp; rfl)); (case hp => exact (Reps.one (show Kd.M (Kd.int .i64) _ _ _ 0 [.int .i64 0] from rfl) (Reps.one (show Kd.M (Kd.int .i64) _ _ _ 0 [.int .i64 0] from rfl) (Reps.one (show Kd.M (Kd.int .i64) _ _ _ 1 [.int .i64 1] from rfl) (Reps.one (show Kd.M (Kd.int .i64) _ _ _ 1 [.int .i64 1] from rfl) (Reps.one (show Kd.M (Kd.int .i64) _ _ _ 1 [.int .i64 1] from rfl) (Reps.one (show Kd.M (Kd.int .i64) _ _ _ 2 [.int .i64 2] from rfl) (Reps.one (show Kd.M (Kd.int .i64) _ _ _ 2 [.int .i64 2] from rfl) (Reps.one (show Kd.M (Kd.int .i64) _ _ _ 2 [.int .i64 2] from rfl) (Reps.one (show Kd.M (Kd.int .i64) _ _ _ 2 [.int .i64 2] from rfl) (Reps.one (show Kd.M (Kd.int .i64) _ _ _ 2 [.int .i64 2] from rfl) (Reps.one (show Kd.M (Kd.int .i64) _ _ _ 2 [.int .i64 2] from rfl) (Reps.one (show Kd.M (Kd.int .i64) _ _ _ 2 [.int .i64 2] from rfl) (Reps.one (show Kd.M (Kd.int .i64) _ _ _ 2 [.int .i64 2] from rfl) (Reps.one (show Kd.M (Kd.int .i64) _ _ _ 2 [.int .i64 2] from rfl) (Reps.one (show Kd.M (Kd.int .i64) _ _ _ 2 [.int .i64 2] from rfl) (Reps.one (show Kd.M (Kd.int .i64) _ _ _ 2 [.int .i64 2] from rfl) (Reps.one (show Kd.M (Kd.int .i64) _ _ _ 2 [.int .i64 2] from rfl) (Reps.one (show Kd.M (Kd.int .i64) _ _ _ 3 [.int .i64 3] from rfl) (Reps.none _ _)))))))))))))))))))); intro v158 w1_ ho7 hb hg_ hnew_; clear hg_ hnew_; (first | rw [← Ny157.out] at ho7 | (simp only [Int.reduceToNat] at ho7; rw [← Ny157.out] at ho7)); have q := n2_ (Kd.R_lower ho7 (below_size ψ6)) (below_step ψ6 hb); clear HB; obtain ⟨HO159, HB⟩ := q; clear hb ho7; obtain ⟨Ao1_, co1_, eo1_⟩ := Kd.R_slice HO159.out; subst eo1_; have p160 : 0 ≤ (a0 : Int) := of_decide_eq_true ψ5; have q160 : a0 < (y157.length : Int) := of_decide_eq_true ψ5; obtain ⟨ad160, e160, hx160_0⟩ := Kd.at_int (Kd.R_reads' HO159.out).2.2 a0 p160 q160; cases e160; replace p160 := eq_true p160; replace q160 := eq_true q160))
 go_ret
 exact ⟨ψ4, ψ6⟩) : P := h
theorem spec_TakesOf.calls (a0 : Int) (r : Int) (w : World) (h : spec_TakesOf.f a0 = some r) :
 Calls Try.prog 128 #[.int .i64 a0] w fun e w' => e = .returned (.int .i64 r) ∧ Below w.heap.size w w' := by
 have HB := Aside0.mk (Below.refl w.heap.size w)
 unfold spec_TakesOf.f at h
 have H := h
 clear h
 replace H := bS H; obtain ⟨t156, A2, H⟩ := H
 replace H := ifB H; rcases H with ⟨rfl, H⟩ | ⟨rfl, H⟩
 ·obtain ⟨y157, hy157⟩ : ∃ y_ : List Int, y_ = (([0, 0, 1, 1, 1, 2, 2, 2, 2, 2, 2, 2, 2, 2, 2, 2, 2, 3] : List Int)) := ⟨_, rfl⟩
  replace H : (if 0 ≤ a0 then (if a0 < (y157.length : Int) then (some (rd y157 a0)) else (none)) else (none)) = some r := by first | (rw [hy157]; with_reducible exact H) | (have H2_ := (Option.bind_some _ _).symm.trans H; rw [hy157]; with_reducible exact H2_) | (have H2_ := (Option.bind_some _ _).symm.trans H; with_reducible exact H2_) | with_reducible exact H | (rw [hy157]; exact H) | exact H
  have Ny157 := Aside0.mk hy157
  clear hy157
  replace H := ifN H; obtain ⟨c4b0, H⟩ := H
  replace H := ifN H; obtain ⟨c5b0, H⟩ := H
  exact τ13
 ·exact τ13

/-! ### spec_ExpOk: function 127 -/
def spec_ExpOk.l0 : Nat → List (S74) → Int → Int → Option (Bool)
 | 0, _, _, _ => none
 | k + 1, x0, x3, x4 => if x4 < (x0.length : Int) then (if 0 ≤ x4 then ((spec_TakesOf.f ((rd_T74 x0 x4).f0)).bind fun t162 => (if t162 < 0 then (some false) else (if t162 > x3 then (some false) else ((spec_l1In.f ((rd_T74 x0 x4).f1) 0 255).bind fun t164 => (if t164 = true then (if ((rd_T74 x0 x4).f0) > 2 then (if ((rd_T74 x0 x4).f1) = 0 then (spec_ExpOk.l0 k x0 (wrap64 ((wrap64 (x3 - t162)) + 1)) (wrap64 (x4 + 1))) else (some false)) else (spec_ExpOk.l0 k x0 (wrap64 ((wrap64 (x3 - t162)) + 1)) (wrap64 (x4 + 1)))) else (some false)))))) else (none)) else (some (x3 == 1))
def spec_ExpOk.f (k : Nat) (l0 : List (S74)) : Option (Bool) := if (l0.length : Int) > 3000 then (some false) else (spec_ExpOk.l0 k l0 0 0)
theorem τ14 {P : Prop} (h : P := by
 first | obtain rfl := Option.some.inj H | (have H' := Aside0.mk H; clear H)
 try (have p161 : 0 ≤ (x4_1 : Int) := of_decide_eq_true ψ5; have q161 : x4_1 < (l0.length : Int) := of_decide_eq_true ψ5; obtain ⟨ad161, e161, hx161_0, hx161_1⟩ := at_T74 HR0.out x4_1 p161 q161; cases e161; replace hx161_0 := cB HB hx161_0; replace hx161_1 := cB HB hx161_1; replace p161 := eq_true p161; replace q161 := eq_true q161)
 go_wp2_with (first | ((with_reducible refine gate_callee (f := 128) rfl ?_); refine gL 20 Try.func128 #[.int .i64 ((rd_T74 l0 x4_1).f0)] ?_; (with_reducible refine (spec_TakesOf.calls ((rd_T74 l0 x4_1).f0) _ _ A5.out).mono ?_); rintro e w1_ ⟨rfl, hb⟩; refine ⟨_, rfl, ?_⟩; replace HB := Aside0.mk (below_step ψ6 hb); (try clear hb); (try (have p163 : 0 ≤ (x4_1 : Int) := of_decide_eq_true ψ5; have q163 : x4_1 < (l0.length : Int) := of_decide_eq_true ψ5; obtain ⟨ad163, e163, hx163_0, hx163_1⟩ := at_T74 HR0.out x4_1 p163 q163; obtain rfl : ad161 = ad163 := (by injection e163); replace hx163_0 := cB HB hx163_0; replace hx163_1 := cB HB hx163_1; replace p163 := eq_true p163; replace q163 := eq_true q163))) | (go_at_call 79; (with_reducible refine (spec_l1In.calls ((rd_T74 l0 x4_1).f1) 0 255 _ _ A10.out).mono ?_); rintro e w' ⟨rfl, ⟨nd, rfl⟩⟩; (try (have p165 : 0 ≤ (x4_1 : Int) := of_decide_eq_true ψ5; have q165 : x4_1 < (l0.length : Int) := of_decide_eq_true ψ5; obtain ⟨ad165, e165, hx165_0, hx165_1⟩ := at_T74 HR0.out x4_1 p165 q165; obtain rfl : ad161 = ad165 := (by injection e165); replace hx165_0 := cB HB hx165_0; replace hx165_1 := cB HB hx165_1; replace p165 := eq_true p165; replace q165 := eq_true q165)); (try (have p166 : 0 ≤ (x4_1 : Int) := of_decide_eq_true ψ5; have q166 : x4_1 < (l0.length : Int) := of_decide_eq_true ψ5; obtain ⟨ad166, e166, hx166_0, hx166_1⟩ := at_T74 HR0.out x4_1 p166 q166; obtain rfl : ad161 = ad166 := (by injection e166); replace hx166_0 := cB HB hx166_0; replace hx166_1 := cB HB hx166_1; replace p166 := eq_true p166; replace q166 := eq_true q166))))
 first | (go_ret; exact ⟨ψ4, ψ6⟩) | (go_roundg k1; (case measure => have := HK1.out; omega); (case rel => exact ⟨(wrap64 ((wrap64 (x3_1 - t162)) + 1)), (wrap64 (x4_1 + 1)), ψ7, ψ7, H', ⟨ψ8⟩, ⟨ψ6⟩⟩))) : P := h
theorem spec_ExpOk.calls (k : Nat) (A0 : Option Addr) (c0 : Nat) (l0 : List (S74)) (r : Bool) (w : World) (hr0 : Kd.C k74 w A0 l0.length l0) (hc0 : l0.length ≤ c0) (h : spec_ExpOk.f k l0 = some r) :
 Calls Try.prog 127 #[.slice A0 l0.length c0] w fun e w' => e = .returned (.bool r) ∧ Below w.heap.size w w' := by
 have q := n2_ hr0 hc0
 clear hr0 hc0
 obtain ⟨HR0, HC0⟩ := q
 have HB := Aside0.mk (Below.refl w.heap.size w)
 unfold spec_ExpOk.f at h
 have H := h
 clear h
 by_cases c2 : (l0.length : Int) > 3000
 ·rw [if_pos c2] at H
  have c2b0 : decide (3000 < (l0.length : Int)) = true := decide_eq_true c2
  have c2b1 : decide (3000 < l0.length) = true := decide_eq_true ψ21
  clear c2
  obtain rfl := Option.some.inj H
  go_enter Try.func127, Try.ntmps127
  go_wp2
  go_ret
  exact ⟨ψ4, ψ6⟩
 ·rw [if_neg c2] at H
  have c2b0 : decide (3000 < (l0.length : Int)) = false := decide_eq_false c2
  have c2b1 : decide (3000 < l0.length) = false := decide_eq_false ψ21
  clear c2
  have H' := Aside0.mk H
  clear H
  go_enter Try.func127, Try.ntmps127
  go_wp2
  go_loopg [3, 4] k (fun kq v3 v4 w' => ∃ (x3_1 : Int) (x4_1 : Int), v3 = .int .i64 x3_1 ∧ v4 = .int .i64 x4_1 ∧ Aside0 (spec_ExpOk.l0 kq l0 x3_1 x4_1 = some r) ∧ Aside0 (kq ≤ k) ∧ Aside0 (Below w.heap.size w w'))
  case atStart => exact ⟨(0), (0), ψ7, ψ7, H', ⟨Nat.le_refl _⟩, ⟨ψ6⟩⟩
  case round =>
   clear H'
   try clear c2
   try clear c2b0
   try clear c2b1
   obtain ⟨x3_1, x4_1, rfl, rfl, HA, HK1, HB⟩ := hrel
   cases gk with
   | zero => exact absurd HA.out (by simp [spec_ExpOk.l0])
   | succ k1 =>
    have H := HA.out
    clear HA
    simp only [spec_ExpOk.l0] at H
    replace H := ifD H; rcases H with ⟨c3b0, H⟩ | ⟨c3b0, H⟩
    ·replace H := ifN H; obtain ⟨c4b0, H⟩ := H
     replace H := bS H; obtain ⟨t162, A5, H⟩ := H
     replace H := ifD H; rcases H with ⟨c6b0, H⟩ | ⟨c6b0, H⟩
     ·exact τ14
     ·by_cases c8 : t162 > x3_1
      ·rw [if_pos c8] at H
       have c8b0 : decide (x3_1 < t162) = true := decide_eq_true c8
       clear c8
       exact τ14
      ·rw [if_neg c8] at H
       have c8b0 : decide (x3_1 < t162) = false := decide_eq_false c8
       clear c8
       replace H := bS H; obtain ⟨t164, A10, H⟩ := H
       replace H := ifB H; rcases H with ⟨rfl, H⟩ | ⟨rfl, H⟩
       ·by_cases c12 : ((rd_T74 l0 x4_1).f0) > 2
        ·rw [if_pos c12] at H
         have c12b0 : decide (2 < ((rd_T74 l0 x4_1).f0)) = true := decide_eq_true c12
         clear c12
         replace H := ifF H; rcases H with ⟨c13b0, c13b1, H⟩ | ⟨c13b0, c13b1, c13, H⟩
         ·exact τ14
         ·exact τ14
        ·rw [if_neg c12] at H
         have c12b0 : decide (2 < ((rd_T74 l0 x4_1).f0)) = false := decide_eq_false c12
         clear c12
         exact τ14
       ·exact τ14
    ·exact τ14

end Go.Proofs.Ytakmkdlkipfnhaa.PCore

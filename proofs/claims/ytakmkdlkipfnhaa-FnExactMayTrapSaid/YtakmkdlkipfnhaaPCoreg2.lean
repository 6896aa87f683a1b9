/- The walks of the functions that the laws come to, part 2: turned out of the kit's print, and mended where that fell. -/
import Derived.Test.YtakmkdlkipfnhaaPCoreg
import Derived.Test.YtakmkdlkipfnhaaPCoreg0
import Derived.Test.YtakmkdlkipfnhaaPCoreg1
namespace Go.Proofs.Ytakmkdlkipfnhaa.PCore
open Go.RowKit Go.Proofs.YtakmkdlkipfnhaaW.PrintWords Go.Proofs.YtakmkdlkipfnhaaW.PrintLast Go.Proofs.YtakmkdlkipfnhaaW.PrintMore
attribute [local go_sem] max2_int min2_int max_two min_two max_three min_three max_four min_four   -- for this text's walks alone
set_option linter.unusedVariables false
set_option maxHeartbeats 8000000
set_option maxRecDepth 100000
set_option linter.unusedSimpArgs false

theorem ψ29 {P : Prop} (h : P := by have := HJ2.out; have := HJ16.out; first | omega | exact Nat.le_refl _) : P := h
/-! ### spec_l3Names: function 103 -/
def spec_l3Names.l0 : Nat → List (S74) → Int → Int → List (S106) → List (S106) → Int → List Int → List (S114) → Option (Bool)
 | 0, _, _, _, _, _, _, _, _ => none
 | k + 1, x1, x5, x168000, x168001, x168002, x168003, x168004, x168005 => if x5 < (x1.length : Int) then (if 0 ≤ x5 then (if ((rd_T74 x1 x5).f0) = 0 then ((spec_l3Size.f k x168000 x168001 x168002 x168003 x168004 x168005).bind fun t172 => (if ((rd_T74 x1 x5).f1) ≥ t172 then (some false) else (spec_l3Names.l0 k x1 (wrap64 (x5 + 1)) x168000 x168001 x168002 x168003 x168004 x168005))) else (if ((rd_T74 x1 x5).f0) = 1 then ((spec_l3Vars.f x168000 x168001 x168002 x168003 x168004 x168005).bind fun t175 => (if ((rd_T74 x1 x5).f1) ≥ t175 then (some false) else (spec_l3Names.l0 k x1 (wrap64 (x5 + 1)) x168000 x168001 x168002 x168003 x168004 x168005))) else (if ((rd_T74 x1 x5).f0) = 2 then (if ((rd_T74 x1 x5).f1) ≥ (x168004.length : Int) then (some false) else (spec_l3Names.l0 k x1 (wrap64 (x5 + 1)) x168000 x168001 x168002 x168003 x168004 x168005)) else (spec_l3Names.l0 k x1 (wrap64 (x5 + 1)) x168000 x168001 x168002 x168003 x168004 x168005)))) else (none)) else (some true)
def spec_l3Names.f (k : Nat) (a0_0 : Int) (l0_1 : List (S106)) (l0_2 : List (S106)) (a0_3 : Int) (l0_4 : List Int) (l0_5 : List (S114)) (l1 : List (S74)) : Option (Bool) := (spec_ExpOk.f k l1).bind fun t168 => (if t168 = true then (spec_l3Names.l0 k l1 0 a0_0 l0_1 l0_2 a0_3 l0_4 l0_5) else (some false))
def spec_l3Names.T8 : Bool × List (List Nat × List Nat) := (true, [([], []), ([], []), ([0, 1], [0, 1]), ([2], [2]), ([3], [3]), ([], []), ([5], [5]), ([4, 6], [4, 6])])
def spec_l3Names.B8 : List Nat := [0, 0, 3, 7, 15, 0, 32, 127]
theorem spec_l3Names.tab8 : rtab .any (opsOf Try.f103 8) = spec_l3Names.T8 := by kernel_rfl
theorem spec_l3Names.bits8 : waitsOk spec_l3Names.T8.2 spec_l3Names.B8 = true := by kernel_rfl
def spec_l3Names.T11 : Bool × List (List Nat × List Nat) := (true, [([], []), ([], []), ([0, 1], [0, 1]), ([2], [2]), ([3], [3]), ([], []), ([5], [5]), ([4, 6], [4, 6])])
def spec_l3Names.B11 : List Nat := [0, 0, 3, 7, 15, 0, 32, 127]
theorem spec_l3Names.tab11 : rtab .any (opsOf Try.f103 11) = spec_l3Names.T11 := by kernel_rfl
theorem spec_l3Names.bits11 : waitsOk spec_l3Names.T11.2 spec_l3Names.B11 = true := by kernel_rfl
def spec_l3Names.T14 : Bool × List (List Nat × List Nat) := (true, [([], []), ([], []), ([0, 1], [0, 1]), ([2], [2]), ([3], [3]), ([], []), ([5], [5]), ([6], [6]), ([4, 7], [4, 7])])
def spec_l3Names.B14 : List Nat := [0, 0, 3, 7, 15, 0, 32, 96, 255]
theorem spec_l3Names.tab14 : rtab .any (opsOf Try.f103 14) = spec_l3Names.T14 := by kernel_rfl
theorem spec_l3Names.bits14 : waitsOk spec_l3Names.T14.2 spec_l3Names.B14 = true := by kernel_rfl
theorem τ15 {P : Prop} (h : P := by
 first | obtain rfl := Option.some.inj H | (have H' := Aside0.mk H; clear H)
 have p169 : 0 ≤ (x5_1 : Int) := of_decide_eq_true ψ5
 have q169 : x5_1 < (l1.length : Int) := of_decide_eq_true ψ5
 obtain ⟨ad169, e169, hx169_0, hx169_1⟩ := at_T74 HR1.out x5_1 p169 q169
 cases e169
 replace hx169_0 := cB HB hx169_0
 replace hx169_1 := cB HB hx169_1
 replace p169 := eq_true p169
 replace q169 := eq_true q169
 try go_wp2
 have q := n2_ (blk_drew BK10.out) (below_drew1 HB.out)
 clear BK10 HB
 obtain ⟨BK10, HB⟩ := q
 have p170 : 0 ≤ (x5_1 : Int) := of_decide_eq_true ψ5
 have q170 : x5_1 < (l1.length : Int) := of_decide_eq_true ψ5
 obtain ⟨ad170, e170, hx170_0, hx170_1⟩ := at_T74 HR1.out x5_1 p170 q170
 have hw170_1 := hx170_1
 have hw170_0 := hx170_0
 obtain rfl : ad169 = ad170 := (by injection e170)
 replace hx170_0 := cB HB hx170_0
 replace hx170_1 := cB HB hx170_1
 replace p170 := eq_true p170
 replace q170 := eq_true q170
 refine start_ (n := 8) (S := fun w' => w'.cell? ⟨gb10, 0, none⟩ = some (.int .i64 a0_0) ∧ w'.cell? ⟨gb10, 1, none⟩ = some (.slice A0_1 l0_1.length c0_1) ∧ w'.cell? ⟨gb10, 2, none⟩ = some (.slice A0_2 l0_2.length c0_2) ∧ w'.cell? ⟨gb10, 3, none⟩ = some (.int .i64 a0_3) ∧ w'.cell? ⟨gb10, 4, none⟩ = some (.slice A0_4 l0_4.length c0_4) ∧ w'.cell? ⟨gb10, 5, none⟩ = some (.slice A0_5 l0_5.length c0_5) ∧ w'.cell? (ad169.add ((x5_1).toNat * 2)) = some (.int .i64 ((rd_T74 l1 x5_1).f0)) ∧ w'.cell? ⟨(ad169.add ((x5_1).toNat * 2)).block, (ad169.add ((x5_1).toNat * 2)).off + 1, none⟩ = some (.int .i64 ((rd_T74 l1 x5_1).f1))) (ds := []) #[false, false, false, false, false, false, false, false] ψ12 rfl rfl ⟨(blk_cell BK10.out 0).trans rfl, (blk_cell BK10.out 1).trans rfl, (blk_cell BK10.out 2).trans rfl, (blk_cell BK10.out 3).trans rfl, (blk_cell BK10.out 4).trans rfl, (blk_cell BK10.out 5).trans rfl, ((HB.out.cell (World.block_lt_of_cell? w _ hw170_0)).trans hw170_0), ((HB.out.cell (World.block_lt_of_cell? w _ hw170_1)).trans hw170_1)⟩ (fun hHeld => ?_); refine with_tabW spec_l3Names.tab8 spec_l3Names.bits8 (fun HT_ HW_ => ?_)
 generalize wr.drew = w1_ at BK10 HB hx170_0 hx170_1 hHeld ⊢
 refine rP 0 22 ?_; refine rP 1 23 ?_; refine rP 2 24 ?_; refine rP 3 25 ?_; refine rT 4 26 ?_; refine rT 5 27 ?_
 refine one_ (i := 6) (N := some 28) #[true, true, true, true, true, true, true, false] rfl rfl (one_of HT_.out ψ12) ψ13 (fun K hK => ?_)
 refine goes_ Try.func70 ψ12 rfl #[.agg #[.int .i64 a0_0, .slice A0_1 l0_1.length c0_1, .slice A0_2 l0_2.length c0_2, .int .i64 a0_3, .slice A0_4 l0_4.length c0_4, .slice A0_5 l0_5.length c0_5]] ψ14 rfl rfl ψ15 ?_
 with_reducible refine (spec_l3Size.calls k1 a0_0 _ _ l0_1 _ _ l0_2 a0_3 _ _ l0_4 _ _ l0_5 _ _ ?_ ?_ ?_ ?_ ?_ ?_ ?_ ?_ A10.out).mono ?_
 exact ψ9; exact HC0_1.out; exact ψ3; exact HC0_2.out; exact ψ16; exact HC0_4.out; exact ψ17; exact HC0_5.out
 rintro e w2_ ⟨rfl, hb⟩
 refine ⟨_, rfl, ?_⟩
 have q := n2_ (blk_below (g := gb10) ψ10 hb) (below_step ψ2 hb)
 clear BK10 HB
 obtain ⟨BK10, HB⟩ := q
 (try clear hb)
 refine hK.out _ _ ⟨(blk_cell BK10.out 0).trans rfl, (blk_cell BK10.out 1).trans rfl, (blk_cell BK10.out 2).trans rfl, (blk_cell BK10.out 3).trans rfl, (blk_cell BK10.out 4).trans rfl, (blk_cell BK10.out 5).trans rfl, ((HB.out.cell (World.block_lt_of_cell? w _ hw170_0)).trans hw170_0), ((HB.out.cell (World.block_lt_of_cell? w _ hw170_1)).trans hw170_1)⟩ (fun hHeld => ?_)
 clear hK K
 refine rN 28 ?_; refine rP 7 29 ?_
 refine done_ (done_of HT_.out ψ12) ?_
 try go_wp2
 first | (go_ret; exact ⟨ψ4, ψ2⟩) | (go_roundg k1; (case measure => have := HK1.out; omega); (case rel => exact ⟨(wrap64 (x5_1 + 1)), ψ7, H', ⟨ψ8⟩, ⟨ψ10⟩, ⟨ψ2⟩⟩))) : P := h
theorem τ16 {P : Prop} (h : P := by
 first | obtain rfl := Option.some.inj H | (have H' := Aside0.mk H; clear H)
 have p169 : 0 ≤ (x5_1 : Int) := of_decide_eq_true ψ5
 have q169 : x5_1 < (l1.length : Int) := of_decide_eq_true ψ5
 obtain ⟨ad169, e169, hx169_0, hx169_1⟩ := at_T74 HR1.out x5_1 p169 q169
 cases e169
 replace hx169_0 := cB HB hx169_0
 replace hx169_1 := cB HB hx169_1
 replace p169 := eq_true p169
 replace q169 := eq_true q169
 try go_wp2
 have q := n2_ (blk_drew BK10.out) (below_drew1 HB.out)
 clear BK10 HB
 obtain ⟨BK10, HB⟩ := q
 have p173 : 0 ≤ (x5_1 : Int) := of_decide_eq_true ψ5
 have q173 : x5_1 < (l1.length : Int) := of_decide_eq_true ψ5
 obtain ⟨ad173, e173, hx173_0, hx173_1⟩ := at_T74 HR1.out x5_1 p173 q173
 have hw173_1 := hx173_1
 have hw173_0 := hx173_0
 obtain rfl : ad169 = ad173 := (by injection e173)
 replace hx173_0 := cB HB hx173_0
 replace hx173_1 := cB HB hx173_1
 replace p173 := eq_true p173
 replace q173 := eq_true q173
 refine start_ (n := 8) (S := fun w' => w'.cell? ⟨gb10, 0, none⟩ = some (.int .i64 a0_0) ∧ w'.cell? ⟨gb10, 1, none⟩ = some (.slice A0_1 l0_1.length c0_1) ∧ w'.cell? ⟨gb10, 2, none⟩ = some (.slice A0_2 l0_2.length c0_2) ∧ w'.cell? ⟨gb10, 3, none⟩ = some (.int .i64 a0_3) ∧ w'.cell? ⟨gb10, 4, none⟩ = some (.slice A0_4 l0_4.length c0_4) ∧ w'.cell? ⟨gb10, 5, none⟩ = some (.slice A0_5 l0_5.length c0_5) ∧ w'.cell? (ad169.add ((x5_1).toNat * 2)) = some (.int .i64 ((rd_T74 l1 x5_1).f0)) ∧ w'.cell? ⟨(ad169.add ((x5_1).toNat * 2)).block, (ad169.add ((x5_1).toNat * 2)).off + 1, none⟩ = some (.int .i64 ((rd_T74 l1 x5_1).f1))) (ds := []) #[false, false, false, false, false, false, false, false] ψ12 rfl rfl ⟨(blk_cell BK10.out 0).trans rfl, (blk_cell BK10.out 1).trans rfl, (blk_cell BK10.out 2).trans rfl, (blk_cell BK10.out 3).trans rfl, (blk_cell BK10.out 4).trans rfl, (blk_cell BK10.out 5).trans rfl, ((HB.out.cell (World.block_lt_of_cell? w _ hw173_0)).trans hw173_0), ((HB.out.cell (World.block_lt_of_cell? w _ hw173_1)).trans hw173_1)⟩ (fun hHeld => ?_); refine with_tabW spec_l3Names.tab11 spec_l3Names.bits11 (fun HT_ HW_ => ?_)
 generalize wr.drew = w1_ at BK10 HB hx173_0 hx173_1 hHeld ⊢
 refine rP 0 32 ?_; refine rP 1 33 ?_; refine rP 2 34 ?_; refine rP 3 35 ?_; refine rT 4 36 ?_; refine rT 5 37 ?_
 refine one_ (i := 6) (N := some 38) #[true, true, true, true, true, true, true, false] rfl rfl (one_of HT_.out ψ12) ψ13 (fun K hK => ?_)
 refine goes_ Try.func69 ψ12 rfl #[.agg #[.int .i64 a0_0, .slice A0_1 l0_1.length c0_1, .slice A0_2 l0_2.length c0_2, .int .i64 a0_3, .slice A0_4 l0_4.length c0_4, .slice A0_5 l0_5.length c0_5]] ψ14 rfl rfl ψ15 ?_
 with_reducible refine (spec_l3Vars.calls a0_0 _ _ l0_1 _ _ l0_2 a0_3 _ _ l0_4 _ _ l0_5 _ _ ?_ ?_ ?_ ?_ ?_ ?_ ?_ ?_ A17.out).mono ?_
 exact ψ9; exact HC0_1.out; exact ψ3; exact HC0_2.out; exact ψ16; exact HC0_4.out; exact ψ17; exact HC0_5.out
 rintro e w2_ ⟨rfl, hb⟩
 refine ⟨_, rfl, ?_⟩
 have q := n2_ (blk_below (g := gb10) ψ10 hb) (below_step ψ2 hb)
 clear BK10 HB
 obtain ⟨BK10, HB⟩ := q
 (try clear hb)
 refine hK.out _ _ ⟨(blk_cell BK10.out 0).trans rfl, (blk_cell BK10.out 1).trans rfl, (blk_cell BK10.out 2).trans rfl, (blk_cell BK10.out 3).trans rfl, (blk_cell BK10.out 4).trans rfl, (blk_cell BK10.out 5).trans rfl, ((HB.out.cell (World.block_lt_of_cell? w _ hw173_0)).trans hw173_0), ((HB.out.cell (World.block_lt_of_cell? w _ hw173_1)).trans hw173_1)⟩ (fun hHeld => ?_)
 clear hK K
 refine rN 38 ?_; refine rP 7 39 ?_
 refine done_ (done_of HT_.out ψ12) ?_
 try go_wp2
 first | (go_ret; exact ⟨ψ4, ψ2⟩) | (go_roundg k1; (case measure => have := HK1.out; omega); (case rel => exact ⟨(wrap64 (x5_1 + 1)), ψ7, H', ⟨ψ8⟩, ⟨ψ10⟩, ⟨ψ2⟩⟩))) : P := h
theorem τ17 {P : Prop} (h : P := by
 first | obtain rfl := Option.some.inj H | (have H' := Aside0.mk H; clear H)
 have p169 : 0 ≤ (x5_1 : Int) := of_decide_eq_true ψ5
 have q169 : x5_1 < (l1.length : Int) := of_decide_eq_true ψ5
 obtain ⟨ad169, e169, hx169_0, hx169_1⟩ := at_T74 HR1.out x5_1 p169 q169
 cases e169
 replace hx169_0 := cB HB hx169_0
 replace hx169_1 := cB HB hx169_1
 replace p169 := eq_true p169
 replace q169 := eq_true q169
 try go_wp2
 have q := n2_ (blk_drew BK10.out) (below_drew1 HB.out)
 clear BK10 HB
 obtain ⟨BK10, HB⟩ := q
 have p176 : 0 ≤ (x5_1 : Int) := of_decide_eq_true ψ5
 have q176 : x5_1 < (l1.length : Int) := of_decide_eq_true ψ5
 obtain ⟨ad176, e176, hx176_0, hx176_1⟩ := at_T74 HR1.out x5_1 p176 q176
 have hw176_1 := hx176_1
 have hw176_0 := hx176_0
 obtain rfl : ad169 = ad176 := (by injection e176)
 replace hx176_0 := cB HB hx176_0
 replace hx176_1 := cB HB hx176_1
 replace p176 := eq_true p176
 replace q176 := eq_true q176
 refine start_ (n := 9) (S := fun w' => w'.cell? ⟨gb10, 0, none⟩ = some (.int .i64 a0_0) ∧ w'.cell? ⟨gb10, 1, none⟩ = some (.slice A0_1 l0_1.length c0_1) ∧ w'.cell? ⟨gb10, 2, none⟩ = some (.slice A0_2 l0_2.length c0_2) ∧ w'.cell? ⟨gb10, 3, none⟩ = some (.int .i64 a0_3) ∧ w'.cell? ⟨gb10, 4, none⟩ = some (.slice A0_4 l0_4.length c0_4) ∧ w'.cell? ⟨gb10, 5, none⟩ = some (.slice A0_5 l0_5.length c0_5) ∧ w'.cell? (ad169.add ((x5_1).toNat * 2)) = some (.int .i64 ((rd_T74 l1 x5_1).f0)) ∧ w'.cell? ⟨(ad169.add ((x5_1).toNat * 2)).block, (ad169.add ((x5_1).toNat * 2)).off + 1, none⟩ = some (.int .i64 ((rd_T74 l1 x5_1).f1))) (ds := []) #[false, false, false, false, false, false, false, false, false] ψ12 rfl rfl ⟨(blk_cell BK10.out 0).trans rfl, (blk_cell BK10.out 1).trans rfl, (blk_cell BK10.out 2).trans rfl, (blk_cell BK10.out 3).trans rfl, (blk_cell BK10.out 4).trans rfl, (blk_cell BK10.out 5).trans rfl, ((HB.out.cell (World.block_lt_of_cell? w _ hw176_0)).trans hw176_0), ((HB.out.cell (World.block_lt_of_cell? w _ hw176_1)).trans hw176_1)⟩ (fun hHeld => ?_); refine with_tabW spec_l3Names.tab14 spec_l3Names.bits14 (fun HT_ HW_ => ?_)
 generalize wr.drew = w1_ at BK10 HB hx176_0 hx176_1 hHeld ⊢
 refine rP 0 42 ?_; refine rP 1 43 ?_; refine rP 2 44 ?_; refine rP 3 45 ?_; refine rP 5 47 ?_; refine rT 4 46 ?_; refine rT 6 48 ?_; refine rP 7 49 ?_; refine rP 8 50 ?_
 refine done_ (done_of HT_.out ψ12) ?_
 try go_wp2
 first | (go_ret; exact ⟨ψ4, ψ2⟩) | (go_roundg k1; (case measure => have := HK1.out; omega); (case rel => exact ⟨(wrap64 (x5_1 + 1)), ψ7, H', ⟨ψ8⟩, ⟨ψ10⟩, ⟨ψ2⟩⟩))) : P := h
theorem spec_l3Names.calls (k : Nat) (a0_0 : Int) (A0_1 : Option Addr) (c0_1 : Nat) (l0_1 : List (S106)) (A0_2 : Option Addr) (c0_2 : Nat) (l0_2 : List (S106)) (a0_3 : Int) (A0_4 : Option Addr) (c0_4 : Nat) (l0_4 : List Int) (A0_5 : Option Addr) (c0_5 : Nat) (l0_5 : List (S114)) (A1 : Option Addr) (c1 : Nat) (l1 : List (S74)) (r : Bool) (w : World) (hr0_1 : Kd.C k106 w A0_1 l0_1.length l0_1) (hc0_1 : l0_1.length ≤ c0_1) (hr0_2 : Kd.C k106 w A0_2 l0_2.length l0_2) (hc0_2 : l0_2.length ≤ c0_2) (hr0_4 : Kd.C (Kd.int .i64) w A0_4 l0_4.length l0_4) (hc0_4 : l0_4.length ≤ c0_4) (hr0_5 : Kd.C k114 w A0_5 l0_5.length l0_5) (hc0_5 : l0_5.length ≤ c0_5) (hr1 : Kd.C k74 w A1 l1.length l1) (hc1 : l1.length ≤ c1) (h : spec_l3Names.f k a0_0 l0_1 l0_2 a0_3 l0_4 l0_5 l1 = some r) :
 Calls Try.prog 103 #[.agg #[.int .i64 a0_0, .slice A0_1 l0_1.length c0_1, .slice A0_2 l0_2.length c0_2, .int .i64 a0_3, .slice A0_4 l0_4.length c0_4, .slice A0_5 l0_5.length c0_5], .slice A1 l1.length c1] w fun e w' => e = .returned (.bool r) ∧ Below w.heap.size w w' := by
 have hu36 := Try.underlying36
 have q := n10_ hr0_1 hc0_1 hr0_2 hc0_2 hr0_4 hc0_4 hr0_5 hc0_5 hr1 hc1
 clear hr0_1 hc0_1 hr0_2 hc0_2 hr0_4 hc0_4 hr0_5 hc0_5 hr1 hc1
 obtain ⟨HR0_1, HC0_1, HR0_2, HC0_2, HR0_4, HC0_4, HR0_5, HC0_5, HR1, HC1⟩ := q
 have HB := Aside0.mk (Below.refl w.heap.size w)
 unfold spec_l3Names.f at h
 have H := h
 clear h
 replace H := bS H; obtain ⟨t168, A3, H⟩ := H
 replace H := ifB H; rcases H with ⟨rfl, H⟩ | ⟨rfl, H⟩
 ·have H' := Aside0.mk H
  clear H
  go_enter Try.func103, Try.ntmps103
  go_wp2_with (first | ((with_reducible refine gate_dst (N := 2) rfl ?_); refine bE 2 #[.int .i64 a0_0, .slice A0_1 l0_1.length c0_1, .slice A0_2 l0_2.length c0_2, .int .i64 a0_3, .slice A0_4 l0_4.length c0_4, .slice A0_5 l0_5.length c0_5] 36 ?_; intro gb10 hg w5 hbox hb; have q := n4_ (below_step ψ2 hb) (hbox) ((ψ113 : w.heap.size ≤ gb10)) ((ψ113 : w.heap.size ≤ gb10)); clear HB; obtain ⟨HB, BK10, GW10, GE10⟩ := q; clear hb hbox hg) | ((with_reducible refine gate_callee (f := 127) rfl ?_); refine gL 7 Try.func127 #[.slice A1 l1.length c1] ?_; (with_reducible refine (spec_ExpOk.calls k _ _ l1 _ _ ?_ ?_ A3.out).mono ?_); exact ψ23; exact HC1.out; rintro e w6 ⟨rfl, hb⟩; refine ⟨_, rfl, ?_⟩; have q := n2_ (blk_below (g := gb10) ψ10 hb) (below_step ψ2 hb); clear BK10 HB; obtain ⟨BK10, HB⟩ := q; (try clear hb)))
  go_loopg [5] k (fun kq v5 w' => ∃ (x5_1 : Int), v5 = .int .i64 x5_1 ∧ Aside0 (spec_l3Names.l0 kq l1 x5_1 a0_0 l0_1 l0_2 a0_3 l0_4 l0_5 = some r) ∧ Aside0 (kq ≤ k) ∧ Aside0 (w'.heap[gb10]? = some (.cells #[.int .i64 a0_0, (.slice A0_1 l0_1.length c0_1), (.slice A0_2 l0_2.length c0_2), .int .i64 a0_3, (.slice A0_4 l0_4.length c0_4), (.slice A0_5 l0_5.length c0_5)] 36 (0, 0))) ∧ Aside0 (Below w.heap.size w w'))
  case atStart => exact ⟨(0), ψ7, H', ⟨Nat.le_refl _⟩, ⟨ψ10⟩, ⟨ψ2⟩⟩
  case round =>
   clear H'
   try clear c1
   try clear c4
   obtain ⟨x5_1, rfl, HA, HK1, BK10, HB⟩ := hrel
   cases gk with
   | zero => exact absurd HA.out (by simp [spec_l3Names.l0])
   | succ k1 =>
    have H := HA.out
    clear HA
    simp only [spec_l3Names.l0] at H
    replace H := ifD H; rcases H with ⟨c7b0, H⟩ | ⟨c7b0, H⟩
    ·replace H := ifN H; obtain ⟨c8b0, H⟩ := H
     replace H := ifF H; rcases H with ⟨c9b0, c9b1, H⟩ | ⟨c9b0, c9b1, c9, H⟩
     ·replace H := bS H; obtain ⟨t172, A10, H⟩ := H
      replace H := ifL H; rcases H with ⟨c11b0, H⟩ | ⟨c11b0, H⟩
      ·exact τ15
      ·exact τ15
     ·by_cases c16 : ((rd_T74 l1 x5_1).f0) = 1
      ·rw [if_pos c16] at H
       have c16b0 : (((rd_T74 l1 x5_1).f0) == 1) = true := beq_iff_eq.mpr c16
       have c16b1 : (((rd_T74 l1 x5_1).f0) != 1) = false := bne_eq_false_iff_eq.mpr c16
       clear c16
       replace H := bS H; obtain ⟨t175, A17, H⟩ := H
       replace H := ifL H; rcases H with ⟨c18b0, H⟩ | ⟨c18b0, H⟩
       ·exact τ16
       ·exact τ16
      ·rw [if_neg c16] at H
       have c16b0 : (((rd_T74 l1 x5_1).f0) == 1) = false := beq_eq_false_iff_ne.mpr c16
       have c16b1 : (((rd_T74 l1 x5_1).f0) != 1) = true := bne_iff_ne.mpr c16
       replace H := ifF H; rcases H with ⟨c23b0, c23b1, H⟩ | ⟨c23b0, c23b1, c23, H⟩
       ·by_cases c24 : ((rd_T74 l1 x5_1).f1) ≥ (l0_4.length : Int)
        ·rw [if_pos c24] at H
         have c24b0 : decide ((l0_4.length : Int) ≤ ((rd_T74 l1 x5_1).f1)) = true := decide_eq_true c24
         clear c24
         exact τ17
        ·rw [if_neg c24] at H
         have c24b0 : decide ((l0_4.length : Int) ≤ ((rd_T74 l1 x5_1).f1)) = false := decide_eq_false c24
         clear c24
         exact τ17
       ·have H' := Aside0.mk H
        clear H
        have p169 : 0 ≤ (x5_1 : Int) := of_decide_eq_true ψ5
        have q169 : x5_1 < (l1.length : Int) := of_decide_eq_true ψ5
        obtain ⟨ad169, e169, hx169_0, hx169_1⟩ := at_T74 HR1.out x5_1 p169 q169
        cases e169
        replace hx169_0 := cB HB hx169_0
        replace hx169_1 := cB HB hx169_1
        replace p169 := eq_true p169
        replace q169 := eq_true q169
        go_wp2
        go_roundg k1
        case measure => have := HK1.out; omega
        case rel => exact ⟨(wrap64 (x5_1 + 1)), ψ7, H', ⟨ψ8⟩, ⟨ψ10⟩, ⟨ψ2⟩⟩
    ·obtain rfl := Option.some.inj H
     go_wp2
     go_ret
     exact ⟨ψ4, ψ2⟩
 ·obtain rfl := Option.some.inj H
  go_enter Try.func103, Try.ntmps103
  go_wp2_with (first | ((with_reducible refine gate_dst (N := 2) rfl ?_); refine bE 2 #[.int .i64 a0_0, .slice A0_1 l0_1.length c0_1, .slice A0_2 l0_2.length c0_2, .int .i64 a0_3, .slice A0_4 l0_4.length c0_4, .slice A0_5 l0_5.length c0_5] 36 ?_; intro gb10 hg w27 hbox hb; have q := n4_ (below_step ψ2 hb) (hbox) ((ψ113 : w.heap.size ≤ gb10)) ((ψ113 : w.heap.size ≤ gb10)); clear HB; obtain ⟨HB, BK10, GW10, GE10⟩ := q; clear hb hbox hg) | ((with_reducible refine gate_callee (f := 127) rfl ?_); refine gL 7 Try.func127 #[.slice A1 l1.length c1] ?_; (with_reducible refine (spec_ExpOk.calls k _ _ l1 _ _ ?_ ?_ A3.out).mono ?_); exact ψ23; exact HC1.out; rintro e w28 ⟨rfl, hb⟩; refine ⟨_, rfl, ?_⟩; have q := n2_ (blk_below (g := gb10) ψ10 hb) (below_step ψ2 hb); clear BK10 HB; obtain ⟨BK10, HB⟩ := q; (try clear hb)))
  go_ret
  exact ⟨ψ4, ψ2⟩

/-! ### spec_l3Exp: function 101 -/
def spec_l3Exp.l0 : Nat → List (S74) → Int → Int → List (S106) → List (S106) → Int → List Int → List (S114) → Option (Bool)
 | 0, _, _, _, _, _, _, _, _ => none
 | k + 1, x1, x5, x179000, x179001, x179002, x179003, x179004, x179005 => if x5 < (x1.length : Int) then (if 0 ≤ x5 then (if ((rd_T74 x1 x5).f0) = 17 then (some false) else (spec_l3Exp.l0 k x1 (wrap64 (x5 + 1)) x179000 x179001 x179002 x179003 x179004 x179005)) else (none)) else (if (x1.length : Int) ≤ 40 then ((spec_l3Names.f k x179000 x179001 x179002 x179003 x179004 x179005 x1).bind fun t181 => (some t181)) else (some false))
def spec_l3Exp.f (k : Nat) (a0_0 : Int) (l0_1 : List (S106)) (l0_2 : List (S106)) (a0_3 : Int) (l0_4 : List Int) (l0_5 : List (S114)) (l1 : List (S74)) : Option (Bool) := spec_l3Exp.l0 k l1 0 a0_0 l0_1 l0_2 a0_3 l0_4 l0_5
theorem τ18 {P : Prop} (h : P := by
 first | obtain rfl := Option.some.inj H | (have H' := Aside0.mk H; clear H)
 try (obtain ⟨hczB10_0, hczB10_1, hczB10_2, hczB10_3, hczB10_4, hczB10_5, hfzB10_0, hfzB10_1, hfzB10_2, hfzB10_3, hfzB10_4, hfzB10_5⟩ := cells6 BK10.out)
 try (have p179 : 0 ≤ (x5_1 : Int) := of_decide_eq_true ψ5; have q179 : x5_1 < (l1.length : Int) := of_decide_eq_true ψ5; obtain ⟨ad179, e179, hx179_0, hx179_1⟩ := at_T74 HR1.out x5_1 p179 q179; cases e179; replace hx179_0 := cB HB hx179_0; replace hx179_1 := cB HB hx179_1; replace p179 := eq_true p179; replace q179 := eq_true q179)
 go_wp2_with (first | (go_at_call 103; (with_reducible refine (spec_l3Names.calls k1 a0_0 _ _ l0_1 _ _ l0_2 a0_3 _ _ l0_4 _ _ l0_5 _ _ l1 _ _ ?_ ?_ ?_ ?_ ?_ ?_ ?_ ?_ ?_ ?_ A8.out).mono ?_); exact ψ9; exact HC0_1.out; exact ψ3; exact HC0_2.out; exact ψ16; exact HC0_4.out; exact ψ17; exact HC0_5.out; exact ψ23; exact HC1.out; rintro e w1_ ⟨rfl, hb⟩; have q := n2_ (blk_below (g := gb10) ψ10 hb) (below_step ψ2 hb); clear BK10 HB; obtain ⟨BK10, HB⟩ := q; (try clear hb)))
 first | (go_ret; exact ⟨ψ4, ψ2⟩) | (go_roundg k1; (case measure => have := HK1.out; omega); (case rel => exact ⟨(wrap64 (x5_1 + 1)), ψ7, H', ⟨ψ8⟩, ⟨ψ10⟩, ⟨ψ2⟩⟩))) : P := h
theorem spec_l3Exp.calls (k : Nat) (a0_0 : Int) (A0_1 : Option Addr) (c0_1 : Nat) (l0_1 : List (S106)) (A0_2 : Option Addr) (c0_2 : Nat) (l0_2 : List (S106)) (a0_3 : Int) (A0_4 : Option Addr) (c0_4 : Nat) (l0_4 : List Int) (A0_5 : Option Addr) (c0_5 : Nat) (l0_5 : List (S114)) (A1 : Option Addr) (c1 : Nat) (l1 : List (S74)) (r : Bool) (w : World) (hr0_1 : Kd.C k106 w A0_1 l0_1.length l0_1) (hc0_1 : l0_1.length ≤ c0_1) (hr0_2 : Kd.C k106 w A0_2 l0_2.length l0_2) (hc0_2 : l0_2.length ≤ c0_2) (hr0_4 : Kd.C (Kd.int .i64) w A0_4 l0_4.length l0_4) (hc0_4 : l0_4.length ≤ c0_4) (hr0_5 : Kd.C k114 w A0_5 l0_5.length l0_5) (hc0_5 : l0_5.length ≤ c0_5) (hr1 : Kd.C k74 w A1 l1.length l1) (hc1 : l1.length ≤ c1) (h : spec_l3Exp.f k a0_0 l0_1 l0_2 a0_3 l0_4 l0_5 l1 = some r) :
 Calls Try.prog 101 #[.agg #[.int .i64 a0_0, .slice A0_1 l0_1.length c0_1, .slice A0_2 l0_2.length c0_2, .int .i64 a0_3, .slice A0_4 l0_4.length c0_4, .slice A0_5 l0_5.length c0_5], .slice A1 l1.length c1] w fun e w' => e = .returned (.bool r) ∧ Below w.heap.size w w' := by
 have hu36 := Try.underlying36
 have q := n10_ hr0_1 hc0_1 hr0_2 hc0_2 hr0_4 hc0_4 hr0_5 hc0_5 hr1 hc1
 clear hr0_1 hc0_1 hr0_2 hc0_2 hr0_4 hc0_4 hr0_5 hc0_5 hr1 hc1
 obtain ⟨HR0_1, HC0_1, HR0_2, HC0_2, HR0_4, HC0_4, HR0_5, HC0_5, HR1, HC1⟩ := q
 have HB := Aside0.mk (Below.refl w.heap.size w)
 unfold spec_l3Exp.f at h
 have H := h
 clear h
 have H' := Aside0.mk H
 clear H
 go_enter Try.func101, Try.ntmps101
 go_wp2_with (first | ((with_reducible refine gate_dst (N := 2) rfl ?_); refine bE 2 #[.int .i64 a0_0, .slice A0_1 l0_1.length c0_1, .slice A0_2 l0_2.length c0_2, .int .i64 a0_3, .slice A0_4 l0_4.length c0_4, .slice A0_5 l0_5.length c0_5] 36 ?_; intro gb10 hg w3 hbox hb; have q := n4_ (below_step ψ2 hb) (hbox) ((ψ113 : w.heap.size ≤ gb10)) ((ψ113 : w.heap.size ≤ gb10)); clear HB; obtain ⟨HB, BK10, GW10, GE10⟩ := q; clear hb hbox hg))
 go_loopg [5] k (fun kq v5 w' => ∃ (x5_1 : Int), v5 = .int .i64 x5_1 ∧ Aside0 (spec_l3Exp.l0 kq l1 x5_1 a0_0 l0_1 l0_2 a0_3 l0_4 l0_5 = some r) ∧ Aside0 (kq ≤ k) ∧ Aside0 (w'.heap[gb10]? = some (.cells #[.int .i64 a0_0, (.slice A0_1 l0_1.length c0_1), (.slice A0_2 l0_2.length c0_2), .int .i64 a0_3, (.slice A0_4 l0_4.length c0_4), (.slice A0_5 l0_5.length c0_5)] 36 (0, 0))) ∧ Aside0 (Below w.heap.size w w'))
 case atStart => exact ⟨(0), ψ7, H', ⟨Nat.le_refl _⟩, ⟨ψ10⟩, ⟨ψ2⟩⟩
 case round =>
  clear H'
  try clear c1
  obtain ⟨x5_1, rfl, HA, HK1, BK10, HB⟩ := hrel
  cases gk with
  | zero => exact absurd HA.out (by simp [spec_l3Exp.l0])
  | succ k1 =>
   have H := HA.out
   clear HA
   simp only [spec_l3Exp.l0] at H
   replace H := ifD H; rcases H with ⟨c4b0, H⟩ | ⟨c4b0, H⟩
   ·replace H := ifN H; obtain ⟨c5b0, H⟩ := H
    replace H := ifF H; rcases H with ⟨c6b0, c6b1, H⟩ | ⟨c6b0, c6b1, c6, H⟩
    ·exact τ18
    ·exact τ18
   ·by_cases c7 : (l1.length : Int) ≤ 40
    ·rw [if_pos c7] at H
     have c7b0 : decide ((l1.length : Int) ≤ 40) = true := decide_eq_true c7
     have c7b1 : decide (l1.length ≤ 40) = true := decide_eq_true ψ21
     clear c7
     replace H := bS H; obtain ⟨t181, A8, H⟩ := H
     exact τ18
    ·rw [if_neg c7] at H
     have c7b0 : decide ((l1.length : Int) ≤ 40) = false := decide_eq_false c7
     have c7b1 : decide (l1.length ≤ 40) = false := decide_eq_false ψ21
     clear c7
     exact τ18

/-! ### spec_l3Stmt: function 146 -/
mutual
def spec_l3Stmt.j0 : Nat → Bool → Int → List (S106) → List (S106) → Int → List Int → List (S114) → Int → Int → List (S74) → List (S74) → Option (Bool)
 | 0, _, _, _, _, _, _, _, _, _, _, _ => none
 | k + 1, x5, x183000, x183001, x183002, x183003, x183004, x183005, x184000, x184001, x184002, x184003 => (spec_l1In.f x184000 0 9).bind fun t189 => (if t189 = true then (if (x5 != (decide ((x184003.length : Int) > 0))) = true then (spec_l3Stmt.j1 k x5 true x183000 x183001 x183002 x183003 x183004 x183005 x184000 x184001 x184002 x184003) else (spec_l3Stmt.j1 k x5 ((x184000 == 1) != (decide ((x184002.length : Int) > 0))) x183000 x183001 x183002 x183003 x183004 x183005 x184000 x184001 x184002 x184003)) else (spec_l3Stmt.j1 k x5 true x183000 x183001 x183002 x183003 x183004 x183005 x184000 x184001 x184002 x184003))
def spec_l3Stmt.j1 : Nat → Bool → Bool → Int → List (S106) → List (S106) → Int → List Int → List (S114) → Int → Int → List (S74) → List (S74) → Option (Bool)
 | 0, _, _, _, _, _, _, _, _, _, _, _, _ => none
 | k + 1, x5, x46, x183000, x183001, x183002, x183003, x183004, x183005, x184000, x184001, x184002, x184003 => if x46 = true then (some false) else (if x5 = true then ((spec_l3Exp.f k x183000 x183001 x183002 x183003 x183004 x183005 x184003).bind fun t195 => (if t195 = true then (if x184000 = 1 then ((spec_l3Exp.f k x183000 x183001 x183002 x183003 x183004 x183005 x184002).bind fun t199 => (spec_l3Stmt.j2 k (!t199) x183000 x183001 x183002 x183003 x183004 x183005 x184000 x184001 x184002 x184003)) else (spec_l3Stmt.j2 k false x183000 x183001 x183002 x183003 x183004 x183005 x184000 x184001 x184002 x184003)) else (spec_l3Stmt.j2 k true x183000 x183001 x183002 x183003 x183004 x183005 x184000 x184001 x184002 x184003))) else (if x184000 = 1 then ((spec_l3Exp.f k x183000 x183001 x183002 x183003 x183004 x183005 x184002).bind fun t203 => (spec_l3Stmt.j2 k (!t203) x183000 x183001 x183002 x183003 x183004 x183005 x184000 x184001 x184002 x184003)) else (spec_l3Stmt.j2 k false x183000 x183001 x183002 x183003 x183004 x183005 x184000 x184001 x184002 x184003)))
def spec_l3Stmt.j2 : Nat → Bool → Int → List (S106) → List (S106) → Int → List Int → List (S114) → Int → Int → List (S74) → List (S74) → Option (Bool)
 | 0, _, _, _, _, _, _, _, _, _, _, _ => none
 | k + 1, x66, x183000, x183001, x183002, x183003, x183004, x183005, x184000, x184001, x184002, x184003 => if x66 = true then (some false) else (if x184000 = 0 then ((spec_l1In.f x184001 (wrap64 ((x183001.length : Int) + (x183002.length : Int))) (wrap64 ((wrap64 ((wrap64 ((x183001.length : Int) + (x183002.length : Int))) + x183003)) - 1))).bind fun t209 => (some t209)) else (if x184000 = 1 then ((spec_l1In.f x184001 0 (wrap64 ((x183004.length : Int) - 1))).bind fun t212 => (some t212)) else (if x184000 = 5 then ((spec_l1In.f x184001 0 4).bind fun t214 => (some t214)) else (if x184000 = 7 then ((spec_l1In.f x184001 0 9).bind fun t216 => (some t216)) else (if x184000 = 9 then ((spec_l1In.f x184001 0 9).bind fun t218 => (some t218)) else (some (x184001 == 0)))))))
end
def spec_l3Stmt.f (k : Nat) (a0_0 : Int) (l0_1 : List (S106)) (l0_2 : List (S106)) (a0_3 : Int) (l0_4 : List Int) (l0_5 : List (S114)) (a1_0 : Int) (a1_1 : Int) (l1_2 : List (S74)) (l1_3 : List (S74)) : Option (Bool) := if a1_0 = 0 then (spec_l3Stmt.j0 k true a0_0 l0_1 l0_2 a0_3 l0_4 l0_5 a1_0 a1_1 l1_2 l1_3) else (if a1_0 = 1 then (spec_l3Stmt.j0 k true a0_0 l0_1 l0_2 a0_3 l0_4 l0_5 a1_0 a1_1 l1_2 l1_3) else (if a1_0 = 2 then (spec_l3Stmt.j0 k true a0_0 l0_1 l0_2 a0_3 l0_4 l0_5 a1_0 a1_1 l1_2 l1_3) else (spec_l3Stmt.j0 k (a1_0 == 6) a0_0 l0_1 l0_2 a0_3 l0_4 l0_5 a1_0 a1_1 l1_2 l1_3)))
theorem τ19 {P : Prop} (h : P := by
 have H' := Aside0.mk H
 clear H
 have hnb1_ := NB11_10.out
 have hnc1_ := NB10_11.out
 obtain ⟨hczB11_0, hczB11_1, hczB11_2, hczB11_3, hfzB11_0, hfzB11_1, hfzB11_2, hfzB11_3⟩ := cells4 BK11.out
 go_wp2
 first | (go_meet; (case rel => exact ⟨_, (true), ψ7, H', ⟨ψ19⟩, ⟨ψ10⟩, ⟨ψ24⟩, ⟨ψ25⟩⟩)) | (go_meet; (case rel => exact ⟨_, ((a1_0 == 6)), ψ7, H', ⟨ψ19⟩, ⟨ψ10⟩, ⟨ψ24⟩, ⟨ψ25⟩⟩))) : P := h
theorem τ20 {P : Prop} (h : P := by
 have H' := Aside0.mk H
 clear H
 have hnb1_ := NB11_10.out
 have hnc1_ := NB10_11.out
 obtain ⟨hczB11_0, hczB11_1, hczB11_2, hczB11_3, hfzB11_0, hfzB11_1, hfzB11_2, hfzB11_3⟩ := cells4 BK11.out
 go_wp2_with (first | ((with_reducible refine gate_callee (f := 79) rfl ?_); refine gL 27 Try.func79 #[.int .i64 a1_0, .int .i64 0, .int .i64 9] ?_; (with_reducible refine (spec_l1In.calls a1_0 0 9 _ _ A18.out).mono ?_); rintro e w' ⟨rfl, ⟨nd, rfl⟩⟩; refine ⟨_, rfl, ?_⟩))
 first | (go_meet; (case rel => exact ⟨_, (true), ψ7, H', ⟨ψ26⟩, ⟨ψ10⟩, ⟨ψ24⟩, ⟨ψ25⟩⟩)) | (go_meet; (case rel => exact ⟨_, (((a1_0 == 1) != (decide ((l1_2.length : Int) > 0)))), (by first | rfl | (simp; done) | (simp [*]; done) | (simp; cases (a1_0 == 1) <;> cases (decide (0 < l1_2.length)) <;> rfl) | (simp [*]; cases (a1_0 == 1) <;> cases (decide (0 < l1_2.length)) <;> rfl)), H', ⟨ψ26⟩, ⟨ψ10⟩, ⟨ψ24⟩, ⟨ψ25⟩⟩))) : P := h
theorem τ21 {P : Prop} (h : P := by
 have H' := Aside0.mk H
 clear H
 try (have hnb1_ := NB11_10.out)
 try (have hnc1_ := NB10_11.out)
 try (have hnb1_ := NB10_11.out)
 try (have hnc1_ := NB11_10.out)
 try (obtain ⟨hczB10_0, hczB10_1, hczB10_2, hczB10_3, hczB10_4, hczB10_5, hfzB10_0, hfzB10_1, hfzB10_2, hfzB10_3, hfzB10_4, hfzB10_5⟩ := cells6 BK10.out)
 obtain ⟨hczB11_0, hczB11_1, hczB11_2, hczB11_3, hfzB11_0, hfzB11_1, hfzB11_2, hfzB11_3⟩ := cells4 BK11.out
 go_wp2_with (first | (go_at_call 101; (with_reducible refine (spec_l3Exp.calls kj16 a0_0 _ _ l0_1 _ _ l0_2 a0_3 _ _ l0_4 _ _ l0_5 _ _ l1_3 _ _ ?_ ?_ ?_ ?_ ?_ ?_ ?_ ?_ ?_ ?_ A30.out).mono ?_); exact ψ9; exact HC0_1.out; exact ψ3; exact HC0_2.out; exact ψ16; exact HC0_4.out; exact ψ17; exact HC0_5.out; exact ψ27; exact HC1_3.out; rintro e w1_ ⟨rfl, hb⟩; have q := n3_ (blk_below (g := gb10) ψ10 hb) (blk_below (g := gb11) ψ24 hb) (below_step ψ25 hb); clear BK10 BK11 HB; obtain ⟨BK10, BK11, HB⟩ := q; (try clear hb); (try (obtain ⟨hczB11_0, hczB11_1, hczB11_2, hczB11_3, hfzB11_0, hfzB11_1, hfzB11_2, hfzB11_3⟩ := cells4 BK11.out)); (try (obtain ⟨hczB10_0, hczB10_1, hczB10_2, hczB10_3, hczB10_4, hczB10_5, hfzB10_0, hfzB10_1, hfzB10_2, hfzB10_3, hfzB10_4, hfzB10_5⟩ := cells6 BK10.out))) | (go_at_call 101; (with_reducible refine (spec_l3Exp.calls kj16 a0_0 _ _ l0_1 _ _ l0_2 a0_3 _ _ l0_4 _ _ l0_5 _ _ l1_2 _ _ ?_ ?_ ?_ ?_ ?_ ?_ ?_ ?_ ?_ ?_ A33.out).mono ?_); exact ψ9; exact HC0_1.out; exact ψ3; exact HC0_2.out; exact ψ16; exact HC0_4.out; exact ψ17; exact HC0_5.out; exact ψ28; exact HC1_2.out; rintro e w2_ ⟨rfl, hb⟩; have q := n3_ (blk_below (g := gb10) ψ10 hb) (blk_below (g := gb11) ψ24 hb) (below_step ψ25 hb); clear BK10 BK11 HB; obtain ⟨BK10, BK11, HB⟩ := q; (try clear hb)) | (go_at_call 101; (with_reducible refine (spec_l3Exp.calls kj16 a0_0 _ _ l0_1 _ _ l0_2 a0_3 _ _ l0_4 _ _ l0_5 _ _ l1_2 _ _ ?_ ?_ ?_ ?_ ?_ ?_ ?_ ?_ ?_ ?_ A51.out).mono ?_); exact ψ9; exact HC0_1.out; exact ψ3; exact HC0_2.out; exact ψ16; exact HC0_4.out; exact ψ17; exact HC0_5.out; exact ψ28; exact HC1_2.out; rintro e w1_ ⟨rfl, hb⟩; have q := n3_ (blk_below (g := gb10) ψ10 hb) (blk_below (g := gb11) ψ24 hb) (below_step ψ25 hb); clear BK10 BK11 HB; obtain ⟨BK10, BK11, HB⟩ := q; (try clear hb)))
 first | (go_meet; (case rel => exact ⟨_, (!t199), ψ7, H', ⟨ψ29⟩, ⟨ψ10⟩, ⟨ψ24⟩, ⟨ψ25⟩⟩)) | (go_meet; (case rel => exact ⟨_, (false), ψ7, H', ⟨ψ29⟩, ⟨ψ10⟩, ⟨ψ24⟩, ⟨ψ25⟩⟩)) | (go_meet; (case rel => exact ⟨_, (true), ψ7, H', ⟨ψ29⟩, ⟨ψ10⟩, ⟨ψ24⟩, ⟨ψ25⟩⟩)) | (go_meet; (case rel => exact ⟨_, (!t203), ψ7, H', ⟨ψ29⟩, ⟨ψ10⟩, ⟨ψ24⟩, ⟨ψ25⟩⟩))) : P := h
theorem τ22 {P : Prop} (h : P := by
 obtain rfl := Option.some.inj H
 try (have hnb1_ := NB10_11.out)
 try (have hnc1_ := NB11_10.out)
 try (obtain ⟨hczB10_0, hczB10_1, hczB10_2, hczB10_3, hczB10_4, hczB10_5, hfzB10_0, hfzB10_1, hfzB10_2, hfzB10_3, hfzB10_4, hfzB10_5⟩ := cells6 BK10.out)
 try (obtain ⟨hczB11_0, hczB11_1, hczB11_2, hczB11_3, hfzB11_0, hfzB11_1, hfzB11_2, hfzB11_3⟩ := cells4 BK11.out)
 go_wp2_with (first | ((with_reducible refine gate_callee (f := 79) rfl ?_); refine gL 86 Try.func79 #[.int .i64 a1_1, .int .i64 (wrap64 ((l0_1.length : Int) + (l0_2.length : Int))), .int .i64 (wrap64 ((wrap64 ((wrap64 ((l0_1.length : Int) + (l0_2.length : Int))) + a0_3)) - 1))] ?_; (with_reducible refine (spec_l1In.calls a1_1 (wrap64 ((l0_1.length : Int) + (l0_2.length : Int))) (wrap64 ((wrap64 ((wrap64 ((l0_1.length : Int) + (l0_2.length : Int))) + a0_3)) - 1)) _ _ A60.out).mono ?_); rintro e w' ⟨rfl, ⟨nd, rfl⟩⟩; refine ⟨_, rfl, ?_⟩) | ((with_reducible refine gate_callee (f := 79) rfl ?_); refine gL 95 Try.func79 #[.int .i64 a1_1, .int .i64 0, .int .i64 (wrap64 ((l0_4.length : Int) - 1))] ?_; (with_reducible refine (spec_l1In.calls a1_1 0 (wrap64 ((l0_4.length : Int) - 1)) _ _ A65.out).mono ?_); rintro e w' ⟨rfl, ⟨nd, rfl⟩⟩; refine ⟨_, rfl, ?_⟩) | ((with_reducible refine gate_callee (f := 79) rfl ?_); refine gL 100 Try.func79 #[.int .i64 a1_1, .int .i64 0, .int .i64 4] ?_; (with_reducible refine (spec_l1In.calls a1_1 0 4 _ _ A70.out).mono ?_); rintro e w' ⟨rfl, ⟨nd, rfl⟩⟩; refine ⟨_, rfl, ?_⟩) | ((with_reducible refine gate_callee (f := 79) rfl ?_); refine gL 106 Try.func79 #[.int .i64 a1_1, .int .i64 0, .int .i64 9] ?_; (with_reducible refine (spec_l1In.calls a1_1 0 9 _ _ A75.out).mono ?_); rintro e w' ⟨rfl, ⟨nd, rfl⟩⟩; refine ⟨_, rfl, ?_⟩) | ((with_reducible refine gate_callee (f := 79) rfl ?_); refine gL 106 Try.func79 #[.int .i64 a1_1, .int .i64 0, .int .i64 9] ?_; (with_reducible refine (spec_l1In.calls a1_1 0 9 _ _ A80.out).mono ?_); rintro e w' ⟨rfl, ⟨nd, rfl⟩⟩; refine ⟨_, rfl, ?_⟩))
 go_ret
 exact ⟨ψ4, ψ25⟩) : P := h
theorem spec_l3Stmt.calls (k : Nat) (a0_0 : Int) (A0_1 : Option Addr) (c0_1 : Nat) (l0_1 : List (S106)) (A0_2 : Option Addr) (c0_2 : Nat) (l0_2 : List (S106)) (a0_3 : Int) (A0_4 : Option Addr) (c0_4 : Nat) (l0_4 : List Int) (A0_5 : Option Addr) (c0_5 : Nat) (l0_5 : List (S114)) (a1_0 : Int) (a1_1 : Int) (A1_2 : Option Addr) (c1_2 : Nat) (l1_2 : List (S74)) (A1_3 : Option Addr) (c1_3 : Nat) (l1_3 : List (S74)) (r : Bool) (w : World) (hr0_1 : Kd.C k106 w A0_1 l0_1.length l0_1) (hc0_1 : l0_1.length ≤ c0_1) (hr0_2 : Kd.C k106 w A0_2 l0_2.length l0_2) (hc0_2 : l0_2.length ≤ c0_2) (hr0_4 : Kd.C (Kd.int .i64) w A0_4 l0_4.length l0_4) (hc0_4 : l0_4.length ≤ c0_4) (hr0_5 : Kd.C k114 w A0_5 l0_5.length l0_5) (hc0_5 : l0_5.length ≤ c0_5) (hr1_2 : Kd.C k74 w A1_2 l1_2.length l1_2) (hc1_2 : l1_2.length ≤ c1_2) (hr1_3 : Kd.C k74 w A1_3 l1_3.length l1_3) (hc1_3 : l1_3.length ≤ c1_3) (h : spec_l3Stmt.f k a0_0 l0_1 l0_2 a0_3 l0_4 l0_5 a1_0 a1_1 l1_2 l1_3 = some r) :
 Calls Try.prog 146 #[.agg #[.int .i64 a0_0, .slice A0_1 l0_1.length c0_1, .slice A0_2 l0_2.length c0_2, .int .i64 a0_3, .slice A0_4 l0_4.length c0_4, .slice A0_5 l0_5.length c0_5], .agg #[.int .i64 a1_0, .int .i64 a1_1, .slice A1_2 l1_2.length c1_2, .slice A1_3 l1_3.length c1_3]] w fun e w' => e = .returned (.bool r) ∧ Below w.heap.size w w' := by
 have hu36 := Try.underlying36
 have hu114 := Try.underlying114
 have q := n12_ hr0_1 hc0_1 hr0_2 hc0_2 hr0_4 hc0_4 hr0_5 hc0_5 hr1_2 hc1_2 hr1_3 hc1_3
 clear hr0_1 hc0_1 hr0_2 hc0_2 hr0_4 hc0_4 hr0_5 hc0_5 hr1_2 hc1_2 hr1_3 hc1_3
 obtain ⟨HR0_1, HC0_1, HR0_2, HC0_2, HR0_4, HC0_4, HR0_5, HC0_5, HR1_2, HC1_2, HR1_3, HC1_3⟩ := q
 have HB := Aside0.mk (Below.refl w.heap.size w)
 unfold spec_l3Stmt.f at h
 have H := h
 clear h
 have HC3 := Aside0.mk H
 clear H
 go_enter Try.func146, Try.ntmps146
 go_upto_region 1 with (first | ((with_reducible refine gate_dst (N := 2) rfl ?_); (try (refine gate_guard ψ14 ?_; dsimp only)); refine bE 2 #[.int .i64 a0_0, .slice A0_1 l0_1.length c0_1, .slice A0_2 l0_2.length c0_2, .int .i64 a0_3, .slice A0_4 l0_4.length c0_4, .slice A0_5 l0_5.length c0_5] 36 ?_; intro gb10 hg w4 hbox hb; have q := n4_ (below_step ψ25 hb) (hbox) ((ψ115 : w.heap.size ≤ gb10)) ((ψ115 : w.heap.size ≤ gb10)); clear HB; obtain ⟨HB, BK10, GW10, GE10⟩ := q; clear hb hbox hg) | ((with_reducible refine gate_dst (N := 3) rfl ?_); (try (refine gate_guard ψ14 ?_; dsimp only)); refine bE 3 #[.int .i64 a1_0, .int .i64 a1_1, .slice A1_2 l1_2.length c1_2, .slice A1_3 l1_3.length c1_3] 114 ?_; intro gb11 hg w5 hbox hb; have q := n7_ (blk_below (g := gb10) ψ10 hb) (below_step ψ25 hb) (hbox) ((ψ115 : w.heap.size ≤ gb11)) ((ψ115 : w.heap.size ≤ gb11)) ((ψ116 : gb10 ≠ gb11)) ((ψ117 : gb11 ≠ gb10)); clear BK10 HB; obtain ⟨BK10, HB, BK11, GW11, GE11, NB10_11, NB11_10⟩ := q; clear hb hbox hg))
 (try simp only [Act.put, List.setIfInBounds_toArray, List.set_cons_zero, List.set_cons_succ])
 go_cut [5] (fun v5 wc => ∃ (kq : Nat) (x5_2 : Bool), v5 = .bool x5_2 ∧ Aside0 (spec_l3Stmt.j0 kq x5_2 a0_0 l0_1 l0_2 a0_3 l0_4 l0_5 a1_0 a1_1 l1_2 l1_3 = some r) ∧ Aside0 (kq ≤ k) ∧ Aside0 (wc.heap[gb10]? = some (.cells #[.int .i64 a0_0, (.slice A0_1 l0_1.length c0_1), (.slice A0_2 l0_2.length c0_2), .int .i64 a0_3, (.slice A0_4 l0_4.length c0_4), (.slice A0_5 l0_5.length c0_5)] 36 (0, 0))) ∧ Aside0 (wc.heap[gb11]? = some (.cells #[.int .i64 a1_0, .int .i64 a1_1, (.slice A1_2 l1_2.length c1_2), (.slice A1_3 l1_3.length c1_3)] 114 (0, 0))) ∧ Aside0 (Below w.heap.size w wc))
 case first =>
  have H := HC3.out
  clear HC3
  replace H := ifF H; rcases H with ⟨c6b0, c6b1, H⟩ | ⟨c6b0, c6b1, c6, H⟩
  ·(first | rw [c6b0] | rw [c6b1] | (simp only [i64_w, i32_w]; rw [c6b0]) | skip)
   exact τ19
  ·(first | rw [c6b0] | rw [c6b1] | (simp only [i64_w, i32_w]; rw [c6b0]) | skip)
   replace H := ifF H; rcases H with ⟨c9b0, c9b1, H⟩ | ⟨c9b0, c9b1, c9, H⟩
   ·exact τ19
   ·by_cases c12 : a1_0 = 2
    ·rw [if_pos c12] at H
     have c12b0 : (a1_0 == 2) = true := beq_iff_eq.mpr c12
     have c12b1 : (a1_0 != 2) = false := bne_eq_false_iff_eq.mpr c12
     clear c12
     exact τ19
    ·rw [if_neg c12] at H
     have c12b0 : (a1_0 == 2) = false := beq_eq_false_iff_ne.mpr c12
     have c12b1 : (a1_0 != 2) = true := bne_iff_ne.mpr c12
     exact τ19
 case rest =>
  clear HC3
  try clear c6
  try clear c6b0
  try clear c6b1
  try clear c9
  try clear c9b0
  try clear c9b1
  try clear c12
  try clear c12b0
  try clear c12b1
  try clear y11_0 y11_1 y11_2 y11_3
  try clear y14_0 y14_1 y14_2 y14_3
  try clear y16_0 y16_1 y16_2 y16_3
  try clear y8_0 y8_1 y8_2 y8_3
  try clear u11_0 u11_1 u11_2 u11_3
  try clear u14_0 u14_1 u14_2 u14_3
  try clear u16_0 u16_1 u16_2 u16_3
  try clear u8_0 u8_1 u8_2 u8_3
  obtain ⟨kq, x5_2, rfl, HA, HJ2, BK10, BK11, HB⟩ := hcut
  cases kq with
  | zero => exact absurd HA.out (by simp [spec_l3Stmt.j0])
  | succ kj2 =>
   have H := HA.out
   clear HA
   simp only [spec_l3Stmt.j0] at H
   have HC17 := Aside0.mk H
   clear H
   go_upto_region 2 with (fail)
   go_cut [46] (fun v46 wc => ∃ (kq : Nat) (x46_16 : Bool), v46 = .bool x46_16 ∧ Aside0 (spec_l3Stmt.j1 kq x5_2 x46_16 a0_0 l0_1 l0_2 a0_3 l0_4 l0_5 a1_0 a1_1 l1_2 l1_3 = some r) ∧ Aside0 (kq ≤ kj2) ∧ Aside0 (wc.heap[gb10]? = some (.cells #[.int .i64 a0_0, (.slice A0_1 l0_1.length c0_1), (.slice A0_2 l0_2.length c0_2), .int .i64 a0_3, (.slice A0_4 l0_4.length c0_4), (.slice A0_5 l0_5.length c0_5)] 36 (0, 0))) ∧ Aside0 (wc.heap[gb11]? = some (.cells #[.int .i64 a1_0, .int .i64 a1_1, (.slice A1_2 l1_2.length c1_2), (.slice A1_3 l1_3.length c1_3)] 114 (0, 0))) ∧ Aside0 (Below w.heap.size w wc))
   case first =>
    have H := HC17.out
    clear HC17
    replace H := bS H; obtain ⟨t189, A18, H⟩ := H
    replace H := ifB H; rcases H with ⟨rfl, H⟩ | ⟨rfl, H⟩
    ·by_cases c20 : (x5_2 != (decide ((l1_3.length : Int) > 0))) = true
     ·rw [if_pos c20] at H
      have c20b0 : (x5_2 != (decide ((l1_3.length : Int) > 0))) = true := c20
      (try (have c20n0 : (x5_2 != (decide (0 < l1_3.length))) = true := by have e0_ : (decide ((l1_3.length : Int) > 0)) = decide (0 < l1_3.length) := decide_eq_decide.2 ψ21; have h_ := c20b0; rw [e0_] at h_; exact h_))
      (try (have c20b1 : decide (x5_2 = (decide ((l1_3.length : Int) > 0))) = false := by simpa using c20))
      (try (have c20n1 : decide (x5_2 = (decide (0 < l1_3.length))) = false := by have e0_ : (decide ((l1_3.length : Int) > 0)) = decide (0 < l1_3.length) := decide_eq_decide.2 ψ21; have h_ := c20b1; rw [e0_] at h_; exact h_))
      (try (have c20b2 : (x5_2 == (decide ((l1_3.length : Int) > 0))) = false := by simpa using c20))
      (try (have c20n2 : (x5_2 == (decide (0 < l1_3.length))) = false := by have e0_ : (decide ((l1_3.length : Int) > 0)) = decide (0 < l1_3.length) := decide_eq_decide.2 ψ21; have h_ := c20b2; rw [e0_] at h_; exact h_))
      (try (have c20b3 : ¬ (x5_2 = (decide ((l1_3.length : Int) > 0))) := by simpa using c20))
      (try (have c20n3 : ¬ (x5_2 = (decide (0 < l1_3.length))) := by have e0_ : (decide ((l1_3.length : Int) > 0)) = decide (0 < l1_3.length) := decide_eq_decide.2 ψ21; have h_ := c20b3; rw [e0_] at h_; exact h_))
      clear c20
      (first | rw [c20b0] | rw [c20b1] | (simp only [i64_w, i32_w]; rw [c20b0]) | skip)
      exact τ20
     ·rw [if_neg c20] at H
      have c20b0 : (x5_2 != (decide ((l1_3.length : Int) > 0))) = false := by simpa using c20
      (try (have c20n0 : (x5_2 != (decide (0 < l1_3.length))) = false := by have e0_ : (decide ((l1_3.length : Int) > 0)) = decide (0 < l1_3.length) := decide_eq_decide.2 ψ21; have h_ := c20b0; rw [e0_] at h_; exact h_))
      (try (have c20b1 : decide (x5_2 = (decide ((l1_3.length : Int) > 0))) = true := by simpa using c20))
      (try (have c20n1 : decide (x5_2 = (decide (0 < l1_3.length))) = true := by have e0_ : (decide ((l1_3.length : Int) > 0)) = decide (0 < l1_3.length) := decide_eq_decide.2 ψ21; have h_ := c20b1; rw [e0_] at h_; exact h_))
      (try (have c20b2 : (x5_2 == (decide ((l1_3.length : Int) > 0))) = true := by simpa using c20))
      (try (have c20n2 : (x5_2 == (decide (0 < l1_3.length))) = true := by have e0_ : (decide ((l1_3.length : Int) > 0)) = decide (0 < l1_3.length) := decide_eq_decide.2 ψ21; have h_ := c20b2; rw [e0_] at h_; exact h_))
      clear c20
      (first | rw [c20b0] | rw [c20b1] | (simp only [i64_w, i32_w]; rw [c20b0]) | skip)
      exact τ20
    ·exact τ20
   case rest =>
    clear HC17
    try clear c6
    try clear c6b0
    try clear c6b1
    try clear c9
    try clear c9b0
    try clear c9b1
    try clear c12
    try clear c12b0
    try clear c12b1
    try clear c19
    try clear c20
    try clear c20b0
    try clear c20b1
    try clear c20b2
    try clear y11_0 y11_1 y11_2 y11_3
    try clear y14_0 y14_1 y14_2 y14_3
    try clear y16_0 y16_1 y16_2 y16_3
    try clear y22_0 y22_1 y22_2 y22_3
    try clear y24_0 y24_1 y24_2 y24_3
    try clear y26_0 y26_1 y26_2 y26_3
    try clear y8_0 y8_1 y8_2 y8_3
    try clear u11_0 u11_1 u11_2 u11_3
    try clear u14_0 u14_1 u14_2 u14_3
    try clear u16_0 u16_1 u16_2 u16_3
    try clear u22_0 u22_1 u22_2 u22_3
    try clear u24_0 u24_1 u24_2 u24_3
    try clear u26_0 u26_1 u26_2 u26_3
    try clear u8_0 u8_1 u8_2 u8_3
    obtain ⟨kq, x46_16, rfl, HA, HJ16, BK10, BK11, HB⟩ := hcut
    cases kq with
    | zero => exact absurd HA.out (by simp [spec_l3Stmt.j1])
    | succ kj16 =>
     have H := HA.out
     clear HA
     simp only [spec_l3Stmt.j1] at H
     replace H := ifB H; rcases H with ⟨rfl, H⟩ | ⟨rfl, H⟩
     ·obtain rfl := Option.some.inj H
      go_wp2
      go_ret
      exact ⟨ψ4, ψ25⟩
     ·have HC28 := Aside0.mk H
      clear H
      go_upto_region 4 with (fail)
      go_cut [66] (fun v66 wc => ∃ (kq : Nat) (x66_27 : Bool), v66 = .bool x66_27 ∧ Aside0 (spec_l3Stmt.j2 kq x66_27 a0_0 l0_1 l0_2 a0_3 l0_4 l0_5 a1_0 a1_1 l1_2 l1_3 = some r) ∧ Aside0 (kq ≤ kj16) ∧ Aside0 (wc.heap[gb10]? = some (.cells #[.int .i64 a0_0, (.slice A0_1 l0_1.length c0_1), (.slice A0_2 l0_2.length c0_2), .int .i64 a0_3, (.slice A0_4 l0_4.length c0_4), (.slice A0_5 l0_5.length c0_5)] 36 (0, 0))) ∧ Aside0 (wc.heap[gb11]? = some (.cells #[.int .i64 a1_0, .int .i64 a1_1, (.slice A1_2 l1_2.length c1_2), (.slice A1_3 l1_3.length c1_3)] 114 (0, 0))) ∧ Aside0 (Below w.heap.size w wc))
      case first =>
       have H := HC28.out
       clear HC28
       replace H := ifB H; rcases H with ⟨rfl, H⟩ | ⟨rfl, H⟩
       ·replace H := bS H; obtain ⟨t195, A30, H⟩ := H
        replace H := ifB H; rcases H with ⟨rfl, H⟩ | ⟨rfl, H⟩
        ·by_cases c32 : a1_0 = 1
         ·rw [if_pos c32] at H
          have c32b0 : (a1_0 == 1) = true := beq_iff_eq.mpr c32
          have c32b1 : (a1_0 != 1) = false := bne_eq_false_iff_eq.mpr c32
          clear c32
          (first | rw [c32b0] | rw [c32b1] | (simp only [i64_w, i32_w]; rw [c32b0]) | skip)
          replace H := bS H; obtain ⟨t199, A33, H⟩ := H
          exact τ21
         ·rw [if_neg c32] at H
          have c32b0 : (a1_0 == 1) = false := beq_eq_false_iff_ne.mpr c32
          have c32b1 : (a1_0 != 1) = true := bne_iff_ne.mpr c32
          (first | rw [c32b0] | rw [c32b1] | (simp only [i64_w, i32_w]; rw [c32b0]) | skip)
          exact τ21
        ·exact τ21
       ·by_cases c50 : a1_0 = 1
        ·rw [if_pos c50] at H
         have c50b0 : (a1_0 == 1) = true := beq_iff_eq.mpr c50
         have c50b1 : (a1_0 != 1) = false := bne_eq_false_iff_eq.mpr c50
         clear c50
         replace H := bS H; obtain ⟨t203, A51, H⟩ := H
         exact τ21
        ·rw [if_neg c50] at H
         have c50b0 : (a1_0 == 1) = false := beq_eq_false_iff_ne.mpr c50
         have c50b1 : (a1_0 != 1) = true := bne_iff_ne.mpr c50
         exact τ21
      case rest =>
       clear HC28
       try clear c6
       try clear c6b0
       try clear c6b1
       try clear c9
       try clear c9b0
       try clear c9b1
       try clear c12
       try clear c12b0
       try clear c12b1
       try clear c19
       try clear c20
       try clear c20b0
       try clear c20b1
       try clear c20b2
       try clear c27
       try clear c29
       try clear c31
       try clear c32
       try clear c32b0
       try clear c32b1
       try clear c50
       try clear c50b0
       try clear c50b1
       try clear y11_0 y11_1 y11_2 y11_3
       try clear y14_0 y14_1 y14_2 y14_3
       try clear y16_0 y16_1 y16_2 y16_3
       try clear y22_0 y22_1 y22_2 y22_3
       try clear y24_0 y24_1 y24_2 y24_3
       try clear y26_0 y26_1 y26_2 y26_3
       try clear y35_0 y35_1 y35_2 y35_3 y35_4 y35_5
       try clear y36_0 y36_1 y36_2 y36_3
       try clear y38_0 y38_1 y38_2 y38_3
       try clear y39_0 y39_1 y39_2 y39_3 y39_4 y39_5
       try clear y42_0 y42_1 y42_2 y42_3 y42_4 y42_5
       try clear y43_0 y43_1 y43_2 y43_3
       try clear y45_0 y45_1 y45_2 y45_3
       try clear y47_0 y47_1 y47_2 y47_3 y47_4 y47_5
       try clear y48_0 y48_1 y48_2 y48_3
       try clear y53_0 y53_1 y53_2 y53_3
       try clear y54_0 y54_1 y54_2 y54_3 y54_4 y54_5
       try clear y57_0 y57_1 y57_2 y57_3
       try clear y8_0 y8_1 y8_2 y8_3
       try clear u11_0 u11_1 u11_2 u11_3
       try clear u14_0 u14_1 u14_2 u14_3
       try clear u16_0 u16_1 u16_2 u16_3
       try clear u22_0 u22_1 u22_2 u22_3
       try clear u24_0 u24_1 u24_2 u24_3
       try clear u26_0 u26_1 u26_2 u26_3
       try clear u35_0 u35_1 u35_2 u35_3 u35_4 u35_5
       try clear u36_0 u36_1 u36_2 u36_3
       try clear u38_0 u38_1 u38_2 u38_3
       try clear u39_0 u39_1 u39_2 u39_3 u39_4 u39_5
       try clear u42_0 u42_1 u42_2 u42_3 u42_4 u42_5
       try clear u43_0 u43_1 u43_2 u43_3
       try clear u45_0 u45_1 u45_2 u45_3
       try clear u47_0 u47_1 u47_2 u47_3 u47_4 u47_5
       try clear u48_0 u48_1 u48_2 u48_3
       try clear u53_0 u53_1 u53_2 u53_3
       try clear u54_0 u54_1 u54_2 u54_3 u54_4 u54_5
       try clear u57_0 u57_1 u57_2 u57_3
       try clear u8_0 u8_1 u8_2 u8_3
       obtain ⟨kq, x66_27, rfl, HA, HJ27, BK10, BK11, HB⟩ := hcut
       cases kq with
       | zero => exact absurd HA.out (by simp [spec_l3Stmt.j2])
       | succ kj27 =>
        have H := HA.out
        clear HA
        simp only [spec_l3Stmt.j2] at H
        replace H := ifB H; rcases H with ⟨rfl, H⟩ | ⟨rfl, H⟩
        ·exact τ22
        ·by_cases c59 : a1_0 = 0
         ·rw [if_pos c59] at H
          have c59b0 : (a1_0 == 0) = true := beq_iff_eq.mpr c59
          have c59b1 : (a1_0 != 0) = false := bne_eq_false_iff_eq.mpr c59
          clear c59
          replace H := bS H; obtain ⟨t209, A60, H⟩ := H
          exact τ22
         ·rw [if_neg c59] at H
          have c59b0 : (a1_0 == 0) = false := beq_eq_false_iff_ne.mpr c59
          have c59b1 : (a1_0 != 0) = true := bne_iff_ne.mpr c59
          replace H := ifF H; rcases H with ⟨c64b0, c64b1, H⟩ | ⟨c64b0, c64b1, c64, H⟩
          ·replace H := bS H; obtain ⟨t212, A65, H⟩ := H
           exact τ22
          ·by_cases c69 : a1_0 = 5
           ·rw [if_pos c69] at H
            have c69b0 : (a1_0 == 5) = true := beq_iff_eq.mpr c69
            have c69b1 : (a1_0 != 5) = false := bne_eq_false_iff_eq.mpr c69
            clear c69
            replace H := bS H; obtain ⟨t214, A70, H⟩ := H
            exact τ22
           ·rw [if_neg c69] at H
            have c69b0 : (a1_0 == 5) = false := beq_eq_false_iff_ne.mpr c69
            have c69b1 : (a1_0 != 5) = true := bne_iff_ne.mpr c69
            replace H := ifF H; rcases H with ⟨c74b0, c74b1, H⟩ | ⟨c74b0, c74b1, c74, H⟩
            ·replace H := bS H; obtain ⟨t216, A75, H⟩ := H
             exact τ22
            ·by_cases c79 : a1_0 = 9
             ·rw [if_pos c79] at H
              have c79b0 : (a1_0 == 9) = true := beq_iff_eq.mpr c79
              have c79b1 : (a1_0 != 9) = false := bne_eq_false_iff_eq.mpr c79
              clear c79
              replace H := bS H; obtain ⟨t218, A80, H⟩ := H
              exact τ22
             ·rw [if_neg c79] at H
              have c79b0 : (a1_0 == 9) = false := beq_eq_false_iff_ne.mpr c79
              have c79b1 : (a1_0 != 9) = true := bne_iff_ne.mpr c79
              exact τ22

end Go.Proofs.Ytakmkdlkipfnhaa.PCore

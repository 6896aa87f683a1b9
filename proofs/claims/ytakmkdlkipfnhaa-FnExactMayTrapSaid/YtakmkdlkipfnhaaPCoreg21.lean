/- The walks of the functions that the laws come to, part 21: turned out of the kit's print, and mended where that fell. -/
import Derived.Test.YtakmkdlkipfnhaaPCoreg
import Derived.Test.YtakmkdlkipfnhaaPCoreg0
import Derived.Test.YtakmkdlkipfnhaaPCoreg2
import Derived.Test.YtakmkdlkipfnhaaPCoreg4
import Derived.Test.YtakmkdlkipfnhaaPCoreg20
namespace Go.Proofs.Ytakmkdlkipfnhaa.PCore
open Go.RowKit Go.Proofs.YtakmkdlkipfnhaaW.PrintWords Go.Proofs.YtakmkdlkipfnhaaW.PrintLast Go.Proofs.YtakmkdlkipfnhaaW.PrintMore
attribute [local go_sem] max2_int min2_int max_two min_two max_three min_three max_four min_four   -- for this text's walks alone
set_option linter.unusedVariables false
set_option maxHeartbeats 8000000
set_option maxRecDepth 100000
set_option linter.unusedSimpArgs false

theorem ψ109 {P : Prop} (h : P := by rw [Ny1087.out, List.length_drop, List.length_take] <;> omega) : P := h
theorem ψ110 {P : Prop} (h : P := by repeat (first | exact (Kd.C_below HR1090.out HB.out) | (with_reducible refine Kd.C_alloc ?_ _) | (with_reducible refine Kd.C_drewN ?_ _) | (with_reducible refine Kd.C_drew ?_))) : P := h
theorem ψ111 {P : Prop} (h : P := by repeat (first | (with_reducible exact HR1100_0.out) | (with_reducible refine Kd.C_alloc ?_ _) | (with_reducible refine Kd.C_drewN ?_ _) | (with_reducible refine Kd.C_drew ?_) | exact HR1100_0.out)) : P := h
/-! ### spec_l9May: function 102 -/
mutual
def spec_l9May.l0 : Nat → List (S74) → Int → Int → List (S106) → List (S106) → Int → List Int → List (S114) → Option (Bool)
 | 0, _, _, _, _, _, _, _, _ => none
 | k + 1, x1, x5, x1086000, x1086001, x1086002, x1086003, x1086004, x1086005 => if x5 < (x1.length : Int) then ((spec_l2First.f k x1 x5).bind fun t1086 => (if 0 ≤ t1086 then (if t1086 ≤ (wrap64 (x5 + 1)) then (if (wrap64 (x5 + 1)) ≤ (x1.length : Int) then ((spec_PartsOf.f k ((x1.take ((wrap64 (x5 + 1)) : Int).toNat).drop (t1086 : Int).toNat)).bind fun t1091 => (if 0 ≤ x5 then (if ((rd_T74 x1 x5).f0) = 2 then (if 0 < (t1091.length : Int) then (if 0 ≤ ((rd_T74 x1 x5).f1) then (if ((rd_T74 x1 x5).f1) < (x1086004.length : Int) then ((spec_l9Known.f (rd_L8 t1091 0) (rd x1086004 ((rd_T74 x1 x5).f1)) false).bind fun t1099 => (if t1099 = true then (spec_l9May.l0 k x1 (wrap64 (x5 + 1)) x1086000 x1086001 x1086002 x1086003 x1086004 x1086005) else (some true))) else (none)) else (none)) else (none)) else (if ((rd_T74 x1 x5).f0) = 8 then (spec_l9May.j1 k x1 x5 t1091 (((rd_T74 x1 x5).f0) == 8) x1086000 x1086001 x1086002 x1086003 x1086004 x1086005) else (spec_l9May.j1 k x1 x5 t1091 (((rd_T74 x1 x5).f0) == 9) x1086000 x1086001 x1086002 x1086003 x1086004 x1086005))) else (none))) else (none)) else (none)) else (none))) else (some false)
def spec_l9May.j1 : Nat → List (S74) → Int → List (List (S74)) → Bool → Int → List (S106) → List (S106) → Int → List Int → List (S114) → Option (Bool)
 | 0, _, _, _, _, _, _, _, _, _, _ => none
 | k + 1, x1, x5, x6, x42, x1086000, x1086001, x1086002, x1086003, x1086004, x1086005 => if x42 = true then (if 1 < (x6.length : Int) then ((spec_l3Size.f k x1086000 x1086001 x1086002 x1086003 x1086004 x1086005).bind fun t1102 => ((spec_l9Known.f (rd_L8 x6 1) t1102 true).bind fun t1103 => (if t1103 = true then (spec_l9May.l0 k x1 (wrap64 (x5 + 1)) x1086000 x1086001 x1086002 x1086003 x1086004 x1086005) else (some true)))) else (none)) else (spec_l9May.l0 k x1 (wrap64 (x5 + 1)) x1086000 x1086001 x1086002 x1086003 x1086004 x1086005)
end
def spec_l9May.f (k : Nat) (a0_0 : Int) (l0_1 : List (S106)) (l0_2 : List (S106)) (a0_3 : Int) (l0_4 : List Int) (l0_5 : List (S114)) (l1 : List (S74)) : Option (Bool) := spec_l9May.l0 k l1 0 a0_0 l0_1 l0_2 a0_3 l0_4 l0_5
def spec_l9May.T7 : Bool × List (List Nat × List Nat) := (true, [([], []), ([0], [0]), ([1], [1]), ([], []), ([3], [3]), ([], []), ([], []), ([5, 6], [5, 6]), ([7], [7]), ([8], [8]), ([4, 9], [4, 9]), ([10], [10]), ([2, 11], [2, 11]), ([12], [12])])
def spec_l9May.B7 : List Nat := [0, 1, 3, 0, 8, 0, 0, 96, 224, 480, 1016, 2040, 4095, 8191]
theorem spec_l9May.tab7 : rtab .any (opsOf Try.f102 7) = spec_l9May.T7 := by kernel_rfl
theorem spec_l9May.bits7 : waitsOk spec_l9May.T7.2 spec_l9May.B7 = true := by kernel_rfl
theorem τ87 {P : Prop} (h : P := by
 first | obtain rfl := Option.some.inj H | (have H' := Aside0.mk H; clear H)
 try (try go_wp2_with (first | ((with_reducible refine gate_callee (f := 125) rfl ?_); refine gL 16 Try.func125 #[.slice A1 l1.length c1, .int .i64 x5_1] ?_; (with_reducible refine (spec_l2First.calls k1 _ _ l1 x5_1 _ _ ?_ ?_ A5.out).mono ?_); exact ψ23; exact HC1.out; rintro e w1_ ⟨rfl, hb⟩; refine ⟨_, rfl, ?_⟩; have q := n2_ (blk_below (g := gb10) ψ10 hb) (below_step ψ2 hb); clear BK10 HB; obtain ⟨BK10, HB⟩ := q; (try clear hb); have q23 : ((wrap64 (x5_1 + 1)) : Int) ≤ ((l1.length : Int) : Int) := of_decide_eq_true ψ5; obtain ⟨i023, hi023, _, hsz23, _⟩ := info_parts info74; have hroom23 : l1.length ≤ c1 := HC1.out; have hC23 : Kd.C k74 _ A1 l1.length l1 := HR1.out; have ql23 : (t1086 : Int) ≤ ((wrap64 (x5_1 + 1)) : Int) := of_decide_eq_true ψ5; have q023 : (0 : Int) ≤ (t1086 : Int) := of_decide_eq_true ψ5; have hcut23 := cut_mid (P := Try.prog) 68 74 .i64 .i64 Try.underlying68 hi023 2 hsz23 A1 l1.length c1 t1086 (wrap64 (x5_1 + 1)) q023 ql23 q23 hroom23; have hr23 := Kd.C_mid (lo := (t1086 : Int).toNat) (hi := ((wrap64 (x5_1 + 1)) : Int).toNat) (c := c1) hC23 ψ21 ψ21 hroom23; obtain ⟨A23, hA23⟩ : ∃ A_, A_ = (if c1 = (t1086 : Int).toNat then A1 else (A1 : Option Addr).map (·.add ((t1086 : Int).toNat * 2))) := ⟨_, rfl⟩; obtain ⟨c23, hc23⟩ : ∃ c_, c_ = c1 - (t1086 : Int).toNat := ⟨_, rfl⟩; have hy23 : y1087.length = ((wrap64 (x5_1 + 1)) : Int).toNat - (t1086 : Int).toNat := ψ109; rw [show ((l1).take ((wrap64 (x5_1 + 1)) : Int).toNat).drop (t1086 : Int).toNat = y1087 from Ny1087.out.symm] at hr23; replace hr23 : Kd.C k74 _ A23 y1087.length y1087 := (by rw [hA23]; exact hr23); rw [← hy23, ← hA23, ← hc23] at hcut23; have HR1090 := Aside0.mk hr23; have HC1090 := Aside0.mk (show y1087.length ≤ c23 from by rw [hy23, hc23]; exact Nat.sub_le_sub_right (Nat.le_trans ψ21 hroom23) _); clear hr23 hC23 hroom23 hi023 hsz23 hc23; have KY23 := Aside0.mk hy23; have KA23 := Aside0.mk hA23; clear hy23 hA23; replace q23 := eq_true q23) | ((with_reducible refine gate_callee (f := 124) rfl ?_); refine gL 20 Try.func124 #[.slice A23 y1087.length c23] ?_; (with_reducible refine (spec_PartsOf.calls k1 _ _ y1087 _ _ ?_ ?_ A9.out).mono ?_); exact ψ110; exact HC1090.out; rintro e w2_ ⟨v1092, rfl, ho0, hb⟩; refine ⟨_, rfl, ?_⟩; have q := n3_ (Kd.N_lower (Kd.N_mono (ok' := fun k_ => k_ ≠ gb10) ho0 (fun k_ hk_ => (Kd.freshB (g := gb10) ψ10 k_ hk_))) (below_size ψ2)) (blk_below (g := gb10) ψ10 hb) (below_step ψ2 hb); clear BK10 HB; obtain ⟨HO1093, BK10, HB⟩ := q; (try clear hb); (try clear ho0); have p1094 : 0 ≤ (x5_1 : Int) := of_decide_eq_true ψ5; have q1094 : x5_1 < (l1.length : Int) := of_decide_eq_true ψ5; obtain ⟨ad1094, e1094, hx1094_0, hx1094_1⟩ := at_T74 HR1.out x5_1 p1094 q1094; cases e1094; replace hx1094_0 := cB HB hx1094_0; replace hx1094_1 := cB HB hx1094_1; replace p1094 := eq_true p1094; replace q1094 := eq_true q1094)))
 try (try go_wp2_with (first | ((with_reducible refine gate_callee (f := 125) rfl ?_); refine gL 16 Try.func125 #[.slice A1 l1.length c1, .int .i64 x5_1] ?_; (with_reducible refine (spec_l2First.calls k1 _ _ l1 x5_1 _ _ ?_ ?_ A5.out).mono ?_); exact ψ23; exact HC1.out; rintro e w1_ ⟨rfl, hb⟩; refine ⟨_, rfl, ?_⟩; have q := n2_ (blk_below (g := gb10) ψ10 hb) (below_step ψ2 hb); clear BK10 HB; obtain ⟨BK10, HB⟩ := q; (try clear hb); have q18 : ((wrap64 (x5_1 + 1)) : Int) ≤ ((l1.length : Int) : Int) := of_decide_eq_true ψ5; obtain ⟨i018, hi018, _, hsz18, _⟩ := info_parts info74; have hroom18 : l1.length ≤ c1 := HC1.out; have hC18 : Kd.C k74 _ A1 l1.length l1 := HR1.out; have ql18 : (t1086 : Int) ≤ ((wrap64 (x5_1 + 1)) : Int) := of_decide_eq_true ψ5; have q018 : (0 : Int) ≤ (t1086 : Int) := of_decide_eq_true ψ5; have hcut18 := cut_mid (P := Try.prog) 68 74 .i64 .i64 Try.underlying68 hi018 2 hsz18 A1 l1.length c1 t1086 (wrap64 (x5_1 + 1)) q018 ql18 q18 hroom18; have hr18 := Kd.C_mid (lo := (t1086 : Int).toNat) (hi := ((wrap64 (x5_1 + 1)) : Int).toNat) (c := c1) hC18 ψ21 ψ21 hroom18; obtain ⟨A18, hA18⟩ : ∃ A_, A_ = (if c1 = (t1086 : Int).toNat then A1 else (A1 : Option Addr).map (·.add ((t1086 : Int).toNat * 2))) := ⟨_, rfl⟩; obtain ⟨c18, hc18⟩ : ∃ c_, c_ = c1 - (t1086 : Int).toNat := ⟨_, rfl⟩; have hy18 : y1087.length = ((wrap64 (x5_1 + 1)) : Int).toNat - (t1086 : Int).toNat := ψ109; rw [show ((l1).take ((wrap64 (x5_1 + 1)) : Int).toNat).drop (t1086 : Int).toNat = y1087 from Ny1087.out.symm] at hr18; replace hr18 : Kd.C k74 _ A18 y1087.length y1087 := (by rw [hA18]; exact hr18); rw [← hy18, ← hA18, ← hc18] at hcut18; have HR1090 := Aside0.mk hr18; have HC1090 := Aside0.mk (show y1087.length ≤ c18 from by rw [hy18, hc18]; exact Nat.sub_le_sub_right (Nat.le_trans ψ21 hroom18) _); clear hr18 hC18 hroom18 hi018 hsz18 hc18; have KY18 := Aside0.mk hy18; have KA18 := Aside0.mk hA18; clear hy18 hA18; replace q18 := eq_true q18) | ((with_reducible refine gate_callee (f := 124) rfl ?_); refine gL 20 Try.func124 #[.slice A18 y1087.length c18] ?_; (with_reducible refine (spec_PartsOf.calls k1 _ _ y1087 _ _ ?_ ?_ A9.out).mono ?_); exact ψ110; exact HC1090.out; rintro e w2_ ⟨v1092, rfl, ho0, hb⟩; refine ⟨_, rfl, ?_⟩; have q := n3_ (Kd.N_lower (Kd.N_mono (ok' := fun k_ => k_ ≠ gb10) ho0 (fun k_ hk_ => (Kd.freshB (g := gb10) ψ10 k_ hk_))) (below_size ψ2)) (blk_below (g := gb10) ψ10 hb) (below_step ψ2 hb); clear BK10 HB; obtain ⟨HO1093, BK10, HB⟩ := q; (try clear hb); (try clear ho0); have p1094 : 0 ≤ (x5_1 : Int) := of_decide_eq_true ψ5; have q1094 : x5_1 < (l1.length : Int) := of_decide_eq_true ψ5; obtain ⟨ad1094, e1094, hx1094_0, hx1094_1⟩ := at_T74 HR1.out x5_1 p1094 q1094; cases e1094; replace hx1094_0 := cB HB hx1094_0; replace hx1094_1 := cB HB hx1094_1; replace p1094 := eq_true p1094; replace q1094 := eq_true q1094)))
 have q := n3_ (Kd.N_drew HO1093.out) (blk_drew BK10.out) (below_drew1 HB.out)
 clear HO1093 BK10 HB
 obtain ⟨HO1093, BK10, HB⟩ := q
 obtain ⟨Ao1_, co1_, eo1_⟩ := Kd.N_slice HO1093.out
 (first | subst eo1_ | (injection eo1_ with f1_ f2_ f3_; have f4_ := f1_.symm; have f5_ := f3_.symm; clear f1_ f2_ f3_; subst f4_; subst f5_))
 have p1095 : 0 ≤ (0 : Int) := ψ21
 have q1095 : 0 < (t1091.length : Int) := of_decide_eq_true ψ5
 obtain ⟨ad1095, A1095_0, c1095_0, e1095, hx1095_0, hl1095_0, hi1095_0⟩ := at_L8 (Kd.N_reads' HO1093.out).2.2 0 p1095 q1095
 cases e1095
 obtain ⟨ce1095, hce1095, hMe1095, hcc1095⟩ := Kd.N_get HO1093.out [] 0 p1095 (by first | exact q1095 | exact of_decide_eq_true ψ5 | (have e_ := (Kd.N_reads' HO1093.out).1; omega))
 obtain ⟨ua1095_0, uc1095_0, rfl, ul1095_0, ge1095_0⟩ := Kd.FK_slice_open hMe1095
 have hv1095_0 := hcc1095 0 _ rfl
 rw [Nat.add_zero, show ((Kd.slice 74 k74)).sz = 1 from rfl, Nat.mul_one] at hv1095_0
 replace hv1095_0 := Option.some.inj (hv1095_0.symm.trans hx1095_0)
 injection hv1095_0 with hva_ hvn_ hvc_
 rw [hva_] at ge1095_0
 rw [hvc_] at ul1095_0
 have HL1095_0 := Aside0.mk (show Kd.V k74 74 _ w.heap.size _ _ (rd_L8 t1091 0) from Kd.V_mk ul1095_0 ge1095_0)
 clear hva_ hvn_ hvc_ ge1095_0 ul1095_0
 clear hcc1095 hce1095
 have qi1095 : (0 < t1091.length) = True := eq_true ψ21
 (try rw [show ((0 : Int)).toNat = 0 from rfl] at hx1095_0)
 (try rw [Addr.add_zero'] at hx1095_0)
 have q := n2_ hi1095_0 hl1095_0
 clear hi1095_0 hl1095_0
 obtain ⟨HR1095_0, HC1095_0⟩ := q
 replace p1095 := eq_true p1095
 replace q1095 := eq_true q1095
 have p1097 : 0 ≤ (x5_1 : Int) := of_decide_eq_true ψ5
 have q1097 : x5_1 < (l1.length : Int) := of_decide_eq_true ψ5
 obtain ⟨ad1097, e1097, hx1097_0, hx1097_1⟩ := at_T74 HR1.out x5_1 p1097 q1097
 have hw1097_1 := hx1097_1
 have hw1097_0 := hx1097_0
 obtain rfl : ad1094 = ad1097 := (by injection e1097)
 replace hx1097_0 := cB HB hx1097_0
 replace hx1097_1 := cB HB hx1097_1
 replace p1097 := eq_true p1097
 replace q1097 := eq_true q1097
 have p1098 : 0 ≤ (((rd_T74 l1 x5_1).f1) : Int) := of_decide_eq_true ψ5
 have q1098 : ((rd_T74 l1 x5_1).f1) < (l0_4.length : Int) := of_decide_eq_true ψ5
 obtain ⟨ad1098, e1098, hx1098_0⟩ := Kd.at_int HR0_4.out ((rd_T74 l1 x5_1).f1) p1098 q1098
 have hw1098_0 := hx1098_0
 cases e1098
 replace hx1098_0 := cB HB hx1098_0
 replace p1098 := eq_true p1098
 replace q1098 := eq_true q1098
 refine start_ (n := 14) (S := fun w' => w'.cell? ⟨gb10, 0, none⟩ = some (.int .i64 a0_0) ∧ w'.cell? ⟨gb10, 1, none⟩ = some (.slice A0_1 l0_1.length c0_1) ∧ w'.cell? ⟨gb10, 2, none⟩ = some (.slice A0_2 l0_2.length c0_2) ∧ w'.cell? ⟨gb10, 3, none⟩ = some (.int .i64 a0_3) ∧ w'.cell? ⟨gb10, 4, none⟩ = some (.slice (some ad1098) l0_4.length c0_4) ∧ w'.cell? ⟨gb10, 5, none⟩ = some (.slice A0_5 l0_5.length c0_5) ∧ w'.cell? ad1095 = some (.slice A1095_0 (rd_L8 t1091 0).length c1095_0) ∧ w'.cell? (ad1094.add ((x5_1).toNat * 2)) = some (.int .i64 ((rd_T74 l1 x5_1).f0)) ∧ w'.cell? ⟨(ad1094.add ((x5_1).toNat * 2)).block, (ad1094.add ((x5_1).toNat * 2)).off + 1, none⟩ = some (.int .i64 ((rd_T74 l1 x5_1).f1)) ∧ w'.cell? (ad1098.add (((rd_T74 l1 x5_1).f1)).toNat) = some (.int .i64 (rd l0_4 ((rd_T74 l1 x5_1).f1)))) (ds := []) #[false, false, false, false, false, false, false, false, false, false, false, false, false, false] ψ12 rfl rfl ⟨(blk_cell BK10.out 0).trans rfl, (blk_cell BK10.out 1).trans rfl, (blk_cell BK10.out 2).trans rfl, (blk_cell BK10.out 3).trans rfl, (blk_cell BK10.out 4).trans rfl, (blk_cell BK10.out 5).trans rfl, hx1095_0, ((HB.out.cell (World.block_lt_of_cell? w _ hw1097_0)).trans hw1097_0), ((HB.out.cell (World.block_lt_of_cell? w _ hw1097_1)).trans hw1097_1), ((HB.out.cell (World.block_lt_of_cell? w _ hw1098_0)).trans hw1098_0)⟩ (fun hHeld => ?_); refine with_tabW spec_l9May.tab7 spec_l9May.bits7 (fun HT_ HW_ => ?_)
 generalize w2_.drew = w3_ at HO1093 BK10 HB HL1095_0 HR1095_0 hx1095_0 hx1097_0 hx1097_1 hx1098_0 hHeld ⊢
 refine rP 0 28 ?_; refine rP 1 29 ?_; refine rP 3 31 ?_; refine rP 5 33 ?_; refine rP 6 34 ?_; refine rP 7 35 ?_; refine rP 8 36 ?_; refine rT 2 30 ?_; refine rT 4 32 ?_; refine rT 9 37 ?_; refine rP 10 38 ?_; refine rT 11 39 ?_
 refine one_ (i := 12) (N := some 40) #[true, true, true, true, true, true, true, true, true, true, true, true, true, false] rfl rfl (one_of HT_.out ψ12) ψ13 (fun K hK => ?_)
 refine goes_ Try.func126 ψ12 rfl #[.slice A1095_0 (rd_L8 t1091 0).length c1095_0, .int .i64 (rd l0_4 ((rd_T74 l1 x5_1).f1)), .bool false] ψ14 rfl rfl ψ15 ?_
 with_reducible refine (spec_l9Known.calls _ _ (rd_L8 t1091 0) (rd l0_4 ((rd_T74 l1 x5_1).f1)) false _ _ ?_ ?_ A15.out).mono ?_
 exact (by repeat (first | exact (by repeat (first | (with_reducible exact HR1095_0.out) | (with_reducible refine Kd.C_alloc ?_ _) | (with_reducible refine Kd.C_drewN ?_ _) | (with_reducible refine Kd.C_drew ?_) | exact HR1095_0.out)) | (with_reducible refine Kd.C_alloc ?_ _) | (with_reducible refine Kd.C_drewN ?_ _) | (with_reducible refine Kd.C_drew ?_))); exact HC1095_0.out
 rintro e w' ⟨rfl, ⟨nd, rfl⟩⟩
 refine ⟨_, rfl, ?_⟩
 refine hK.out _ _ ⟨(blk_cell BK10.out 0).trans rfl, (blk_cell BK10.out 1).trans rfl, (blk_cell BK10.out 2).trans rfl, (blk_cell BK10.out 3).trans rfl, (blk_cell BK10.out 4).trans rfl, (blk_cell BK10.out 5).trans rfl, hHeld.2.2.2.2.2.2.1, ((HB.out.cell (World.block_lt_of_cell? w _ hw1097_0)).trans hw1097_0), ((HB.out.cell (World.block_lt_of_cell? w _ hw1097_1)).trans hw1097_1), ((HB.out.cell (World.block_lt_of_cell? w _ hw1098_0)).trans hw1098_0)⟩ (fun hHeld => ?_)
 clear hK K
 refine rN 40 ?_; refine rP 13 41 ?_
 refine done_ (done_of HT_.out ψ12) ?_
 try go_wp2
 first | (go_roundg k1; (case measure => have := HK1.out; omega); (case rel => exact ⟨(wrap64 (x5_1 + 1)), ψ7, H', ⟨ψ8⟩, ⟨ψ10⟩, ⟨ψ2⟩⟩)) | (go_ret; exact ⟨ψ4, ψ2⟩)) : P := h
theorem τ88 {P : Prop} (h : P := by
 first | obtain rfl := Option.some.inj H | (have H' := Aside0.mk H; clear H)
 try go_wp2
 have q := n3_ (Kd.N_drew HO_6.out) (blk_drew BK10.out) (below_drew1 HB.out)
 clear HO_6 BK10 HB
 obtain ⟨HO_6, BK10, HB⟩ := q
 obtain ⟨Ao1_, co1_, eo1_⟩ := Kd.N_slice HO_6.out
 (first | subst eo1_ | (injection eo1_ with f1_ f2_ f3_; have f4_ := f1_.symm; have f5_ := f3_.symm; clear f1_ f2_ f3_; subst f4_; subst f5_))
 have p1100 : 0 ≤ (1 : Int) := ψ21
 have q1100 : 1 < (t1091.length : Int) := of_decide_eq_true ψ5
 obtain ⟨ad1100, A1100_0, c1100_0, e1100, hx1100_0, hl1100_0, hi1100_0⟩ := at_L8 (Kd.N_reads' HO_6.out).2.2 1 p1100 q1100
 cases e1100
 obtain ⟨ce1100, hce1100, hMe1100, hcc1100⟩ := Kd.N_get HO_6.out [] 1 p1100 (by first | exact q1100 | exact of_decide_eq_true ψ5 | (have e_ := (Kd.N_reads' HO_6.out).1; omega))
 obtain ⟨ua1100_0, uc1100_0, rfl, ul1100_0, ge1100_0⟩ := Kd.FK_slice_open hMe1100
 have hv1100_0 := hcc1100 0 _ rfl
 rw [Nat.add_zero, show ((Kd.slice 74 k74)).sz = 1 from rfl, Nat.mul_one] at hv1100_0
 replace hv1100_0 := Option.some.inj (hv1100_0.symm.trans hx1100_0)
 injection hv1100_0 with hva_ hvn_ hvc_
 rw [hva_] at ge1100_0
 rw [hvc_] at ul1100_0
 have HL1100_0 := Aside0.mk (show Kd.V k74 74 _ w.heap.size _ _ (rd_L8 t1091 1) from Kd.V_mk ul1100_0 ge1100_0)
 clear hva_ hvn_ hvc_ ge1100_0 ul1100_0
 clear hcc1100 hce1100
 (try simp only [show (1 : Int).toNat = 1 from rfl, Nat.reduceMul, Nat.reduceEqDiff, Go.Addr.add, ↓reduceIte] at hx1100_0)
 have qi1100 : (1 < t1091.length) = True := eq_true ψ21
 (try rw [show ((1 : Int)).toNat = 1 from rfl] at hx1100_0)
 have q := n2_ hi1100_0 hl1100_0
 clear hi1100_0 hl1100_0
 obtain ⟨HR1100_0, HC1100_0⟩ := q
 replace p1100 := eq_true p1100
 replace q1100 := eq_true q1100
 refine start_ (n := 7) (S := fun w' => w'.cell? ⟨gb10, 0, none⟩ = some (.int .i64 a0_0) ∧ w'.cell? ⟨gb10, 1, none⟩ = some (.slice A0_1 l0_1.length c0_1) ∧ w'.cell? ⟨gb10, 2, none⟩ = some (.slice A0_2 l0_2.length c0_2) ∧ w'.cell? ⟨gb10, 3, none⟩ = some (.int .i64 a0_3) ∧ w'.cell? ⟨gb10, 4, none⟩ = some (.slice A0_4 l0_4.length c0_4) ∧ w'.cell? ⟨gb10, 5, none⟩ = some (.slice A0_5 l0_5.length c0_5) ∧ w'.cell? ⟨ad1100.block, ad1100.off + 1, none⟩ = some (.slice A1100_0 (rd_L8 t1091 1).length c1100_0)) (ds := []) #[false, false, false, false, false, false, false] ψ12 rfl rfl ⟨(blk_cell BK10.out 0).trans rfl, (blk_cell BK10.out 1).trans rfl, (blk_cell BK10.out 2).trans rfl, (blk_cell BK10.out 3).trans rfl, (blk_cell BK10.out 4).trans rfl, (blk_cell BK10.out 5).trans rfl, hx1100_0⟩ (fun hHeld => ?_)
 generalize wc.drew = w1_ at HO_6 BK10 HB HL1100_0 HR1100_0 hx1100_0 hHeld ⊢
 refine rP 0 45 ?_; refine rP 1 46 ?_; refine rT 2 47 ?_; refine rT 3 48 ?_
 refine one_ (i := 4) (N := some 49) #[true, true, true, true, true, false, false] rfl rfl ψ12 ψ13 (fun K hK => ?_)
 refine goes_ Try.func70 ψ12 rfl #[.agg #[.int .i64 a0_0, .slice A0_1 l0_1.length c0_1, .slice A0_2 l0_2.length c0_2, .int .i64 a0_3, .slice A0_4 l0_4.length c0_4, .slice A0_5 l0_5.length c0_5]] ψ14 rfl rfl ψ15 ?_
 with_reducible refine (spec_l3Size.calls kj26 a0_0 _ _ l0_1 _ _ l0_2 a0_3 _ _ l0_4 _ _ l0_5 _ _ ?_ ?_ ?_ ?_ ?_ ?_ ?_ ?_ A34.out).mono ?_
 exact ψ9; exact HC0_1.out; exact ψ3; exact HC0_2.out; exact ψ16; exact HC0_4.out; exact ψ17; exact HC0_5.out
 rintro e w2_ ⟨rfl, hb⟩
 have HS6_ := (hb.cell (World.block_lt_of_cell? _ _ (hHeld.2.2.2.2.2.2))).trans (hHeld.2.2.2.2.2.2)
 refine ⟨_, rfl, ?_⟩
 have q := n5_ (Kd.N_below (have hZ := HO_6; kN_) hb) (Kd.V_below (by (with_reducible repeat (first | apply Kd.V_alloc | apply Kd.V_drewN | apply Kd.V_drew)); exact HL1100_0.out) hb) (blk_below (g := gb10) ψ10 hb) (Kd.C_below ψ111 hb) (below_step ψ2 hb)
 clear HO_6 HL1100_0 BK10 HR1100_0 HB
 obtain ⟨HO_6, HL1100_0, BK10, HR1100_0, HB⟩ := q
 (try clear hb)
 refine hK.out _ _ ⟨(blk_cell BK10.out 0).trans rfl, (blk_cell BK10.out 1).trans rfl, (blk_cell BK10.out 2).trans rfl, (blk_cell BK10.out 3).trans rfl, (blk_cell BK10.out 4).trans rfl, (blk_cell BK10.out 5).trans rfl, HS6_⟩ (fun hHeld => ?_)
 clear hK K
 refine rN 49 ?_
 refine one_ (i := 5) (N := some 50) #[true, true, true, true, true, true, false] rfl rfl ψ12 ψ13 (fun K hK => ?_)
 refine goes_ Try.func126 ψ12 rfl #[.slice A1100_0 (rd_L8 t1091 1).length c1100_0, .int .i64 t1102, .bool true] ψ14 rfl rfl ψ15 ?_
 with_reducible refine (spec_l9Known.calls _ _ (rd_L8 t1091 1) t1102 true _ _ ?_ ?_ A35.out).mono ?_
 exact (by repeat (first | exact ψ111 | (with_reducible refine Kd.C_alloc ?_ _) | (with_reducible refine Kd.C_drewN ?_ _) | (with_reducible refine Kd.C_drew ?_))); exact HC1100_0.out
 rintro e w' ⟨rfl, ⟨nd, rfl⟩⟩
 refine ⟨_, rfl, ?_⟩
 refine hK.out _ _ ⟨(blk_cell BK10.out 0).trans rfl, (blk_cell BK10.out 1).trans rfl, (blk_cell BK10.out 2).trans rfl, (blk_cell BK10.out 3).trans rfl, (blk_cell BK10.out 4).trans rfl, (blk_cell BK10.out 5).trans rfl, hHeld.2.2.2.2.2.2⟩ (fun hHeld => ?_)
 clear hK K
 refine rN 50 ?_; refine rP 6 51 ?_
 refine done_ ψ12 ?_
 try go_wp2
 first | (go_roundg kj26; (case measure => have := HK1.out; have := HJ26.out; omega); (case rel => exact ⟨(wrap64 (x5_1 + 1)), ψ7, H', ⟨by have := HK1.out; have := HJ26.out; omega⟩, ⟨ψ10⟩, ⟨ψ2⟩⟩)) | (go_ret; exact ⟨ψ4, ψ2⟩)) : P := h
theorem spec_l9May.calls (k : Nat) (a0_0 : Int) (A0_1 : Option Addr) (c0_1 : Nat) (l0_1 : List (S106)) (A0_2 : Option Addr) (c0_2 : Nat) (l0_2 : List (S106)) (a0_3 : Int) (A0_4 : Option Addr) (c0_4 : Nat) (l0_4 : List Int) (A0_5 : Option Addr) (c0_5 : Nat) (l0_5 : List (S114)) (A1 : Option Addr) (c1 : Nat) (l1 : List (S74)) (r : Bool) (w : World) (hr0_1 : Kd.C k106 w A0_1 l0_1.length l0_1) (hc0_1 : l0_1.length ≤ c0_1) (hr0_2 : Kd.C k106 w A0_2 l0_2.length l0_2) (hc0_2 : l0_2.length ≤ c0_2) (hr0_4 : Kd.C (Kd.int .i64) w A0_4 l0_4.length l0_4) (hc0_4 : l0_4.length ≤ c0_4) (hr0_5 : Kd.C k114 w A0_5 l0_5.length l0_5) (hc0_5 : l0_5.length ≤ c0_5) (hr1 : Kd.C k74 w A1 l1.length l1) (hc1 : l1.length ≤ c1) (h : spec_l9May.f k a0_0 l0_1 l0_2 a0_3 l0_4 l0_5 l1 = some r) :
 Calls Try.prog 102 #[.agg #[.int .i64 a0_0, .slice A0_1 l0_1.length c0_1, .slice A0_2 l0_2.length c0_2, .int .i64 a0_3, .slice A0_4 l0_4.length c0_4, .slice A0_5 l0_5.length c0_5], .slice A1 l1.length c1] w fun e w' => e = .returned (.bool r) ∧ Below w.heap.size w w' := by
 have hu36 := Try.underlying36
 have q := n10_ hr0_1 hc0_1 hr0_2 hc0_2 hr0_4 hc0_4 hr0_5 hc0_5 hr1 hc1
 clear hr0_1 hc0_1 hr0_2 hc0_2 hr0_4 hc0_4 hr0_5 hc0_5 hr1 hc1
 obtain ⟨HR0_1, HC0_1, HR0_2, HC0_2, HR0_4, HC0_4, HR0_5, HC0_5, HR1, HC1⟩ := q
 have HB := Aside0.mk (Below.refl w.heap.size w)
 unfold spec_l9May.f at h
 have H := h
 clear h
 have H' := Aside0.mk H
 clear H
 go_enter Try.func102, Try.ntmps102
 go_wp2_with (first | ((with_reducible refine gate_dst (N := 2) rfl ?_); refine bE 2 #[.int .i64 a0_0, .slice A0_1 l0_1.length c0_1, .slice A0_2 l0_2.length c0_2, .int .i64 a0_3, .slice A0_4 l0_4.length c0_4, .slice A0_5 l0_5.length c0_5] 36 ?_; intro gb10 hg w3 hbox hb; have q := n4_ (below_step ψ2 hb) (hbox) ((ψ113 : w.heap.size ≤ gb10)) ((ψ113 : w.heap.size ≤ gb10)); clear HB; obtain ⟨HB, BK10, GW10, GE10⟩ := q; clear hb hbox hg))
 go_loopg [5] k (fun kq v5 w' => ∃ (x5_1 : Int), v5 = .int .i64 x5_1 ∧ Aside0 (spec_l9May.l0 kq l1 x5_1 a0_0 l0_1 l0_2 a0_3 l0_4 l0_5 = some r) ∧ Aside0 (kq ≤ k) ∧ Aside0 (w'.heap[gb10]? = some (.cells #[.int .i64 a0_0, (.slice A0_1 l0_1.length c0_1), (.slice A0_2 l0_2.length c0_2), .int .i64 a0_3, (.slice A0_4 l0_4.length c0_4), (.slice A0_5 l0_5.length c0_5)] 36 (0, 0))) ∧ Aside0 (Below w.heap.size w w'))
 case atStart => exact ⟨(0), ψ7, H', ⟨Nat.le_refl _⟩, ⟨ψ10⟩, ⟨ψ2⟩⟩
 case round =>
  clear H'
  try clear c1
  obtain ⟨x5_1, rfl, HA, HK1, BK10, HB⟩ := hrel
  cases gk with
  | zero => exact absurd HA.out (by simp [spec_l9May.l0])
  | succ k1 =>
   have H := HA.out
   clear HA
   simp only [spec_l9May.l0] at H
   replace H := ifD H; rcases H with ⟨c4b0, H⟩ | ⟨c4b0, H⟩
   ·replace H := bS H; obtain ⟨t1086, A5, H⟩ := H
    by_cases c6 : 0 ≤ t1086
    ·rw [if_pos c6] at H
     have c6b0 := eq_true c6
     have c6b1 : decide (0 ≤ t1086) = true := decide_eq_true c6
     clear c6
     by_cases c7 : t1086 ≤ (wrap64 (x5_1 + 1))
     ·rw [if_pos c7] at H
      have c7b0 := eq_true c7
      have c7b1 : decide (t1086 ≤ (wrap64 (x5_1 + 1))) = true := decide_eq_true c7
      by_cases c8 : (wrap64 (x5_1 + 1)) ≤ (l1.length : Int)
      ·rw [if_pos c8] at H
       have c8b0 := eq_true c8
       have c8b1 : decide ((wrap64 (x5_1 + 1)) ≤ (l1.length : Int)) = true := decide_eq_true c8
       obtain ⟨y1087, hy1087⟩ : ∃ y_ : List (S74), y_ = ((l1.take ((wrap64 (x5_1 + 1)) : Int).toNat).drop (t1086 : Int).toNat) := ⟨_, rfl⟩
       replace H : ((spec_PartsOf.f k1 y1087).bind fun t1091 => (if 0 ≤ x5_1 then (if ((rd_T74 l1 x5_1).f0) = 2 then (if 0 < (t1091.length : Int) then (if 0 ≤ ((rd_T74 l1 x5_1).f1) then (if ((rd_T74 l1 x5_1).f1) < (l0_4.length : Int) then ((spec_l9Known.f (rd_L8 t1091 0) (rd l0_4 ((rd_T74 l1 x5_1).f1)) false).bind fun t1099 => (if t1099 = true then (spec_l9May.l0 k1 l1 (wrap64 (x5_1 + 1)) a0_0 l0_1 l0_2 a0_3 l0_4 l0_5) else (some true))) else (none)) else (none)) else (none)) else (if ((rd_T74 l1 x5_1).f0) = 8 then (spec_l9May.j1 k1 l1 x5_1 t1091 (((rd_T74 l1 x5_1).f0) == 8) a0_0 l0_1 l0_2 a0_3 l0_4 l0_5) else (spec_l9May.j1 k1 l1 x5_1 t1091 (((rd_T74 l1 x5_1).f0) == 9) a0_0 l0_1 l0_2 a0_3 l0_4 l0_5))) else (none))) = some r := by first | (rw [hy1087]; with_reducible exact H) | (have H2_ := (Option.bind_some _ _).symm.trans H; rw [hy1087]; with_reducible exact H2_) | (have H2_ := (Option.bind_some _ _).symm.trans H; with_reducible exact H2_) | with_reducible exact H | (rw [hy1087]; exact H) | exact H
       have Ny1087 := Aside0.mk hy1087
       clear hy1087
       replace H := bS H; obtain ⟨t1091, A9, H⟩ := H
       replace H := ifN H; obtain ⟨c10b0, H⟩ := H
       replace H := ifF H; rcases H with ⟨c11b0, c11b1, H⟩ | ⟨c11b0, c11b1, c11, H⟩
       ·by_cases c12 : 0 < (t1091.length : Int)
        ·rw [if_pos c12] at H
         have c12b0 : decide (0 < (t1091.length : Int)) = true := decide_eq_true c12
         have c12b1 : decide (0 < t1091.length) = true := decide_eq_true ψ21
         clear c12
         replace H := ifN H; obtain ⟨c13b0, H⟩ := H
         replace H := ifN H; obtain ⟨c14b0, H⟩ := H
         replace H := bS H; obtain ⟨t1099, A15, H⟩ := H
         replace H := ifB H; rcases H with ⟨rfl, H⟩ | ⟨rfl, H⟩
         ·exact τ87
         ·exact τ87
        ·rw [if_neg c12] at H
         exact absurd H ψ22
       ·have HC27 := Aside0.mk H
        clear H
        go_upto_if 42 with (first | ((with_reducible refine gate_callee (f := 125) rfl ?_); refine gL 16 Try.func125 #[.slice A1 l1.length c1, .int .i64 x5_1] ?_; (with_reducible refine (spec_l2First.calls k1 _ _ l1 x5_1 _ _ ?_ ?_ A5.out).mono ?_); exact ψ23; exact HC1.out; rintro e w28 ⟨rfl, hb⟩; refine ⟨_, rfl, ?_⟩; have q := n2_ (blk_below (g := gb10) ψ10 hb) (below_step ψ2 hb); clear BK10 HB; obtain ⟨BK10, HB⟩ := q; (try clear hb); have q29 : ((wrap64 (x5_1 + 1)) : Int) ≤ ((l1.length : Int) : Int) := of_decide_eq_true ψ5; obtain ⟨i029, hi029, _, hsz29, _⟩ := info_parts info74; have hroom29 : l1.length ≤ c1 := HC1.out; have hC29 : Kd.C k74 _ A1 l1.length l1 := HR1.out; have ql29 : (t1086 : Int) ≤ ((wrap64 (x5_1 + 1)) : Int) := of_decide_eq_true ψ5; have q029 : (0 : Int) ≤ (t1086 : Int) := of_decide_eq_true ψ5; have hcut29 := cut_mid (P := Try.prog) 68 74 .i64 .i64 Try.underlying68 hi029 2 hsz29 A1 l1.length c1 t1086 (wrap64 (x5_1 + 1)) q029 ql29 q29 hroom29; have hr29 := Kd.C_mid (lo := (t1086 : Int).toNat) (hi := ((wrap64 (x5_1 + 1)) : Int).toNat) (c := c1) hC29 ψ21 ψ21 hroom29; obtain ⟨A29, hA29⟩ : ∃ A_, A_ = (if c1 = (t1086 : Int).toNat then A1 else (A1 : Option Addr).map (·.add ((t1086 : Int).toNat * 2))) := ⟨_, rfl⟩; obtain ⟨c29, hc29⟩ : ∃ c_, c_ = c1 - (t1086 : Int).toNat := ⟨_, rfl⟩; have hy29 : y1087.length = ((wrap64 (x5_1 + 1)) : Int).toNat - (t1086 : Int).toNat := ψ109; rw [show ((l1).take ((wrap64 (x5_1 + 1)) : Int).toNat).drop (t1086 : Int).toNat = y1087 from Ny1087.out.symm] at hr29; replace hr29 : Kd.C k74 _ A29 y1087.length y1087 := (by rw [hA29]; exact hr29); rw [← hy29, ← hA29, ← hc29] at hcut29; have HR1090 := Aside0.mk hr29; have HC1090 := Aside0.mk (show y1087.length ≤ c29 from by rw [hy29, hc29]; exact Nat.sub_le_sub_right (Nat.le_trans ψ21 hroom29) _); clear hr29 hC29 hroom29 hi029 hsz29 hc29; have KY29 := Aside0.mk hy29; have KA29 := Aside0.mk hA29; clear hy29 hA29; replace q29 := eq_true q29) | ((with_reducible refine gate_callee (f := 124) rfl ?_); refine gL 20 Try.func124 #[.slice A29 y1087.length c29] ?_; (with_reducible refine (spec_PartsOf.calls k1 _ _ y1087 _ _ ?_ ?_ A9.out).mono ?_); exact ψ110; exact HC1090.out; rintro e w30 ⟨v1092, rfl, ho0, hb⟩; refine ⟨_, rfl, ?_⟩; have q := n3_ (Kd.N_lower (Kd.N_mono (ok' := fun k_ => k_ ≠ gb10) ho0 (fun k_ hk_ => (Kd.freshB (g := gb10) ψ10 k_ hk_))) (below_size ψ2)) (blk_below (g := gb10) ψ10 hb) (below_step ψ2 hb); clear BK10 HB; obtain ⟨HO1093, BK10, HB⟩ := q; (try clear hb); (try clear ho0); have p1094 : 0 ≤ (x5_1 : Int) := of_decide_eq_true ψ5; have q1094 : x5_1 < (l1.length : Int) := of_decide_eq_true ψ5; obtain ⟨ad1094, e1094, hx1094_0, hx1094_1⟩ := at_T74 HR1.out x5_1 p1094 q1094; cases e1094; replace hx1094_0 := cB HB hx1094_0; replace hx1094_1 := cB HB hx1094_1; replace p1094 := eq_true p1094; replace q1094 := eq_true q1094))
        (try simp only [Act.put, List.setIfInBounds_toArray, List.set_cons_zero, List.set_cons_succ])
        go_cut [42] (fun v42 wc => ∃ (kq : Nat) (x42_26 : Bool), v42 = .bool x42_26 ∧ Aside0 (spec_l9May.j1 kq l1 x5_1 t1091 x42_26 a0_0 l0_1 l0_2 a0_3 l0_4 l0_5 = some r) ∧ Aside0 (kq ≤ k1) ∧ Aside0 (Kd.N (Kd.slice 74 k74) 68 wc w.heap.size (fun k_ => k_ ≠ gb10) v1092 t1091) ∧ Aside0 (wc.heap[gb10]? = some (.cells #[.int .i64 a0_0, (.slice A0_1 l0_1.length c0_1), (.slice A0_2 l0_2.length c0_2), .int .i64 a0_3, (.slice A0_4 l0_4.length c0_4), (.slice A0_5 l0_5.length c0_5)] 36 (0, 0))) ∧ Aside0 (Below w.heap.size w wc))
        case first =>
         have H := HC27.out
         clear HC27
         replace H := ifF H; rcases H with ⟨c31b0, c31b1, H⟩ | ⟨c31b0, c31b1, c31, H⟩
         ·(first | rw [c31b0] | rw [c31b1] | (simp only [i64_w, i32_w]; rw [c31b0]) | skip)
          have H' := Aside0.mk H
          clear H
          go_wp2
          go_meet
          case rel => exact ⟨_, ((((rd_T74 l1 x5_1).f0) == 8)), ψ7, H', ⟨ψ18⟩, ⟨have hZ := HO1093; kN_⟩, ⟨ψ10⟩, ⟨ψ2⟩⟩
         ·(first | rw [c31b0] | rw [c31b1] | (simp only [i64_w, i32_w]; rw [c31b0]) | skip)
          have H' := Aside0.mk H
          clear H
          go_wp2
          go_meet
          case rel => exact ⟨_, ((((rd_T74 l1 x5_1).f0) == 9)), ψ7, H', ⟨ψ18⟩, ⟨have hZ := HO1093; kN_⟩, ⟨ψ10⟩, ⟨ψ2⟩⟩
        case rest =>
         clear HC27
         try clear c1
         try clear c4
         try clear c4b0
         try clear c6
         try clear c6b0
         try clear c6b1
         try clear c7
         try clear c7b0
         try clear c7b1
         try clear c8
         try clear c8b0
         try clear c8b1
         try clear c10
         try clear c10b0
         try clear c11
         try clear c11b0
         try clear c11b1
         try clear c12
         try clear c12b0
         try clear c12b1
         try clear c13
         try clear c13b0
         try clear c14
         try clear c14b0
         try clear c16
         try clear c18
         try clear q18
         try clear c23
         try clear q23
         try clear c29
         try clear q29
         try clear c31
         try clear c31b0
         try clear c31b1
         try clear hx1094_0
         try clear hx1094_1
         try clear hx1095_0
         try clear hx1097_0
         try clear hx1097_1
         try clear hx1098_0
         try clear p1094
         try clear p1095
         try clear p1097
         try clear p1098
         try clear q018
         try clear q023
         try clear q029
         try clear q1094
         try clear q1095
         try clear q1097
         try clear q1098
         try clear q18
         try clear q23
         try clear q29
         obtain ⟨kq, x42_26, rfl, HA, HJ26, HO_6, BK10, HB⟩ := hcut
         cases kq with
         | zero => exact absurd HA.out (by simp [spec_l9May.j1])
         | succ kj26 =>
          have H := HA.out
          clear HA
          simp only [spec_l9May.j1] at H
          replace H := ifB H; rcases H with ⟨rfl, H⟩ | ⟨rfl, H⟩
          ·by_cases c33 : 1 < (t1091.length : Int)
           ·rw [if_pos c33] at H
            have c33b0 : decide (1 < (t1091.length : Int)) = true := decide_eq_true c33
            have c33b1 : decide (1 < t1091.length) = true := decide_eq_true ψ21
            clear c33
            replace H := bS H; obtain ⟨t1102, A34, H⟩ := H
            replace H := bS H; obtain ⟨t1103, A35, H⟩ := H
            replace H := ifB H; rcases H with ⟨rfl, H⟩ | ⟨rfl, H⟩
            ·exact τ88
            ·exact τ88
           ·rw [if_neg c33] at H
            exact absurd H ψ22
          ·have H' := Aside0.mk H
           clear H
           go_wp2
           go_roundg kj26
           case measure => have := HK1.out; have := HJ26.out; omega
           case rel => exact ⟨(wrap64 (x5_1 + 1)), ψ7, H', ⟨by have := HK1.out; have := HJ26.out; omega⟩, ⟨ψ10⟩, ⟨ψ2⟩⟩
      ·rw [if_neg c8] at H
       exact absurd H ψ22
     ·rw [if_neg c7] at H
      exact absurd H ψ22
    ·rw [if_neg c6] at H
     exact absurd H ψ22
   ·obtain rfl := Option.some.inj H
    go_wp2
    go_ret
    exact ⟨ψ4, ψ2⟩

/-! ### spec_MayTrap: function 54 -/
def spec_MayTrap.f (k : Nat) (a0_0 : Int) (l0_1 : List (S106)) (l0_2 : List (S106)) (a0_3 : Int) (l0_4 : List Int) (l0_5 : List (S114)) (l1 : List (S74)) : Option (Bool) := (spec_ProgOk.f k a0_0 l0_1 l0_2 a0_3 l0_4 l0_5).bind fun t1106 => (if t1106 = true then ((spec_l3Exp.f k a0_0 l0_1 l0_2 a0_3 l0_4 l0_5 l1).bind fun t1108 => (if t1108 = true then ((spec_l9May.f k a0_0 l0_1 l0_2 a0_3 l0_4 l0_5 l1).bind fun t1110 => (some t1110)) else (some false))) else (some false))
theorem τ89 {P : Prop} (h : P := by
 obtain rfl := Option.some.inj H
 go_enter Try.func54, Try.ntmps54
 go_wp2_with (first | ((with_reducible refine gate_dst (N := 2) rfl ?_); refine bE 2 #[.int .i64 a0_0, .slice A0_1 l0_1.length c0_1, .slice A0_2 l0_2.length c0_2, .int .i64 a0_3, .slice A0_4 l0_4.length c0_4, .slice A0_5 l0_5.length c0_5] 36 ?_; intro gb10 hg w1_ hbox hb; have q := n4_ (below_step ψ2 hb) (hbox) ((ψ113 : w.heap.size ≤ gb10)) ((ψ113 : w.heap.size ≤ gb10)); clear HB; obtain ⟨HB, BK10, GW10, GE10⟩ := q; clear hb hbox hg; obtain ⟨hczB10_0, hczB10_1, hczB10_2, hczB10_3, hczB10_4, hczB10_5, hfzB10_0, hfzB10_1, hfzB10_2, hfzB10_3, hfzB10_4, hfzB10_5⟩ := cells6 BK10.out) | ((with_reducible refine gate_callee (f := 67) rfl ?_); refine gL 6 Try.func67 #[.agg #[.int .i64 a0_0, .slice A0_1 l0_1.length c0_1, .slice A0_2 l0_2.length c0_2, .int .i64 a0_3, .slice A0_4 l0_4.length c0_4, .slice A0_5 l0_5.length c0_5]] ?_; (with_reducible refine (spec_ProgOk.calls k a0_0 _ _ l0_1 _ _ l0_2 a0_3 _ _ l0_4 _ _ l0_5 _ _ ?_ ?_ ?_ ?_ ?_ ?_ ?_ ?_ A3.out).mono ?_); exact ψ9; exact HC0_1.out; exact ψ3; exact HC0_2.out; exact ψ16; exact HC0_4.out; exact ψ17; exact HC0_5.out; rintro e w2_ ⟨rfl, hb⟩; refine ⟨_, rfl, ?_⟩; have q := n2_ (blk_below (g := gb10) ψ10 hb) (below_step ψ2 hb); clear BK10 HB; obtain ⟨BK10, HB⟩ := q; (try clear hb); (try (obtain ⟨hczB10_0, hczB10_1, hczB10_2, hczB10_3, hczB10_4, hczB10_5, hfzB10_0, hfzB10_1, hfzB10_2, hfzB10_3, hfzB10_4, hfzB10_5⟩ := cells6 BK10.out))) | (go_at_call 101; (with_reducible refine (spec_l3Exp.calls k a0_0 _ _ l0_1 _ _ l0_2 a0_3 _ _ l0_4 _ _ l0_5 _ _ l1 _ _ ?_ ?_ ?_ ?_ ?_ ?_ ?_ ?_ ?_ ?_ A5.out).mono ?_); exact ψ9; exact HC0_1.out; exact ψ3; exact HC0_2.out; exact ψ16; exact HC0_4.out; exact ψ17; exact HC0_5.out; exact ψ23; exact HC1.out; rintro e w3_ ⟨rfl, hb⟩; have q := n2_ (blk_below (g := gb10) ψ10 hb) (below_step ψ2 hb); clear BK10 HB; obtain ⟨BK10, HB⟩ := q; (try clear hb); (try (obtain ⟨hczB10_0, hczB10_1, hczB10_2, hczB10_3, hczB10_4, hczB10_5, hfzB10_0, hfzB10_1, hfzB10_2, hfzB10_3, hfzB10_4, hfzB10_5⟩ := cells6 BK10.out))) | (go_at_call 102; (with_reducible refine (spec_l9May.calls k a0_0 _ _ l0_1 _ _ l0_2 a0_3 _ _ l0_4 _ _ l0_5 _ _ l1 _ _ ?_ ?_ ?_ ?_ ?_ ?_ ?_ ?_ ?_ ?_ A7.out).mono ?_); exact ψ9; exact HC0_1.out; exact ψ3; exact HC0_2.out; exact ψ16; exact HC0_4.out; exact ψ17; exact HC0_5.out; exact ψ23; exact HC1.out; rintro e w4_ ⟨rfl, hb⟩; have q := n2_ (blk_below (g := gb10) ψ10 hb) (below_step ψ2 hb); clear BK10 HB; obtain ⟨BK10, HB⟩ := q; (try clear hb)))
 go_ret
 exact ⟨ψ4, ψ2⟩) : P := h
theorem spec_MayTrap.calls (k : Nat) (a0_0 : Int) (A0_1 : Option Addr) (c0_1 : Nat) (l0_1 : List (S106)) (A0_2 : Option Addr) (c0_2 : Nat) (l0_2 : List (S106)) (a0_3 : Int) (A0_4 : Option Addr) (c0_4 : Nat) (l0_4 : List Int) (A0_5 : Option Addr) (c0_5 : Nat) (l0_5 : List (S114)) (A1 : Option Addr) (c1 : Nat) (l1 : List (S74)) (r : Bool) (w : World) (hr0_1 : Kd.C k106 w A0_1 l0_1.length l0_1) (hc0_1 : l0_1.length ≤ c0_1) (hr0_2 : Kd.C k106 w A0_2 l0_2.length l0_2) (hc0_2 : l0_2.length ≤ c0_2) (hr0_4 : Kd.C (Kd.int .i64) w A0_4 l0_4.length l0_4) (hc0_4 : l0_4.length ≤ c0_4) (hr0_5 : Kd.C k114 w A0_5 l0_5.length l0_5) (hc0_5 : l0_5.length ≤ c0_5) (hr1 : Kd.C k74 w A1 l1.length l1) (hc1 : l1.length ≤ c1) (h : spec_MayTrap.f k a0_0 l0_1 l0_2 a0_3 l0_4 l0_5 l1 = some r) :
 Calls Try.prog 54 #[.agg #[.int .i64 a0_0, .slice A0_1 l0_1.length c0_1, .slice A0_2 l0_2.length c0_2, .int .i64 a0_3, .slice A0_4 l0_4.length c0_4, .slice A0_5 l0_5.length c0_5], .slice A1 l1.length c1] w fun e w' => e = .returned (.bool r) ∧ Below w.heap.size w w' := by
 have hu36 := Try.underlying36
 have q := n10_ hr0_1 hc0_1 hr0_2 hc0_2 hr0_4 hc0_4 hr0_5 hc0_5 hr1 hc1
 clear hr0_1 hc0_1 hr0_2 hc0_2 hr0_4 hc0_4 hr0_5 hc0_5 hr1 hc1
 obtain ⟨HR0_1, HC0_1, HR0_2, HC0_2, HR0_4, HC0_4, HR0_5, HC0_5, HR1, HC1⟩ := q
 have HB := Aside0.mk (Below.refl w.heap.size w)
 unfold spec_MayTrap.f at h
 have H := h
 clear h
 replace H := bS H; obtain ⟨t1106, A3, H⟩ := H
 replace H := ifB H; rcases H with ⟨rfl, H⟩ | ⟨rfl, H⟩
 ·replace H := bS H; obtain ⟨t1108, A5, H⟩ := H
  replace H := ifB H; rcases H with ⟨rfl, H⟩ | ⟨rfl, H⟩
  ·replace H := bS H; obtain ⟨t1110, A7, H⟩ := H
   exact τ89
  ·exact τ89
 ·exact τ89

end Go.Proofs.Ytakmkdlkipfnhaa.PCore

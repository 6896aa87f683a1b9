/- The walks of the functions that the laws come to, part 5: turned out of the kit's print, and mended where that fell. -/
import Derived.Test.YtakmkdlkipfnhaaPCoreg
import Derived.Test.YtakmkdlkipfnhaaPCoreg4
namespace Go.Proofs.Ytakmkdlkipfnhaa.PCore
open Go.RowKit Go.Proofs.YtakmkdlkipfnhaaW.PrintWords Go.Proofs.YtakmkdlkipfnhaaW.PrintLast Go.Proofs.YtakmkdlkipfnhaaW.PrintMore
attribute [local go_sem] max2_int min2_int max_two min_two max_three min_three max_four min_four   -- for this text's walks alone
set_option linter.unusedVariables false
set_option maxHeartbeats 8000000
set_option maxRecDepth 100000
set_option linter.unusedSimpArgs false

theorem ψ46 {P : Prop} (h : P := by have := HJ1.out; have := HK2.out; first | omega | exact Nat.le_refl _) : P := h
theorem ψ47 {P : Prop} (h : P := by (with_reducible repeat (first | refine blk_drewN ?_ _ | refine blk_drew ?_ | refine blk_alloc ?_ _)); refine blk_put (cs := #[.int .i64 ((rd_T106 ((rd_T36 l0 0).f1) x27_2).f0), .int .i64 0]) ?_ 1 _ rfl; (with_reducible repeat (first | refine blk_drewN ?_ _ | refine blk_drew ?_ | refine blk_alloc ?_ _)); refine blk_put (cs := #[.int .i64 0, .int .i64 0]) ?_ 0 _ rfl; (with_reducible repeat (first | refine blk_drewN ?_ _ | refine blk_drew ?_ | refine blk_alloc ?_ _)); exact BK10.out) : P := h
theorem ψ48 {P : Prop} (h : P := by have := HJ1.out; have := HK2.out; have := HK3.out; first | omega | exact Nat.le_refl _) : P := h
theorem ψ49 {P : Prop} (h : P := by (with_reducible repeat (first | refine blk_drewN ?_ _ | refine blk_drew ?_ | refine blk_alloc ?_ _)); refine blk_put (cs := #[.int .i64 ((rd_T106 ((rd_T36 l0 0).f2) x57_3).f0), .int .i64 0]) ?_ 1 _ rfl; (with_reducible repeat (first | refine blk_drewN ?_ _ | refine blk_drew ?_ | refine blk_alloc ?_ _)); refine blk_put (cs := #[.int .i64 0, .int .i64 0]) ?_ 0 _ rfl; (with_reducible repeat (first | refine blk_drewN ?_ _ | refine blk_drew ?_ | refine blk_alloc ?_ _)); exact BK11.out) : P := h
theorem ψ123 {P : Prop} (h : P := by (with_reducible repeat (first | apply Kd.R_alloc | apply Kd.R_drewN | apply Kd.R_drew)); exact (Kd.R_mono (Kd.R_far (p := ⟨gb12, 1, none⟩) (Kd.R_types HO375.out BK12.out (ψ13)) (fun _ hk => hk.2) (.slice Ao15 t373.length co15)) (fun _ h_ => h_.1))) : P := h
/-! ### laws_toProg: function 18 -/
def laws_toProg.f (k : Nat) (a0_0 : Int) (l0_1 : List (S128)) (l0_2 : List (S128)) (a0_3 : Int) (l0_4 : List Int) (l0_5 : List (S126)) : Option (Int × (List (S106)) × (List (S106)) × Int × List Int × (List (S114))) := (laws_toInputS.f k l0_1).bind fun t373 => ((laws_toInputS.f k l0_2).bind fun t377 => ((laws_toInt64S.f k l0_4).bind fun t382 => ((laws_toStmtS.f k l0_5).bind fun t386 => (some (a0_0, t373, t377, a0_3, t382, t386)))))
theorem laws_toProg.calls (k : Nat) (a0_0 : Int) (A0_1 : Option Addr) (c0_1 : Nat) (l0_1 : List (S128)) (A0_2 : Option Addr) (c0_2 : Nat) (l0_2 : List (S128)) (a0_3 : Int) (A0_4 : Option Addr) (c0_4 : Nat) (l0_4 : List Int) (A0_5 : Option Addr) (c0_5 : Nat) (l0_5 : List (S126)) (r1 : Int) (r2 : List (S106)) (r3 : List (S106)) (r4 : Int) (r5 : List Int) (r6 : List (S114)) (w : World) (hr0_1 : Kd.C k128 w A0_1 l0_1.length l0_1) (hc0_1 : l0_1.length ≤ c0_1) (hr0_2 : Kd.C k128 w A0_2 l0_2.length l0_2) (hc0_2 : l0_2.length ≤ c0_2) (hr0_4 : Kd.C (Kd.int .i64) w A0_4 l0_4.length l0_4) (hc0_4 : l0_4.length ≤ c0_4) (hr0_5 : Kd.C k126 w A0_5 l0_5.length l0_5) (hc0_5 : l0_5.length ≤ c0_5) (h : laws_toProg.f k a0_0 l0_1 l0_2 a0_3 l0_4 l0_5 = some (r1, r2, r3, r4, r5, r6)) :
 Calls Try.prog 18 #[.agg #[.int .i64 a0_0, .slice A0_1 l0_1.length c0_1, .slice A0_2 l0_2.length c0_2, .int .i64 a0_3, .slice A0_4 l0_4.length c0_4, .slice A0_5 l0_5.length c0_5]] w fun e w' => ∃ v1_ v2_ v4_ v5_ : Value, e = .returned (.agg #[.int .i64 r1, v1_, v2_, .int .i64 r4, v4_, v5_]) ∧ Kd.R k106 106 w' w.heap.size (fun k_ => some k_ ≠ (v2_ : Value).ownBlock) v1_ r2 ∧ Kd.R k106 106 w' w.heap.size (fun k_ => some k_ ≠ (v1_ : Value).ownBlock) v2_ r3 ∧ Kd.R (Kd.int .i64) 2 w' w.heap.size (fun _ => True) v4_ r5 ∧ Kd.S k114 114 w' w.heap.size (fun _ => True) v5_ r6 ∧ Below w.heap.size w w' := by
 have hu26 := Try.underlying26
 have hu36 := Try.underlying36
 have q := n8_ hr0_1 hc0_1 hr0_2 hc0_2 hr0_4 hc0_4 hr0_5 hc0_5
 clear hr0_1 hc0_1 hr0_2 hc0_2 hr0_4 hc0_4 hr0_5 hc0_5
 obtain ⟨HR0_1, HC0_1, HR0_2, HC0_2, HR0_4, HC0_4, HR0_5, HC0_5⟩ := q
 have HB := Aside0.mk (Below.refl w.heap.size w)
 unfold laws_toProg.f at h
 have H := h
 clear h
 replace H := bS H; obtain ⟨t373, A2, H⟩ := H
 replace H := bS H; obtain ⟨t377, A3, H⟩ := H
 replace H := bS H; obtain ⟨t382, A4, H⟩ := H
 replace H := bS H; obtain ⟨t386, A5, H⟩ := H
 simp only [Option.some.injEq, Prod.mk.injEq] at H
 obtain ⟨rfl, rfl, rfl, rfl, rfl, rfl⟩ := H
 go_enter Try.func18, Try.ntmps18
 go_wp2_with (first | ((with_reducible refine gate_dst (N := 1) rfl ?_); refine bE 1 #[.int .i64 a0_0, .slice A0_1 l0_1.length c0_1, .slice A0_2 l0_2.length c0_2, .int .i64 a0_3, .slice A0_4 l0_4.length c0_4, .slice A0_5 l0_5.length c0_5] 26 ?_; intro gb10 hg w6 hbox hb; have q := n4_ (below_step ψ36 hb) (hbox) ((ψ119 : w.heap.size ≤ gb10)) ((ψ119 : w.heap.size ≤ gb10)); clear HB; obtain ⟨HB, BK10, GW10, GE10⟩ := q; clear hb hbox hg) | ((with_reducible refine gate_dst (N := 2) rfl ?_); refine bE 2 #[.int .i64 0, .slice none 0 0, .slice none 0 0, .int .i64 0, .slice none 0 0, .slice none 0 0] 36 ?_; intro gb11 hg w7 hbox hb; have q := n7_ (blk_below (g := gb10) ψ10 hb) (below_step ψ36 hb) (hbox) ((ψ119 : w.heap.size ≤ gb11)) ((ψ119 : w.heap.size ≤ gb11)) ((ψ116 : gb10 ≠ gb11)) ((ψ117 : gb11 ≠ gb10)); clear BK10 HB; obtain ⟨BK10, HB, BK11, GW11, GE11, NB10_11, NB11_10⟩ := q; clear hb hbox hg) | ((with_reducible refine gate_dst (N := 3) rfl ?_); refine bE 3 #[.int .i64 0, .slice none 0 0, .slice none 0 0, .int .i64 0, .slice none 0 0, .slice none 0 0] 36 ?_; intro gb12 hg w8 hbox hb; have q := n10_ (blk_below (g := gb10) ψ10 hb) (blk_below (g := gb11) ψ24 hb) (below_step ψ36 hb) (hbox) ((ψ119 : w.heap.size ≤ gb12)) ((ψ119 : w.heap.size ≤ gb12)) ((ψ116 : gb10 ≠ gb12)) ((ψ117 : gb12 ≠ gb10)) ((ψ120 : gb11 ≠ gb12)) ((ψ121 : gb12 ≠ gb11)); clear BK10 BK11 HB; obtain ⟨BK10, BK11, HB, BK12, GW12, GE12, NB10_12, NB12_10, NB11_12, NB12_11⟩ := q; clear hb hbox hg; have hnb9 := NB10_11.out; have hnc9 := NB11_10.out; have hnb10 := NB10_12.out; have hnc10 := NB12_10.out; obtain ⟨y11_0, y11_1, y11_2, y11_3, y11_4, y11_5, u11_0, u11_1, u11_2, u11_3, u11_4, u11_5⟩ := cells6 BK10.out; have hnb12 := NB12_11.out; have hnc12 := NB11_12.out; obtain ⟨y13_0, y13_1, y13_2, y13_3, y13_4, y13_5, u13_0, u13_1, u13_2, u13_3, u13_4, u13_5⟩ := cells6 BK12.out) | ((with_reducible refine gate_callee (f := 71) rfl ?_); refine gL 9 Try.func71 #[.slice A0_1 l0_1.length c0_1] ?_; (with_reducible refine (laws_toInputS.calls k _ _ l0_1 _ _ ?_ ?_ A2.out).mono ?_); exact Kd.C_below HR0_1.out ψ36; exact HC0_1.out; rintro e w14 ⟨v374, rfl, ho0, hb⟩; refine ⟨_, rfl, ?_⟩; have q := n5_ (Kd.R_lower ho0 (below_size ψ36)) (blk_below (g := gb10) (o := .cells #[.int .i64 a0_0, .slice A0_1 l0_1.length c0_1, .slice A0_2 l0_2.length c0_2, .int .i64 a0_3, .slice A0_4 l0_4.length c0_4, .slice A0_5 l0_5.length c0_5] 26 (0, 0)) ψ41 hb) (blk_below (g := gb11) (o := .cells #[.int .i64 0, .slice none 0 0, .slice none 0 0, .int .i64 0, .slice none 0 0, .slice none 0 0] 36 (0, 0)) ψ42 hb) (blk_below (g := gb12) (o := .cells #[.int .i64 a0_0, .slice none 0 0, .slice none 0 0, .int .i64 0, .slice none 0 0, .slice none 0 0] 36 (0, 0)) (by (with_reducible repeat (first | refine blk_drewN ?_ _ | refine blk_drew ?_ | refine blk_alloc ?_ _)); refine blk_put (cs := #[.int .i64 0, .slice none 0 0, .slice none 0 0, .int .i64 0, .slice none 0 0, .slice none 0 0]) ?_ 0 _ rfl; (with_reducible repeat (first | refine blk_drewN ?_ _ | refine blk_drew ?_ | refine blk_alloc ?_ _)); exact BK12.out) hb) (below_step ψ36 hb); clear BK10 BK11 BK12 HB; obtain ⟨HO375, BK10, BK11, BK12, HB⟩ := q; (try clear hb); (try clear ho0); obtain ⟨Ao15, co15, eo15⟩ := Kd.R_slice HO375.out; subst eo15; obtain ⟨y16_0, y16_1, y16_2, y16_3, y16_4, y16_5, u16_0, u16_1, u16_2, u16_3, u16_4, u16_5⟩ := cells6 BK12.out; obtain ⟨y17_0, y17_1, y17_2, y17_3, y17_4, y17_5, u17_0, u17_1, u17_2, u17_3, u17_4, u17_5⟩ := cells6 BK10.out) | ((with_reducible refine gate_callee (f := 71) rfl ?_); refine gL 13 Try.func71 #[.slice A0_2 l0_2.length c0_2] ?_; (with_reducible refine (laws_toInputS.calls k _ _ l0_2 _ _ ?_ ?_ A3.out).mono ?_); exact Kd.C_below HR0_2.out ψ36; exact HC0_2.out; rintro e w18 ⟨v378, rfl, ho0, hb⟩; refine ⟨_, rfl, ?_⟩; have q := n6_ (Kd.R_elder' ψ123 (Kd.R_base ho0) hb) (Kd.R_lower (Kd.R_new' ho0 (Kd.R_lt ψ123)) (below_size ψ36)) (blk_below (g := gb10) (o := .cells #[.int .i64 a0_0, .slice A0_1 l0_1.length c0_1, .slice A0_2 l0_2.length c0_2, .int .i64 a0_3, .slice A0_4 l0_4.length c0_4, .slice A0_5 l0_5.length c0_5] 26 (0, 0)) ψ41 hb) (blk_below (g := gb11) (o := .cells #[.int .i64 0, .slice none 0 0, .slice none 0 0, .int .i64 0, .slice none 0 0, .slice none 0 0] 36 (0, 0)) ψ42 hb) (blk_below (g := gb12) (o := .cells #[.int .i64 a0_0, .slice Ao15 t373.length co15, .slice none 0 0, .int .i64 0, .slice none 0 0, .slice none 0 0] 36 (0, 0)) (by (with_reducible repeat (first | refine blk_drewN ?_ _ | refine blk_drew ?_ | refine blk_alloc ?_ _)); refine blk_put (cs := #[.int .i64 a0_0, .slice none 0 0, .slice none 0 0, .int .i64 0, .slice none 0 0, .slice none 0 0]) ?_ 1 _ rfl; (with_reducible repeat (first | refine blk_drewN ?_ _ | refine blk_drew ?_ | refine blk_alloc ?_ _)); exact BK12.out) hb) (below_step ψ36 hb); clear HO375 BK10 BK11 BK12 HB; obtain ⟨HO375, HO379, BK10, BK11, BK12, HB⟩ := q; (try clear hb); (try clear ho0); obtain ⟨Ao19, co19, eo19⟩ := Kd.R_slice HO379.out; subst eo19; obtain ⟨y20_0, y20_1, y20_2, y20_3, y20_4, y20_5, u20_0, u20_1, u20_2, u20_3, u20_4, u20_5⟩ := cells6 BK12.out; obtain ⟨y21_0, y21_1, y21_2, y21_3, y21_4, y21_5, u21_0, u21_1, u21_2, u21_3, u21_4, u21_5⟩ := cells6 BK10.out) | ((with_reducible refine gate_callee (f := 30) rfl ?_); refine gL 20 Try.func30 #[.slice A0_4 l0_4.length c0_4] ?_; (with_reducible refine (laws_toInt64S.calls k _ _ l0_4 _ _ ?_ ?_ A4.out).mono ?_); exact Kd.C_below HR0_4.out ψ36; exact HC0_4.out; rintro e w22 ⟨v383, rfl, ho0, hb⟩; refine ⟨_, rfl, ?_⟩; have q := n7_ (Kd.R_below (by (with_reducible repeat (first | apply Kd.R_alloc | apply Kd.R_drewN | apply Kd.R_drew)); exact (Kd.R_mono (Kd.R_far (p := ⟨gb12, 3, none⟩) (Kd.R_far (p := ⟨gb12, 2, none⟩) (Kd.R_types HO375.out BK12.out ψ13) (fun _ hk => hk.2) (.slice Ao19 t377.length co19)) (fun _ hk => hk.2) (.int .i64 a0_3)) (fun _ h_ => h_.1))) hb) (Kd.R_below (by (with_reducible repeat (first | apply Kd.R_alloc | apply Kd.R_drewN | apply Kd.R_drew)); exact (Kd.R_mono (Kd.R_far (p := ⟨gb12, 3, none⟩) (Kd.R_far (p := ⟨gb12, 2, none⟩) (Kd.R_types HO379.out BK12.out ψ13) (fun _ hk => hk.2) (.slice Ao19 t377.length co19)) (fun _ hk => hk.2) (.int .i64 a0_3)) (fun _ h_ => h_.1))) hb) (Kd.R_lower ho0 (below_size ψ36)) (blk_below (g := gb10) (o := .cells #[.int .i64 a0_0, .slice A0_1 l0_1.length c0_1, .slice A0_2 l0_2.length c0_2, .int .i64 a0_3, .slice A0_4 l0_4.length c0_4, .slice A0_5 l0_5.length c0_5] 26 (0, 0)) ψ39 hb) (blk_below (g := gb11) (o := .cells #[.int .i64 0, .slice none 0 0, .slice none 0 0, .int .i64 0, .slice none 0 0, .slice none 0 0] 36 (0, 0)) ψ40 hb) (blk_below (g := gb12) (o := .cells #[.int .i64 a0_0, .slice Ao15 t373.length co15, .slice Ao19 t377.length co19, .int .i64 a0_3, .slice none 0 0, .slice none 0 0] 36 (0, 0)) (by (with_reducible repeat (first | refine blk_drewN ?_ _ | refine blk_drew ?_ | refine blk_alloc ?_ _)); refine blk_put (cs := #[.int .i64 a0_0, .slice Ao15 t373.length co15, .slice Ao19 t377.length co19, .int .i64 0, .slice none 0 0, .slice none 0 0]) ?_ 3 _ rfl; (with_reducible repeat (first | refine blk_drewN ?_ _ | refine blk_drew ?_ | refine blk_alloc ?_ _)); refine blk_put (cs := #[.int .i64 a0_0, .slice Ao15 t373.length co15, .slice none 0 0, .int .i64 0, .slice none 0 0, .slice none 0 0]) ?_ 2 _ rfl; (with_reducible repeat (first | refine blk_drewN ?_ _ | refine blk_drew ?_ | refine blk_alloc ?_ _)); exact BK12.out) hb) (below_step ψ36 hb); clear HO375 HO379 BK10 BK11 BK12 HB; obtain ⟨HO375, HO379, HO384, BK10, BK11, BK12, HB⟩ := q; (try clear hb); (try clear ho0); obtain ⟨Ao23, co23, eo23⟩ := Kd.R_slice HO384.out; subst eo23; obtain ⟨y24_0, y24_1, y24_2, y24_3, y24_4, y24_5, u24_0, u24_1, u24_2, u24_3, u24_4, u24_5⟩ := cells6 BK12.out; obtain ⟨y25_0, y25_1, y25_2, y25_3, y25_4, y25_5, u25_0, u25_1, u25_2, u25_3, u25_4, u25_5⟩ := cells6 BK10.out) | ((with_reducible refine gate_callee (f := 72) rfl ?_); refine gL 24 Try.func72 #[.slice A0_5 l0_5.length c0_5] ?_; (with_reducible refine (laws_toStmtS.calls k _ _ l0_5 _ _ ?_ ?_ A5.out).mono ?_); exact Kd.C_below HR0_5.out ψ36; exact HC0_5.out; rintro e w26 ⟨v387, rfl, ho0, hb⟩; refine ⟨_, rfl, ?_⟩; have q := n8_ (Kd.R_below (by (with_reducible repeat (first | apply Kd.R_alloc | apply Kd.R_drewN | apply Kd.R_drew)); exact (Kd.R_mono (Kd.R_far (p := ⟨gb12, 4, none⟩) (Kd.R_types HO375.out BK12.out ψ13) (fun _ hk => hk.2) (.slice Ao23 t382.length co23)) (fun _ h_ => h_.1))) hb) (Kd.R_below (by (with_reducible repeat (first | apply Kd.R_alloc | apply Kd.R_drewN | apply Kd.R_drew)); exact (Kd.R_mono (Kd.R_far (p := ⟨gb12, 4, none⟩) (Kd.R_types HO379.out BK12.out ψ13) (fun _ hk => hk.2) (.slice Ao23 t382.length co23)) (fun _ h_ => h_.1))) hb) (Kd.R_below (by (with_reducible repeat (first | apply Kd.R_alloc | apply Kd.R_drewN | apply Kd.R_drew)); exact (Kd.R_mono (Kd.R_far (p := ⟨gb12, 4, none⟩) (Kd.R_types HO384.out BK12.out ψ13) (fun _ hk => hk.2) (.slice Ao23 t382.length co23)) (fun _ h_ => h_.1))) hb) (Kd.S_lower ho0 (below_size ψ36)) (blk_below (g := gb10) (o := .cells #[.int .i64 a0_0, .slice A0_1 l0_1.length c0_1, .slice A0_2 l0_2.length c0_2, .int .i64 a0_3, .slice A0_4 l0_4.length c0_4, .slice A0_5 l0_5.length c0_5] 26 (0, 0)) ψ41 hb) (blk_below (g := gb11) (o := .cells #[.int .i64 0, .slice none 0 0, .slice none 0 0, .int .i64 0, .slice none 0 0, .slice none 0 0] 36 (0, 0)) ψ42 hb) (blk_below (g := gb12) (o := .cells #[.int .i64 a0_0, .slice Ao15 t373.length co15, .slice Ao19 t377.length co19, .int .i64 a0_3, .slice Ao23 t382.length co23, .slice none 0 0] 36 (0, 0)) (by (with_reducible repeat (first | refine blk_drewN ?_ _ | refine blk_drew ?_ | refine blk_alloc ?_ _)); refine blk_put (cs := #[.int .i64 a0_0, .slice Ao15 t373.length co15, .slice Ao19 t377.length co19, .int .i64 a0_3, .slice none 0 0, .slice none 0 0]) ?_ 4 _ rfl; (with_reducible repeat (first | refine blk_drewN ?_ _ | refine blk_drew ?_ | refine blk_alloc ?_ _)); exact BK12.out) hb) (below_step ψ36 hb); clear HO375 HO379 HO384 BK10 BK11 BK12 HB; obtain ⟨HO375, HO379, HO384, HO388, BK10, BK11, BK12, HB⟩ := q; (try clear hb); (try clear ho0); obtain ⟨Ao27, co27, eo27⟩ := Kd.S_slice HO388.out; subst eo27; obtain ⟨y28_0, y28_1, y28_2, y28_3, y28_4, y28_5, u28_0, u28_1, u28_2, u28_3, u28_4, u28_5⟩ := cells6 BK12.out; obtain ⟨y29_0, y29_1, y29_2, y29_3, y29_4, y29_5, u29_0, u29_1, u29_2, u29_3, u29_4, u29_5⟩ := cells6 BK11.out))
 refine bodyPost_ret (results_cell_row rfl _ _ gb11 36 #[.int .i64 a0_0, .slice Ao15 t373.length co15, .slice Ao19 t377.length co19, .int .i64 a0_3, .slice Ao23 t382.length co23, .slice Ao27 t386.length co27] (0, 0) _ rfl (by (with_reducible repeat (first | refine blk_drewN ?_ _ | refine blk_drew ?_ | refine blk_alloc ?_ _)); refine blk_put (cs := #[.int .i64 a0_0, .slice Ao15 t373.length co15, .slice Ao19 t377.length co19, .int .i64 a0_3, .slice Ao23 t382.length co23, .slice none 0 0]) ?_ 5 _ rfl; (with_reducible repeat (first | refine blk_drewN ?_ _ | refine blk_drew ?_ | refine blk_alloc ?_ _)); refine blk_put (cs := #[.int .i64 a0_0, .slice Ao15 t373.length co15, .slice Ao19 t377.length co19, .int .i64 a0_3, .slice none 0 0, .slice none 0 0]) ?_ 4 _ rfl; (with_reducible repeat (first | refine blk_drewN ?_ _ | refine blk_drew ?_ | refine blk_alloc ?_ _)); refine blk_put (cs := #[.int .i64 a0_0, .slice Ao15 t373.length co15, .slice Ao19 t377.length co19, .int .i64 0, .slice none 0 0, .slice none 0 0]) ?_ 3 _ rfl; (with_reducible repeat (first | refine blk_drewN ?_ _ | refine blk_drew ?_ | refine blk_alloc ?_ _)); refine blk_put (cs := #[.int .i64 a0_0, .slice Ao15 t373.length co15, .slice none 0 0, .int .i64 0, .slice none 0 0, .slice none 0 0]) ?_ 2 _ rfl; (with_reducible repeat (first | refine blk_drewN ?_ _ | refine blk_drew ?_ | refine blk_alloc ?_ _)); refine blk_put (cs := #[.int .i64 a0_0, .slice none 0 0, .slice none 0 0, .int .i64 0, .slice none 0 0, .slice none 0 0]) ?_ 1 _ rfl; (with_reducible repeat (first | refine blk_drewN ?_ _ | refine blk_drew ?_ | refine blk_alloc ?_ _)); refine blk_put (cs := #[.int .i64 0, .slice none 0 0, .slice none 0 0, .int .i64 0, .slice none 0 0, .slice none 0 0]) ?_ 0 _ rfl; (with_reducible repeat (first | refine blk_drewN ?_ _ | refine blk_drew ?_ | refine blk_alloc ?_ _)); refine blk_far ?_ NB11_12.out _; (with_reducible repeat (first | refine blk_drewN ?_ _ | refine blk_drew ?_ | refine blk_alloc ?_ _)); exact BK11.out) Try.underlying36 rfl ψ12) rfl ?_
 exact ⟨_, _, _, _, ψ4, by (with_reducible repeat (first | apply Kd.R_alloc | apply Kd.R_drewN | apply Kd.R_drew)); exact Kd.R_mono (Kd.R_far (p := ⟨gb11, 5, none⟩) (Kd.R_far (p := ⟨gb11, 4, none⟩) (Kd.R_far (p := ⟨gb11, 3, none⟩) (Kd.R_far (p := ⟨gb11, 2, none⟩) (Kd.R_far (p := ⟨gb11, 1, none⟩) (Kd.R_far (p := ⟨gb11, 0, none⟩) (Kd.R_far (p := ⟨gb12, 5, none⟩) (Kd.R_types (Kd.R_types HO375.out BK12.out ψ13) BK11.out ψ13) (fun _ hk => hk.1.2) (.slice Ao27 t386.length co27)) (fun _ hk => hk.2) (.int .i64 a0_0)) (fun _ hk => hk.2) (.slice Ao15 t373.length co15)) (fun _ hk => hk.2) (.slice Ao19 t377.length co19)) (fun _ hk => hk.2) (.int .i64 a0_3)) (fun _ hk => hk.2) (.slice Ao23 t382.length co23)) (fun _ hk => hk.2) (.slice Ao27 t386.length co27)) (fun _ hk => hk.1.1.2), by (with_reducible repeat (first | apply Kd.R_alloc | apply Kd.R_drewN | apply Kd.R_drew)); exact Kd.R_mono (Kd.R_far (p := ⟨gb11, 5, none⟩) (Kd.R_far (p := ⟨gb11, 4, none⟩) (Kd.R_far (p := ⟨gb11, 3, none⟩) (Kd.R_far (p := ⟨gb11, 2, none⟩) (Kd.R_far (p := ⟨gb11, 1, none⟩) (Kd.R_far (p := ⟨gb11, 0, none⟩) (Kd.R_far (p := ⟨gb12, 5, none⟩) (Kd.R_types (Kd.R_types HO379.out BK12.out ψ13) BK11.out ψ13) (fun _ hk => hk.1.2) (.slice Ao27 t386.length co27)) (fun _ hk => hk.2) (.int .i64 a0_0)) (fun _ hk => hk.2) (.slice Ao15 t373.length co15)) (fun _ hk => hk.2) (.slice Ao19 t377.length co19)) (fun _ hk => hk.2) (.int .i64 a0_3)) (fun _ hk => hk.2) (.slice Ao23 t382.length co23)) (fun _ hk => hk.2) (.slice Ao27 t386.length co27)) (fun _ hk => hk.1.1.2), by (with_reducible repeat (first | apply Kd.R_alloc | apply Kd.R_drewN | apply Kd.R_drew)); exact Kd.R_mono (Kd.R_far (p := ⟨gb11, 5, none⟩) (Kd.R_far (p := ⟨gb11, 4, none⟩) (Kd.R_far (p := ⟨gb11, 3, none⟩) (Kd.R_far (p := ⟨gb11, 2, none⟩) (Kd.R_far (p := ⟨gb11, 1, none⟩) (Kd.R_far (p := ⟨gb11, 0, none⟩) (Kd.R_far (p := ⟨gb12, 5, none⟩) (Kd.R_types (Kd.R_types HO384.out BK12.out ψ13) BK11.out ψ13) (fun _ hk => hk.1.2) (.slice Ao27 t386.length co27)) (fun _ hk => hk.2) (.int .i64 a0_0)) (fun _ hk => hk.2) (.slice Ao15 t373.length co15)) (fun _ hk => hk.2) (.slice Ao19 t377.length co19)) (fun _ hk => hk.2) (.int .i64 a0_3)) (fun _ hk => hk.2) (.slice Ao23 t382.length co23)) (fun _ hk => hk.2) (.slice Ao27 t386.length co27)) (fun _ hk => trivial), by (with_reducible repeat (first | apply Kd.S_alloc | apply Kd.S_drewN | apply Kd.S_drew)); exact Kd.S_mono (Kd.S_far (p := ⟨gb11, 5, none⟩) (Kd.S_far (p := ⟨gb11, 4, none⟩) (Kd.S_far (p := ⟨gb11, 3, none⟩) (Kd.S_far (p := ⟨gb11, 2, none⟩) (Kd.S_far (p := ⟨gb11, 1, none⟩) (Kd.S_far (p := ⟨gb11, 0, none⟩) (Kd.S_far (p := ⟨gb12, 5, none⟩) (Kd.S_types (Kd.S_types HO388.out BK12.out ψ13) BK11.out ψ13) (fun _ hk => hk.1.2) (.slice Ao27 t386.length co27)) (fun _ hk => hk.2) (.int .i64 a0_0)) (fun _ hk => hk.2) (.slice Ao15 t373.length co15)) (fun _ hk => hk.2) (.slice Ao19 t377.length co19)) (fun _ hk => hk.2) (.int .i64 a0_3)) (fun _ hk => hk.2) (.slice Ao23 t382.length co23)) (fun _ hk => hk.2) (.slice Ao27 t386.length co27)) (fun _ hk => trivial), ψ36⟩

/-! ### impl_bitsOf: function 117 -/
def impl_bitsOf.l0 : Nat → Int → Int → Option (Int)
 | 0, _, _ => none
 | k + 1, x0, x3 => if x0 > 0 then (impl_bitsOf.l0 k (wrap64 (Int.tdiv x0 2)) (wrap64 (x3 + 1))) else (some x3)
def impl_bitsOf.f (k : Nat) (a0 : Int) : Option (Int) := impl_bitsOf.l0 k a0 0
theorem impl_bitsOf.calls (k : Nat) (a0 : Int) (r : Int) (w : World) (h : impl_bitsOf.f k a0 = some r) :
 Calls Try.prog 117 #[.int .i64 a0] w fun e w' => e = .returned (.int .i64 r) ∧ Drawn0 w w' := by
 unfold impl_bitsOf.f at h
 have H := h
 clear h
 have H' := Aside0.mk H
 clear H
 go_enter Try.func117, Try.ntmps117
 go_wp2
 go_loopg [0, 3] k (fun kq v0 v3 w' => ∃ (x0_1 : Int) (x3_1 : Int), v0 = .int .i64 x0_1 ∧ v3 = .int .i64 x3_1 ∧ Aside0 (impl_bitsOf.l0 kq x0_1 x3_1 = some r) ∧ Aside0 (kq ≤ k) ∧ Drawn0 w w')
 case atStart => exact ⟨(a0), (0), ψ7, ψ7, H', ⟨Nat.le_refl _⟩, ψ1⟩
 case round =>
  clear H'
  obtain ⟨x0_1, x3_1, rfl, rfl, HA, HK1, ⟨m1, rfl⟩⟩ := hrel
  cases gk with
  | zero => exact absurd HA.out (by simp [impl_bitsOf.l0])
  | succ k1 =>
   have H := HA.out
   clear HA
   simp only [impl_bitsOf.l0] at H
   replace H := ifG H; rcases H with ⟨c2b0, H⟩ | ⟨c2b0, H⟩
   ·have H' := Aside0.mk H
    clear H
    go_wp2
    go_roundg k1
    case measure => have := HK1.out; omega
    case rel => exact ⟨(wrap64 (Int.tdiv x0_1 2)), (wrap64 (x3_1 + 1)), ψ7, ψ7, H', ⟨ψ8⟩, ψ1⟩
   ·obtain rfl := Option.some.inj H
    go_wp2
    go_ret
    exact ⟨ψ0, ψ1⟩

/-! ### impl_greatest: function 119 -/
def impl_greatest.f (l0 : List (S36)) : Option (Int) := if 0 ≤ ((rd_T36 l0 0).f0) then (some (wrap64 ((shl .i64 1 ((rd_T36 l0 0).f0)) - 1))) else (none)
theorem impl_greatest.calls (A0 : Option Addr) (c0 : Nat) (l0 : List (S36)) (r : Int) (w : World) (hn0 : l0.length = 1) (hr0 : Kd.C k36 w A0 l0.length l0) (hc0 : l0.length ≤ c0) (h : impl_greatest.f l0 = some r) :
 Calls Try.prog 119 #[.pointer A0] w fun e w' => e = .returned (.int .i64 r) ∧ Drawn0 w w' := by
 have q := n2_ hr0 hc0
 clear hr0 hc0
 obtain ⟨HR0, HC0⟩ := q
 unfold impl_greatest.f at h
 have H := h
 clear h
 by_cases c2 : 0 ≤ ((rd_T36 l0 0).f0)
 ·rw [if_pos c2] at H
  have c2b0 := eq_true c2
  have c2b1 : decide (0 ≤ ((rd_T36 l0 0).f0)) = true := decide_eq_true c2
  clear c2
  obtain ⟨ji3, hji3⟩ : ∃ j_ : Int, (shl .i64 1 ((rd_T36 l0 0).f0)) = j_ := ⟨_, rfl⟩
  replace H : (some (wrap64 ((ji3) - 1))) = some r := by first | (rw [hji3] at H; exact H) | (simp only [hji3] at H ⊢; exact H)
  have hji3_ : (IntKind.i64.wrap (1 * 2 ^ min ((rd_T36 l0 0).f0).toNat 64)) = ji3 := hji3
  have hji3z : ((rd_T36 l0 0).f0) ≤ 64 → (IntKind.i64.wrap (1 * 2 ^ ((rd_T36 l0 0).f0).toNat)) = ji3 := shl_small hji3
  have hji3u : (IntKind.i64.wrap (2 ^ min ((rd_T36 l0 0).f0).toNat 64)) = ji3 := by have h_ := hji3_; rw [Int.one_mul] at h_; exact h_
  have hji3v : ((rd_T36 l0 0).f0) ≤ 64 → (IntKind.i64.wrap (2 ^ ((rd_T36 l0 0).f0).toNat)) = ji3 := fun hle_ => by have h_ := hji3z hle_; rw [Int.one_mul] at h_; exact h_
  have hji3y : (wrap64 (1 * 2 ^ min ((rd_T36 l0 0).f0).toNat 64)) = ji3 := (i64_w _).symm.trans hji3_
  have hji3x : ((rd_T36 l0 0).f0) ≤ 64 → (wrap64 (1 * 2 ^ ((rd_T36 l0 0).f0).toNat)) = ji3 := fun h_ => (i64_w _).symm.trans (hji3z h_)
  obtain rfl := Option.some.inj H
  have p410 : 0 ≤ (0 : Int) := ψ21
  have q410 : 0 < (l0.length : Int) := ψ125
  obtain ⟨ad410, A410_1, c410_1, A410_2, c410_2, A410_4, c410_4, A410_5, c410_5, e410, hx410_0, hx410_1, hx410_2, hx410_3, hx410_4, hx410_5, hl410_1, hi410_1, hl410_2, hi410_2, hl410_4, hi410_4, hl410_5, hi410_5⟩ := at_T36 HR0.out 0 p410 q410
  cases e410
  have qi410 : (0 < l0.length) = True := eq_true ψ21
  (try rw [show ((0 : Int)).toNat = 0 from rfl] at hx410_0)
  (try rw [show 0 * 6 = 0 from rfl] at hx410_0)
  (try rw [Addr.add_zero'] at hx410_0)
  (try rw [show ((0 : Int)).toNat = 0 from rfl] at hx410_1)
  (try rw [show 0 * 6 = 0 from rfl] at hx410_1)
  (try rw [Addr.add_zero'] at hx410_1)
  (try rw [show ((0 : Int)).toNat = 0 from rfl] at hx410_2)
  (try rw [show 0 * 6 = 0 from rfl] at hx410_2)
  (try rw [Addr.add_zero'] at hx410_2)
  (try rw [show ((0 : Int)).toNat = 0 from rfl] at hx410_3)
  (try rw [show 0 * 6 = 0 from rfl] at hx410_3)
  (try rw [Addr.add_zero'] at hx410_3)
  (try rw [show ((0 : Int)).toNat = 0 from rfl] at hx410_4)
  (try rw [show 0 * 6 = 0 from rfl] at hx410_4)
  (try rw [Addr.add_zero'] at hx410_4)
  (try rw [show ((0 : Int)).toNat = 0 from rfl] at hx410_5)
  (try rw [show 0 * 6 = 0 from rfl] at hx410_5)
  (try rw [Addr.add_zero'] at hx410_5)
  have q := n8_ hi410_1 hl410_1 hi410_2 hl410_2 hi410_4 hl410_4 hi410_5 hl410_5
  clear hi410_1 hl410_1 hi410_2 hl410_2 hi410_4 hl410_4 hi410_5 hl410_5
  obtain ⟨HR410_1, HC410_1, HR410_2, HC410_2, HR410_4, HC410_4, HR410_5, HC410_5⟩ := q
  replace p410 := eq_true p410
  replace q410 := eq_true q410
  go_enter Try.func119, Try.ntmps119
  go_wp2
  go_ret
  exact ⟨by first | rfl | (simp; done) | (simp only [← hji3] <;> (first | rfl | simp)) | (simp [*]; done), ψ1⟩
 ·rw [if_neg c2] at H
  exact absurd H ψ22

/-! ### impl_inputRight: function 135 -/
mutual
def impl_inputRight.j0 : Nat → List (S36) → Bool → Option (Bool)
 | 0, _, _ => none
 | k + 1, x0, x21 => if x21 = true then (some false) else (impl_inputRight.l0 k x0 0 ((rd_T36 x0 0).f1) (((rd_T36 x0 0).f1).length : Int) 0)
def impl_inputRight.l0 : Nat → List (S36) → Int → List (S106) → Int → Int → Option (Bool)
 | 0, _, _, _, _, _ => none
 | k + 1, x0, x3, x25, x26, x27 => if x27 < x26 then (if 0 ≤ x27 then (if x27 < (x25.length : Int) then (if ((rd_T106 x25 x27).f0) < 0 then (impl_inputRight.j2 k x0 x3 x25 x26 x27 true ((rd_T106 x25 x27).f0) ((rd_T106 x25 x27).f1)) else ((impl_greatest.f x0).bind fun t418 => (if ((rd_T106 x25 x27).f0) > t418 then (impl_inputRight.j2 k x0 x3 x25 x26 x27 true ((rd_T106 x25 x27).f0) ((rd_T106 x25 x27).f1)) else (impl_inputRight.j2 k x0 x3 x25 x26 x27 (((rd_T106 x25 x27).f1) != 0) ((rd_T106 x25 x27).f0) ((rd_T106 x25 x27).f1))))) else (none)) else (none)) else (impl_inputRight.l1 k x0 x3 ((rd_T36 x0 0).f2) (((rd_T36 x0 0).f2).length : Int) 0)
def impl_inputRight.j2 : Nat → List (S36) → Int → List (S106) → Int → Int → Bool → Int → Int → Option (Bool)
 | 0, _, _, _, _, _, _, _, _ => none
 | k + 1, x0, x3, x25, x26, x27, x45, x416000, x416001 => if x45 = true then (some false) else ((impl_bitsOf.f k x416000).bind fun t421 => (impl_inputRight.l0 k x0 (wrap64 (x3 + t421)) x25 x26 (wrap64 (x27 + 1))))
def impl_inputRight.l1 : Nat → List (S36) → Int → List (S106) → Int → Int → Option (Bool)
 | 0, _, _, _, _, _ => none
 | k + 1, x0, x3, x55, x56, x57 => if x57 < x56 then (if 0 ≤ x57 then (if x57 < (x55.length : Int) then (if ((rd_T106 x55 x57).f0) < 0 then (impl_inputRight.j4 k x0 x3 x55 x56 x57 true ((rd_T106 x55 x57).f0) ((rd_T106 x55 x57).f1)) else ((impl_greatest.f x0).bind fun t427 => (if ((rd_T106 x55 x57).f0) > t427 then (impl_inputRight.j4 k x0 x3 x55 x56 x57 true ((rd_T106 x55 x57).f0) ((rd_T106 x55 x57).f1)) else (if ((rd_T106 x55 x57).f1) < 0 then (impl_inputRight.j4 k x0 x3 x55 x56 x57 true ((rd_T106 x55 x57).f0) ((rd_T106 x55 x57).f1)) else (impl_inputRight.j4 k x0 x3 x55 x56 x57 (decide (((rd_T106 x55 x57).f1) > 99)) ((rd_T106 x55 x57).f0) ((rd_T106 x55 x57).f1)))))) else (none)) else (none)) else (some (decide (x3 ≤ 10)))
def impl_inputRight.j4 : Nat → List (S36) → Int → List (S106) → Int → Int → Bool → Int → Int → Option (Bool)
 | 0, _, _, _, _, _, _, _, _ => none
 | k + 1, x0, x3, x55, x56, x57, x80, x425000, x425001 => if x80 = true then (some false) else ((impl_bitsOf.f k x425000).bind fun t431 => (impl_inputRight.l1 k x0 (wrap64 (x3 + t431)) x55 x56 (wrap64 (x57 + 1))))
end
def impl_inputRight.f (k : Nat) (l0 : List (S36)) : Option (Bool) := if (((rd_T36 l0 0).f1).length : Int) > 3 then (impl_inputRight.j0 k l0 true) else (impl_inputRight.j0 k l0 (decide ((((rd_T36 l0 0).f2).length : Int) > 3)))
theorem τ35 {P : Prop} (h : P := by
 have H' := Aside0.mk H
 clear H
 have p411 : 0 ≤ (0 : Int) := ψ21
 have q411 : 0 < (l0.length : Int) := ψ125
 obtain ⟨ad411, A411_1, c411_1, A411_2, c411_2, A411_4, c411_4, A411_5, c411_5, e411, hx411_0, hx411_1, hx411_2, hx411_3, hx411_4, hx411_5, hl411_1, hi411_1, hl411_2, hi411_2, hl411_4, hi411_4, hl411_5, hi411_5⟩ := at_T36 HR0.out 0 p411 q411
 cases e411
 have qi411 : (0 < l0.length) = True := eq_true ψ21
 (try rw [show ((0 : Int)).toNat = 0 from rfl] at hx411_0)
 (try rw [show 0 * 6 = 0 from rfl] at hx411_0)
 (try rw [Addr.add_zero'] at hx411_0)
 (try rw [show ((0 : Int)).toNat = 0 from rfl] at hx411_1)
 (try rw [show 0 * 6 = 0 from rfl] at hx411_1)
 (try rw [Addr.add_zero'] at hx411_1)
 (try rw [show ((0 : Int)).toNat = 0 from rfl] at hx411_2)
 (try rw [show 0 * 6 = 0 from rfl] at hx411_2)
 (try rw [Addr.add_zero'] at hx411_2)
 (try rw [show ((0 : Int)).toNat = 0 from rfl] at hx411_3)
 (try rw [show 0 * 6 = 0 from rfl] at hx411_3)
 (try rw [Addr.add_zero'] at hx411_3)
 (try rw [show ((0 : Int)).toNat = 0 from rfl] at hx411_4)
 (try rw [show 0 * 6 = 0 from rfl] at hx411_4)
 (try rw [Addr.add_zero'] at hx411_4)
 (try rw [show ((0 : Int)).toNat = 0 from rfl] at hx411_5)
 (try rw [show 0 * 6 = 0 from rfl] at hx411_5)
 (try rw [Addr.add_zero'] at hx411_5)
 replace hx411_0 := cB HB hx411_0
 replace hx411_1 := cB HB hx411_1
 replace hx411_2 := cB HB hx411_2
 replace hx411_3 := cB HB hx411_3
 replace hx411_4 := cB HB hx411_4
 replace hx411_5 := cB HB hx411_5
 have q := n8_ hi411_1 hl411_1 hi411_2 hl411_2 hi411_4 hl411_4 hi411_5 hl411_5
 clear hi411_1 hl411_1 hi411_2 hl411_2 hi411_4 hl411_4 hi411_5 hl411_5
 obtain ⟨HR411_1, HC411_1, HR411_2, HC411_2, HR411_4, HC411_4, HR411_5, HC411_5⟩ := q
 replace p411 := eq_true p411
 replace q411 := eq_true q411
 try (have p412 : 0 ≤ (0 : Int) := ψ21; have q412 : 0 < (l0.length : Int) := ψ125; obtain ⟨ad412, A412_1, c412_1, A412_2, c412_2, A412_4, c412_4, A412_5, c412_5, e412, hx412_0, hx412_1, hx412_2, hx412_3, hx412_4, hx412_5, hl412_1, hi412_1, hl412_2, hi412_2, hl412_4, hi412_4, hl412_5, hi412_5⟩ := at_T36 HR0.out 0 p412 q412; obtain rfl : ad411 = ad412 := (by injection e412); have qi412 : (0 < l0.length) = True := eq_true ψ21; (try rw [show ((0 : Int)).toNat = 0 from rfl] at hx412_0); (try rw [show 0 * 6 = 0 from rfl] at hx412_0); (try rw [Addr.add_zero'] at hx412_0); (try rw [show ((0 : Int)).toNat = 0 from rfl] at hx412_1); (try rw [show 0 * 6 = 0 from rfl] at hx412_1); (try rw [Addr.add_zero'] at hx412_1); (try rw [show ((0 : Int)).toNat = 0 from rfl] at hx412_2); (try rw [show 0 * 6 = 0 from rfl] at hx412_2); (try rw [Addr.add_zero'] at hx412_2); (try rw [show ((0 : Int)).toNat = 0 from rfl] at hx412_3); (try rw [show 0 * 6 = 0 from rfl] at hx412_3); (try rw [Addr.add_zero'] at hx412_3); (try rw [show ((0 : Int)).toNat = 0 from rfl] at hx412_4); (try rw [show 0 * 6 = 0 from rfl] at hx412_4); (try rw [Addr.add_zero'] at hx412_4); (try rw [show ((0 : Int)).toNat = 0 from rfl] at hx412_5); (try rw [show 0 * 6 = 0 from rfl] at hx412_5); (try rw [Addr.add_zero'] at hx412_5); replace hx412_0 := cB HB hx412_0; replace hx412_1 := cB HB hx412_1; replace hx412_2 := cB HB hx412_2; replace hx412_3 := cB HB hx412_3; replace hx412_4 := cB HB hx412_4; replace hx412_5 := cB HB hx412_5; have q := n8_ hi412_1 hl412_1 hi412_2 hl412_2 hi412_4 hl412_4 hi412_5 hl412_5; clear hi412_1 hl412_1 hi412_2 hl412_2 hi412_4 hl412_4 hi412_5 hl412_5; obtain ⟨HR412_1, HC412_1, HR412_2, HC412_2, HR412_4, HC412_4, HR412_5, HC412_5⟩ := q; replace p412 := eq_true p412; replace q412 := eq_true q412)
 try (have ea_ := Option.some.inj (hx411_1.symm.trans hx412_1))
 try (injection ea_ with ea_ en_ ec_)
 try (subst ea_)
 try (subst ec_)
 try (clear en_)
 try (have ea_ := Option.some.inj (hx411_2.symm.trans hx412_2))
 try (have ea_ := Option.some.inj (hx411_4.symm.trans hx412_4))
 try (have ea_ := Option.some.inj (hx411_5.symm.trans hx412_5))
 go_wp2_with (first | ((with_reducible refine qR_ ?_)) | ((with_reducible refine wpQuiet_step (fun K hK => ?_)); go_simp; first | (refine hK _ ?_; clear hK K) | (apply Exists.intro; refine ⟨fun _ => ?_, hK _ ?_⟩)) | ((with_reducible refine wpQuiet_nil ?_); rintro _ ⟨nq, rfl⟩))
 first | (go_meet; (case rel => exact ⟨_, (true), ψ7, H', ⟨ψ19⟩, ⟨ψ25⟩⟩)) | (go_meet; (case rel => exact ⟨_, (decide ((((rd_T36 l0 0).f2).length : Int) > 3)), ψ7, H', ⟨ψ19⟩, ⟨ψ25⟩⟩))) : P := h
theorem τ36 {P : Prop} (h : P := by
 have H' := Aside0.mk H
 clear H
 obtain ⟨hczB10_0, hczB10_1, hfzB10_0, hfzB10_1⟩ := cells2 BK10.out
 go_wp2_with (first | (go_at_call 119; (with_reducible refine (impl_greatest.calls _ c0 l0 _ _ ?_ ?_ ?_ A13.out).mono ?_); exact hn0; exact Kd.C_below HR0.out ψ25; exact HC0.out; rintro e w' ⟨rfl, ⟨nd, rfl⟩⟩; (try first | exact ⟨rfl, _, World.drewN_drewN _ _ _⟩ | exact ⟨rfl, _, Eq.trans (World.drewN_drewN _ _ _) (congrArg (World.drewN _) (Nat.add_assoc _ _ _))⟩)) | ((with_reducible refine qR_ ?_)) | ((with_reducible refine wpQuiet_step (fun K hK => ?_)); go_simp; first | (refine hK _ ?_; clear hK K) | (apply Exists.intro; refine ⟨fun _ => ?_, hK _ ?_⟩)) | ((with_reducible refine wpQuiet_nil ?_); rintro _ ⟨nq, rfl⟩))
 first | (go_meet; (case rel => exact ⟨_, (true), ψ7, H', ⟨ψ46⟩, ⟨ψ47⟩, ⟨ψ25⟩⟩)) | (go_meet; (case rel => exact ⟨_, ((((rd_T106 ((rd_T36 l0 0).f1) x27_2).f1) != 0)), ψ7, H', ⟨ψ46⟩, ⟨ψ47⟩, ⟨ψ25⟩⟩))) : P := h
theorem τ37 {P : Prop} (h : P := by
 first | obtain rfl := Option.some.inj H | (have H' := Aside0.mk H; clear H)
 try (obtain ⟨hczB10_0, hczB10_1, hfzB10_0, hfzB10_1⟩ := cells2 BK10.out)
 go_wp2_with (first | (go_at_call 117; (with_reducible refine (impl_bitsOf.calls kj7 ((rd_T106 ((rd_T36 l0 0).f1) x27_2).f0) _ _ A18.out).mono ?_); rintro e w' ⟨rfl, ⟨nd, rfl⟩⟩; (try first | exact ⟨rfl, _, World.drewN_drewN _ _ _⟩ | exact ⟨rfl, _, Eq.trans (World.drewN_drewN _ _ _) (congrArg (World.drewN _) (Nat.add_assoc _ _ _))⟩)) | ((with_reducible refine qR_ ?_)) | ((with_reducible refine wpQuiet_step (fun K hK => ?_)); go_simp; first | (refine hK _ ?_; clear hK K) | (apply Exists.intro; refine ⟨fun _ => ?_, hK _ ?_⟩)) | ((with_reducible refine wpQuiet_nil ?_); rintro _ ⟨nq, rfl⟩))
 first | (go_ret; exact ⟨ψ4, ψ25⟩) | (go_roundg kj7; (case measure => have := HJ1.out; have := HK2.out; have := HJ7.out; omega); (case rel => exact ⟨(wrap64 (x3_2 + t421)), (wrap64 (x27_2 + 1)), ψ7, ψ7, H', ⟨by have := HJ1.out; have := HK2.out; have := HJ7.out; omega⟩, ⟨ψ25⟩⟩))) : P := h
theorem τ38 {P : Prop} (h : P := by
 have H' := Aside0.mk H
 clear H
 obtain ⟨hczB11_0, hczB11_1, hfzB11_0, hfzB11_1⟩ := cells2 BK11.out
 go_wp2_with (first | (go_at_call 119; (with_reducible refine (impl_greatest.calls _ c0 l0 _ _ ?_ ?_ ?_ A28.out).mono ?_); exact hn0; exact Kd.C_below HR0.out ψ25; exact HC0.out; rintro e w' ⟨rfl, ⟨nd, rfl⟩⟩; (try first | exact ⟨rfl, _, World.drewN_drewN _ _ _⟩ | exact ⟨rfl, _, Eq.trans (World.drewN_drewN _ _ _) (congrArg (World.drewN _) (Nat.add_assoc _ _ _))⟩)) | ((with_reducible refine qR_ ?_)) | ((with_reducible refine wpQuiet_step (fun K hK => ?_)); go_simp; first | (refine hK _ ?_; clear hK K) | (apply Exists.intro; refine ⟨fun _ => ?_, hK _ ?_⟩)) | ((with_reducible refine wpQuiet_nil ?_); rintro _ ⟨nq, rfl⟩))
 first | (go_meet; (case rel => exact ⟨_, (true), ψ7, H', ⟨ψ48⟩, ⟨ψ49⟩, ⟨ψ25⟩⟩)) | (go_meet; (case rel => exact ⟨_, (decide (((rd_T106 ((rd_T36 l0 0).f2) x57_3).f1) > 99)), ψ7, H', ⟨ψ48⟩, ⟨ψ49⟩, ⟨ψ25⟩⟩))) : P := h
theorem τ39 {P : Prop} (h : P := by
 first | obtain rfl := Option.some.inj H | (have H' := Aside0.mk H; clear H)
 try (obtain ⟨hczB11_0, hczB11_1, hfzB11_0, hfzB11_1⟩ := cells2 BK11.out)
 go_wp2_with (first | (go_at_call 117; (with_reducible refine (impl_bitsOf.calls kj22 ((rd_T106 ((rd_T36 l0 0).f2) x57_3).f0) _ _ A35.out).mono ?_); rintro e w' ⟨rfl, ⟨nd, rfl⟩⟩; (try first | exact ⟨rfl, _, World.drewN_drewN _ _ _⟩ | exact ⟨rfl, _, Eq.trans (World.drewN_drewN _ _ _) (congrArg (World.drewN _) (Nat.add_assoc _ _ _))⟩)) | ((with_reducible refine qR_ ?_)) | ((with_reducible refine wpQuiet_step (fun K hK => ?_)); go_simp; first | (refine hK _ ?_; clear hK K) | (apply Exists.intro; refine ⟨fun _ => ?_, hK _ ?_⟩)) | ((with_reducible refine wpQuiet_nil ?_); rintro _ ⟨nq, rfl⟩))
 first | (go_ret; exact ⟨ψ4, ψ25⟩) | (go_roundg kj22; (case measure => have := HJ1.out; have := HK2.out; have := HK3.out; have := HJ22.out; omega); (case rel => exact ⟨(wrap64 (x3_3 + t431)), (wrap64 (x57_3 + 1)), ψ7, ψ7, H', ⟨by have := HJ1.out; have := HK2.out; have := HK3.out; have := HJ22.out; omega⟩, ⟨ψ25⟩⟩))) : P := h
theorem impl_inputRight.calls (k : Nat) (A0 : Option Addr) (c0 : Nat) (l0 : List (S36)) (r : Bool) (w : World) (hn0 : l0.length = 1) (hr0 : Kd.C k36 w A0 l0.length l0) (hc0 : l0.length ≤ c0) (h : impl_inputRight.f k l0 = some r) :
 Calls Try.prog 135 #[.pointer A0] w fun e w' => e = .returned (.bool r) ∧ Below w.heap.size w w' := by
 have hu106 := Try.underlying106
 have q := n2_ hr0 hc0
 clear hr0 hc0
 obtain ⟨HR0, HC0⟩ := q
 have HB := Aside0.mk (Below.refl w.heap.size w)
 unfold impl_inputRight.f at h
 have H := h
 clear h
 have HC2 := Aside0.mk H
 clear H
 go_enter Try.func135, Try.ntmps135
 go_upto_region 1 with (fail)
 repeat (go_quiet (fail); go_upto_region 1 with (fail))
 go_cut [21] (fun v21 wc => ∃ (kq : Nat) (x21_1 : Bool), v21 = .bool x21_1 ∧ Aside0 (impl_inputRight.j0 kq l0 x21_1 = some r) ∧ Aside0 (kq ≤ k) ∧ Aside0 (Below w.heap.size w wc))
 case first =>
  have H := HC2.out
  clear HC2
  by_cases c3 : (((rd_T36 l0 0).f1).length : Int) > 3
  ·rw [if_pos c3] at H
   have c3b0 : decide (3 < (((rd_T36 l0 0).f1).length : Int)) = true := decide_eq_true c3
   have c3b1 : decide (3 < ((rd_T36 l0 0).f1).length) = true := decide_eq_true ψ21
   clear c3
   (first | rw [c3b0] | rw [c3b1] | (simp only [i64_w, i32_w]; rw [c3b0]) | skip)
   exact τ35
  ·rw [if_neg c3] at H
   have c3b0 : decide (3 < (((rd_T36 l0 0).f1).length : Int)) = false := decide_eq_false c3
   have c3b1 : decide (3 < ((rd_T36 l0 0).f1).length) = false := decide_eq_false ψ21
   clear c3
   (first | rw [c3b0] | rw [c3b1] | (simp only [i64_w, i32_w]; rw [c3b0]) | skip)
   exact τ35
 case rest =>
  clear HC2
  try clear c3
  try clear c3b0
  try clear c3b1
  try clear hx411_0
  try clear hx411_1
  try clear hx411_2
  try clear hx411_3
  try clear hx411_4
  try clear hx411_5
  try clear hx412_0
  try clear hx412_1
  try clear hx412_2
  try clear hx412_3
  try clear hx412_4
  try clear hx412_5
  try clear p411
  try clear p412
  try clear q411
  try clear q412
  obtain ⟨kq, x21_1, rfl, HA, HJ1, HB⟩ := hcut
  cases kq with
  | zero => exact absurd HA.out (by simp [impl_inputRight.j0])
  | succ kj1 =>
   have H := HA.out
   clear HA
   simp only [impl_inputRight.j0] at H
   replace H := ifB H; rcases H with ⟨rfl, H⟩ | ⟨rfl, H⟩
   ·obtain rfl := Option.some.inj H
    go_wp2_with (first | ((with_reducible refine qR_ ?_)) | ((with_reducible refine wpQuiet_step (fun K hK => ?_)); go_simp; first | (refine hK _ ?_; clear hK K) | (apply Exists.intro; refine ⟨fun _ => ?_, hK _ ?_⟩)) | ((with_reducible refine wpQuiet_nil ?_); rintro _ ⟨nq, rfl⟩))
    go_ret
    exact ⟨ψ4, ψ25⟩
   ·have H' := Aside0.mk H
    clear H
    have p413 : 0 ≤ (0 : Int) := ψ21
    have q413 : 0 < (l0.length : Int) := ψ125
    obtain ⟨ad413, A413_1, c413_1, A413_2, c413_2, A413_4, c413_4, A413_5, c413_5, e413, hx413_0, hx413_1, hx413_2, hx413_3, hx413_4, hx413_5, hl413_1, hi413_1, hl413_2, hi413_2, hl413_4, hi413_4, hl413_5, hi413_5⟩ := at_T36 HR0.out 0 p413 q413
    cases e413
    have qi413 : (0 < l0.length) = True := eq_true ψ21
    (try rw [show ((0 : Int)).toNat = 0 from rfl] at hx413_0)
    (try rw [show 0 * 6 = 0 from rfl] at hx413_0)
    (try rw [Addr.add_zero'] at hx413_0)
    (try rw [show ((0 : Int)).toNat = 0 from rfl] at hx413_1)
    (try rw [show 0 * 6 = 0 from rfl] at hx413_1)
    (try rw [Addr.add_zero'] at hx413_1)
    (try rw [show ((0 : Int)).toNat = 0 from rfl] at hx413_2)
    (try rw [show 0 * 6 = 0 from rfl] at hx413_2)
    (try rw [Addr.add_zero'] at hx413_2)
    (try rw [show ((0 : Int)).toNat = 0 from rfl] at hx413_3)
    (try rw [show 0 * 6 = 0 from rfl] at hx413_3)
    (try rw [Addr.add_zero'] at hx413_3)
    (try rw [show ((0 : Int)).toNat = 0 from rfl] at hx413_4)
    (try rw [show 0 * 6 = 0 from rfl] at hx413_4)
    (try rw [Addr.add_zero'] at hx413_4)
    (try rw [show ((0 : Int)).toNat = 0 from rfl] at hx413_5)
    (try rw [show 0 * 6 = 0 from rfl] at hx413_5)
    (try rw [Addr.add_zero'] at hx413_5)
    replace hx413_0 := cB HB hx413_0
    replace hx413_1 := cB HB hx413_1
    replace hx413_2 := cB HB hx413_2
    replace hx413_3 := cB HB hx413_3
    replace hx413_4 := cB HB hx413_4
    replace hx413_5 := cB HB hx413_5
    have q := n8_ hi413_1 hl413_1 hi413_2 hl413_2 hi413_4 hl413_4 hi413_5 hl413_5
    clear hi413_1 hl413_1 hi413_2 hl413_2 hi413_4 hl413_4 hi413_5 hl413_5
    obtain ⟨HR413_1, HC413_1, HR413_2, HC413_2, HR413_4, HC413_4, HR413_5, HC413_5⟩ := q
    replace p413 := eq_true p413
    replace q413 := eq_true q413
    go_wp2_with (first | ((with_reducible refine qR_ ?_)) | ((with_reducible refine wpQuiet_step (fun K hK => ?_)); go_simp; first | (refine hK _ ?_; clear hK K) | (apply Exists.intro; refine ⟨fun _ => ?_, hK _ ?_⟩)) | ((with_reducible refine wpQuiet_nil ?_); rintro _ ⟨nq, rfl⟩))
    go_loopg [3, 27] kj1 (fun kq v3 v27 w' => ∃ (x3_2 : Int) (x27_2 : Int), v3 = .int .i64 x3_2 ∧ v27 = .int .i64 x27_2 ∧ Aside0 (impl_inputRight.l0 kq l0 x3_2 ((rd_T36 l0 0).f1) (((rd_T36 l0 0).f1).length : Int) x27_2 = some r) ∧ Aside0 (kq ≤ kj1) ∧ Aside0 (Below w.heap.size w w'))
    case atStart => exact ⟨(0), (0), ψ7, ψ7, H', ⟨Nat.le_refl _⟩, ⟨ψ25⟩⟩
    case round =>
     clear H'
     try clear c3
     try clear c3b0
     try clear c3b1
     try clear c4
     try clear hx411_0
     try clear hx411_1
     try clear hx411_2
     try clear hx411_3
     try clear hx411_4
     try clear hx411_5
     try clear hx412_0
     try clear hx412_1
     try clear hx412_2
     try clear hx412_3
     try clear hx412_4
     try clear hx412_5
     try clear hx413_0
     try clear hx413_1
     try clear hx413_2
     try clear hx413_3
     try clear hx413_4
     try clear hx413_5
     try clear p411
     try clear p412
     try clear p413
     try clear q411
     try clear q412
     try clear q413
     obtain ⟨x3_2, x27_2, rfl, rfl, HA, HK2, HB⟩ := hrel
     cases gk with
     | zero => exact absurd HA.out (by simp [impl_inputRight.l0])
     | succ k2 =>
      have H := HA.out
      clear HA
      simp only [impl_inputRight.l0] at H
      replace H := ifD H; rcases H with ⟨c5b0, H⟩ | ⟨c5b0, H⟩
      ·replace H := ifN H; obtain ⟨c6b0, H⟩ := H
       replace H := ifN H; obtain ⟨c7b0, H⟩ := H
       have HC8 := Aside0.mk H
       clear H
       have p414 : 0 ≤ (x27_2 : Int) := of_decide_eq_true ψ5
       have q414 : x27_2 < (((rd_T36 l0 0).f1).length : Int) := of_decide_eq_true ψ5
       obtain ⟨ad414, e414, hx414_0, hx414_1⟩ := at_T106 HR413_1.out x27_2 p414 q414
       cases e414
       replace hx414_0 := cB HB hx414_0
       replace hx414_1 := cB HB hx414_1
       replace p414 := eq_true p414
       replace q414 := eq_true q414
       go_upto_region 7 with (first | ((with_reducible refine gate_dst (N := 5) rfl ?_); (try (refine gate_guard ψ14 ?_; dsimp only)); refine bE 5 #[.int .i64 0, .int .i64 0] 106 ?_; intro gb10 hg w9 hbox hb; have q := n4_ (below_step ψ25 hb) (hbox) ((ψ115 : w.heap.size ≤ gb10)) ((ψ115 : w.heap.size ≤ gb10)); clear HB; obtain ⟨HB, BK10, GW10, GE10⟩ := q; clear hb hbox hg; obtain ⟨y10_0, y10_1, u10_0, u10_1⟩ := cells2 BK10.out))
       repeat (go_quiet (first | ((with_reducible refine gate_dst (N := 5) rfl ?_); (try (refine gate_guard ψ14 ?_; dsimp only)); refine bE 5 #[.int .i64 0, .int .i64 0] 106 ?_; intro gb10 hg w9 hbox hb; have q := n4_ (below_step ψ25 hb) (hbox) ((ψ115 : w.heap.size ≤ gb10)) ((ψ115 : w.heap.size ≤ gb10)); clear HB; obtain ⟨HB, BK10, GW10, GE10⟩ := q; clear hb hbox hg; obtain ⟨y10_0, y10_1, u10_0, u10_1⟩ := cells2 BK10.out)); go_upto_region 7 with (first | ((with_reducible refine gate_dst (N := 5) rfl ?_); (try (refine gate_guard ψ14 ?_; dsimp only)); refine bE 5 #[.int .i64 0, .int .i64 0] 106 ?_; intro gb10 hg w9 hbox hb; have q := n4_ (below_step ψ25 hb) (hbox) ((ψ115 : w.heap.size ≤ gb10)) ((ψ115 : w.heap.size ≤ gb10)); clear HB; obtain ⟨HB, BK10, GW10, GE10⟩ := q; clear hb hbox hg; obtain ⟨y10_0, y10_1, u10_0, u10_1⟩ := cells2 BK10.out)))
       (try simp only [Act.put, List.setIfInBounds_toArray, List.set_cons_zero, List.set_cons_succ])
       go_cut [45] (fun v45 wc => ∃ (kq : Nat) (x45_7 : Bool), v45 = .bool x45_7 ∧ Aside0 (impl_inputRight.j2 kq l0 x3_2 ((rd_T36 l0 0).f1) (((rd_T36 l0 0).f1).length : Int) x27_2 x45_7 ((rd_T106 ((rd_T36 l0 0).f1) x27_2).f0) ((rd_T106 ((rd_T36 l0 0).f1) x27_2).f1) = some r) ∧ Aside0 (kq ≤ k2) ∧ Aside0 (wc.heap[gb10]? = some (.cells #[.int .i64 ((rd_T106 ((rd_T36 l0 0).f1) x27_2).f0), .int .i64 ((rd_T106 ((rd_T36 l0 0).f1) x27_2).f1)] 106 (0, 0))) ∧ Aside0 (Below w.heap.size w wc))
       case first =>
        have H := HC8.out
        clear HC8
        replace H := ifD H; rcases H with ⟨c11b0, H⟩ | ⟨c11b0, H⟩
        ·(first | rw [c11b0] | (simp only [i64_w, i32_w]; rw [c11b0]) | skip)
         exact τ36
        ·(first | rw [c11b0] | (simp only [i64_w, i32_w]; rw [c11b0]) | skip)
         replace H := bS H; obtain ⟨t418, A13, H⟩ := H
         replace H := ifG H; rcases H with ⟨c14b0, H⟩ | ⟨c14b0, H⟩
         ·exact τ36
         ·exact τ36
       case rest =>
        clear HC8
        try clear c3
        try clear c3b0
        try clear c3b1
        try clear c4
        try clear c5
        try clear c5b0
        try clear c6
        try clear c6b0
        try clear c7
        try clear c7b0
        try clear c11
        try clear c11b0
        try clear c14
        try clear c14b0
        try clear y10_0 y10_1
        try clear y12_0 y12_1
        try clear y15_0 y15_1
        try clear y16_0 y16_1
        try clear u10_0 u10_1
        try clear u12_0 u12_1
        try clear u15_0 u15_1
        try clear u16_0 u16_1
        try clear hx411_0
        try clear hx411_1
        try clear hx411_2
        try clear hx411_3
        try clear hx411_4
        try clear hx411_5
        try clear hx412_0
        try clear hx412_1
        try clear hx412_2
        try clear hx412_3
        try clear hx412_4
        try clear hx412_5
        try clear hx413_0
        try clear hx413_1
        try clear hx413_2
        try clear hx413_3
        try clear hx413_4
        try clear hx413_5
        try clear hx414_0
        try clear hx414_1
        try clear p411
        try clear p412
        try clear p413
        try clear p414
        try clear q411
        try clear q412
        try clear q413
        try clear q414
        obtain ⟨kq, x45_7, rfl, HA, HJ7, BK10, HB⟩ := hcut
        cases kq with
        | zero => exact absurd HA.out (by simp [impl_inputRight.j2])
        | succ kj7 =>
         have H := HA.out
         clear HA
         simp only [impl_inputRight.j2] at H
         replace H := ifB H; rcases H with ⟨rfl, H⟩ | ⟨rfl, H⟩
         ·exact τ37
         ·replace H := bS H; obtain ⟨t421, A18, H⟩ := H
          exact τ37
      ·have H' := Aside0.mk H
       clear H
       have p422 : 0 ≤ (0 : Int) := ψ21
       have q422 : 0 < (l0.length : Int) := ψ125
       obtain ⟨ad422, A422_1, c422_1, A422_2, c422_2, A422_4, c422_4, A422_5, c422_5, e422, hx422_0, hx422_1, hx422_2, hx422_3, hx422_4, hx422_5, hl422_1, hi422_1, hl422_2, hi422_2, hl422_4, hi422_4, hl422_5, hi422_5⟩ := at_T36 HR0.out 0 p422 q422
       obtain rfl : ad413 = ad422 := (by injection e422)
       have qi422 : (0 < l0.length) = True := eq_true ψ21
       (try rw [show ((0 : Int)).toNat = 0 from rfl] at hx422_0)
       (try rw [show 0 * 6 = 0 from rfl] at hx422_0)
       (try rw [Addr.add_zero'] at hx422_0)
       (try rw [show ((0 : Int)).toNat = 0 from rfl] at hx422_1)
       (try rw [show 0 * 6 = 0 from rfl] at hx422_1)
       (try rw [Addr.add_zero'] at hx422_1)
       (try rw [show ((0 : Int)).toNat = 0 from rfl] at hx422_2)
       (try rw [show 0 * 6 = 0 from rfl] at hx422_2)
       (try rw [Addr.add_zero'] at hx422_2)
       (try rw [show ((0 : Int)).toNat = 0 from rfl] at hx422_3)
       (try rw [show 0 * 6 = 0 from rfl] at hx422_3)
       (try rw [Addr.add_zero'] at hx422_3)
       (try rw [show ((0 : Int)).toNat = 0 from rfl] at hx422_4)
       (try rw [show 0 * 6 = 0 from rfl] at hx422_4)
       (try rw [Addr.add_zero'] at hx422_4)
       (try rw [show ((0 : Int)).toNat = 0 from rfl] at hx422_5)
       (try rw [show 0 * 6 = 0 from rfl] at hx422_5)
       (try rw [Addr.add_zero'] at hx422_5)
       replace hx422_0 := cB HB hx422_0
       replace hx422_1 := cB HB hx422_1
       replace hx422_2 := cB HB hx422_2
       replace hx422_3 := cB HB hx422_3
       replace hx422_4 := cB HB hx422_4
       replace hx422_5 := cB HB hx422_5
       have q := n8_ hi422_1 hl422_1 hi422_2 hl422_2 hi422_4 hl422_4 hi422_5 hl422_5
       clear hi422_1 hl422_1 hi422_2 hl422_2 hi422_4 hl422_4 hi422_5 hl422_5
       obtain ⟨HR422_1, HC422_1, HR422_2, HC422_2, HR422_4, HC422_4, HR422_5, HC422_5⟩ := q
       replace p422 := eq_true p422
       replace q422 := eq_true q422
       go_wp2_with (first | ((with_reducible refine qR_ ?_)) | ((with_reducible refine wpQuiet_step (fun K hK => ?_)); go_simp; first | (refine hK _ ?_; clear hK K) | (apply Exists.intro; refine ⟨fun _ => ?_, hK _ ?_⟩)) | ((with_reducible refine wpQuiet_nil ?_); rintro _ ⟨nq, rfl⟩))
       go_loopg [3, 57] k2 (fun kq v3 v57 w' => ∃ (x3_3 : Int) (x57_3 : Int), v3 = .int .i64 x3_3 ∧ v57 = .int .i64 x57_3 ∧ Aside0 (impl_inputRight.l1 kq l0 x3_3 ((rd_T36 l0 0).f2) (((rd_T36 l0 0).f2).length : Int) x57_3 = some r) ∧ Aside0 (kq ≤ k2) ∧ Aside0 (Below w.heap.size w w'))
       case atStart => exact ⟨(x3_2), (0), ψ7, ψ7, H', ⟨Nat.le_refl _⟩, ⟨ψ25⟩⟩
       case round =>
        clear H'
        try clear c3
        try clear c3b0
        try clear c3b1
        try clear c4
        try clear c5
        try clear c5b0
        try clear c6
        try clear c6b0
        try clear c7
        try clear c7b0
        try clear c11
        try clear c11b0
        try clear c14
        try clear c14b0
        try clear c17
        try clear y10_0 y10_1
        try clear y12_0 y12_1
        try clear y15_0 y15_1
        try clear y16_0 y16_1
        try clear y19_0 y19_1
        try clear u10_0 u10_1
        try clear u12_0 u12_1
        try clear u15_0 u15_1
        try clear u16_0 u16_1
        try clear u19_0 u19_1
        try clear hx411_0
        try clear hx411_1
        try clear hx411_2
        try clear hx411_3
        try clear hx411_4
        try clear hx411_5
        try clear hx412_0
        try clear hx412_1
        try clear hx412_2
        try clear hx412_3
        try clear hx412_4
        try clear hx412_5
        try clear hx413_0
        try clear hx413_1
        try clear hx413_2
        try clear hx413_3
        try clear hx413_4
        try clear hx413_5
        try clear hx414_0
        try clear hx414_1
        try clear hx422_0
        try clear hx422_1
        try clear hx422_2
        try clear hx422_3
        try clear hx422_4
        try clear hx422_5
        try clear p411
        try clear p412
        try clear p413
        try clear p414
        try clear p422
        try clear q411
        try clear q412
        try clear q413
        try clear q414
        try clear q422
        obtain ⟨x3_3, x57_3, rfl, rfl, HA, HK3, HB⟩ := hrel
        cases gk with
        | zero => exact absurd HA.out (by simp [impl_inputRight.l1])
        | succ k3 =>
         have H := HA.out
         clear HA
         simp only [impl_inputRight.l1] at H
         replace H := ifD H; rcases H with ⟨c20b0, H⟩ | ⟨c20b0, H⟩
         ·replace H := ifN H; obtain ⟨c21b0, H⟩ := H
          replace H := ifN H; obtain ⟨c22b0, H⟩ := H
          have HC23 := Aside0.mk H
          clear H
          have p423 : 0 ≤ (x57_3 : Int) := of_decide_eq_true ψ5
          have q423 : x57_3 < (((rd_T36 l0 0).f2).length : Int) := of_decide_eq_true ψ5
          obtain ⟨ad423, e423, hx423_0, hx423_1⟩ := at_T106 HR422_2.out x57_3 p423 q423
          cases e423
          replace hx423_0 := cB HB hx423_0
          replace hx423_1 := cB HB hx423_1
          replace p423 := eq_true p423
          replace q423 := eq_true q423
          go_upto_region 14 with (first | ((with_reducible refine gate_dst (N := 7) rfl ?_); (try (refine gate_guard ψ14 ?_; dsimp only)); refine bE 7 #[.int .i64 0, .int .i64 0] 106 ?_; intro gb11 hg w24 hbox hb; have q := n4_ (below_step ψ25 hb) (hbox) ((ψ115 : w.heap.size ≤ gb11)) ((ψ115 : w.heap.size ≤ gb11)); clear HB; obtain ⟨HB, BK11, GW11, GE11⟩ := q; clear hb hbox hg; obtain ⟨y25_0, y25_1, u25_0, u25_1⟩ := cells2 BK11.out))
          repeat (go_quiet (first | ((with_reducible refine gate_dst (N := 7) rfl ?_); (try (refine gate_guard ψ14 ?_; dsimp only)); refine bE 7 #[.int .i64 0, .int .i64 0] 106 ?_; intro gb11 hg w24 hbox hb; have q := n4_ (below_step ψ25 hb) (hbox) ((ψ115 : w.heap.size ≤ gb11)) ((ψ115 : w.heap.size ≤ gb11)); clear HB; obtain ⟨HB, BK11, GW11, GE11⟩ := q; clear hb hbox hg; obtain ⟨y25_0, y25_1, u25_0, u25_1⟩ := cells2 BK11.out)); go_upto_region 14 with (first | ((with_reducible refine gate_dst (N := 7) rfl ?_); (try (refine gate_guard ψ14 ?_; dsimp only)); refine bE 7 #[.int .i64 0, .int .i64 0] 106 ?_; intro gb11 hg w24 hbox hb; have q := n4_ (below_step ψ25 hb) (hbox) ((ψ115 : w.heap.size ≤ gb11)) ((ψ115 : w.heap.size ≤ gb11)); clear HB; obtain ⟨HB, BK11, GW11, GE11⟩ := q; clear hb hbox hg; obtain ⟨y25_0, y25_1, u25_0, u25_1⟩ := cells2 BK11.out)))
          (try simp only [Act.put, List.setIfInBounds_toArray, List.set_cons_zero, List.set_cons_succ])
          go_cut [80] (fun v80 wc => ∃ (kq : Nat) (x80_22 : Bool), v80 = .bool x80_22 ∧ Aside0 (impl_inputRight.j4 kq l0 x3_3 ((rd_T36 l0 0).f2) (((rd_T36 l0 0).f2).length : Int) x57_3 x80_22 ((rd_T106 ((rd_T36 l0 0).f2) x57_3).f0) ((rd_T106 ((rd_T36 l0 0).f2) x57_3).f1) = some r) ∧ Aside0 (kq ≤ k3) ∧ Aside0 (wc.heap[gb11]? = some (.cells #[.int .i64 ((rd_T106 ((rd_T36 l0 0).f2) x57_3).f0), .int .i64 ((rd_T106 ((rd_T36 l0 0).f2) x57_3).f1)] 106 (0, 0))) ∧ Aside0 (Below w.heap.size w wc))
          case first =>
           have H := HC23.out
           clear HC23
           replace H := ifD H; rcases H with ⟨c26b0, H⟩ | ⟨c26b0, H⟩
           ·(first | rw [c26b0] | (simp only [i64_w, i32_w]; rw [c26b0]) | skip)
            exact τ38
           ·(first | rw [c26b0] | (simp only [i64_w, i32_w]; rw [c26b0]) | skip)
            replace H := bS H; obtain ⟨t427, A28, H⟩ := H
            replace H := ifG H; rcases H with ⟨c29b0, H⟩ | ⟨c29b0, H⟩
            ·exact τ38
            ·replace H := ifD H; rcases H with ⟨c31b0, H⟩ | ⟨c31b0, H⟩
             ·exact τ38
             ·exact τ38
          case rest =>
           clear HC23
           try clear c3
           try clear c3b0
           try clear c3b1
           try clear c4
           try clear c5
           try clear c5b0
           try clear c6
           try clear c6b0
           try clear c7
           try clear c7b0
           try clear c11
           try clear c11b0
           try clear c14
           try clear c14b0
           try clear c17
           try clear c20
           try clear c20b0
           try clear c21
           try clear c21b0
           try clear c22
           try clear c22b0
           try clear c26
           try clear c26b0
           try clear c29
           try clear c29b0
           try clear c31
           try clear c31b0
           try clear y10_0 y10_1
           try clear y12_0 y12_1
           try clear y15_0 y15_1
           try clear y16_0 y16_1
           try clear y19_0 y19_1
           try clear y25_0 y25_1
           try clear y27_0 y27_1
           try clear y30_0 y30_1
           try clear y32_0 y32_1
           try clear y33_0 y33_1
           try clear u10_0 u10_1
           try clear u12_0 u12_1
           try clear u15_0 u15_1
           try clear u16_0 u16_1
           try clear u19_0 u19_1
           try clear u25_0 u25_1
           try clear u27_0 u27_1
           try clear u30_0 u30_1
           try clear u32_0 u32_1
           try clear u33_0 u33_1
           try clear hx411_0
           try clear hx411_1
           try clear hx411_2
           try clear hx411_3
           try clear hx411_4
           try clear hx411_5
           try clear hx412_0
           try clear hx412_1
           try clear hx412_2
           try clear hx412_3
           try clear hx412_4
           try clear hx412_5
           try clear hx413_0
           try clear hx413_1
           try clear hx413_2
           try clear hx413_3
           try clear hx413_4
           try clear hx413_5
           try clear hx414_0
           try clear hx414_1
           try clear hx422_0
           try clear hx422_1
           try clear hx422_2
           try clear hx422_3
           try clear hx422_4
           try clear hx422_5
           try clear hx423_0
           try clear hx423_1
           try clear p411
           try clear p412
           try clear p413
           try clear p414
           try clear p422
           try clear p423
           try clear q411
           try clear q412
           try clear q413
           try clear q414
           try clear q422
           try clear q423
           obtain ⟨kq, x80_22, rfl, HA, HJ22, BK11, HB⟩ := hcut
           cases kq with
           | zero => exact absurd HA.out (by simp [impl_inputRight.j4])
           | succ kj22 =>
            have H := HA.out
            clear HA
            simp only [impl_inputRight.j4] at H
            replace H := ifB H; rcases H with ⟨rfl, H⟩ | ⟨rfl, H⟩
            ·exact τ39
            ·replace H := bS H; obtain ⟨t431, A35, H⟩ := H
             exact τ39
         ·obtain rfl := Option.some.inj H
          go_wp2_with (first | ((with_reducible refine qR_ ?_)) | ((with_reducible refine wpQuiet_step (fun K hK => ?_)); go_simp; first | (refine hK _ ?_; clear hK K) | (apply Exists.intro; refine ⟨fun _ => ?_, hK _ ?_⟩)) | ((with_reducible refine wpQuiet_nil ?_); rintro _ ⟨nq, rfl⟩))
          go_ret
          exact ⟨ψ4, ψ25⟩

end Go.Proofs.Ytakmkdlkipfnhaa.PCore

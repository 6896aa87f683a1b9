/- The walks of the functions that the laws come to, part 7: turned out of the kit's print, and mended where that fell. -/
import Derived.Test.YtbjmhdoagjmmcaaPCoreg
import Derived.Test.YtbjmhdoagjmmcaaPCoreg0
import Derived.Test.YtbjmhdoagjmmcaaPCoreg1
import Derived.Test.YtbjmhdoagjmmcaaPCoreg6
namespace Go.Proofs.Ytbjmhdoagjmmcaa.PCore
open Go.RowKit Go.Proofs.YtbjmhdoagjmmcaaW.PrintWords Go.Proofs.YtbjmhdoagjmmcaaW.PrintLast Go.Proofs.YtbjmhdoagjmmcaaW.PrintMore
attribute [local go_sem] max2_int min2_int max_two min_two max_three min_three max_four min_four   -- for this text's walks alone
set_option linter.unusedVariables false
set_option linter.unusedSimpArgs false

theorem ψ134 {P : Prop} (h : P := by have := HJ7.out; first | omega | exact Nat.le_refl _) : P := h
theorem ψ135 {P : Prop} (h : P := by have := HJ7.out; have := HJ11.out; first | omega | exact Nat.le_refl _) : P := h
theorem ψ136 {P : Prop} (h : P := by repeat (first | (with_reducible first | exact HB.out | apply below_alloc | apply pw_below_drewN | apply below_drew1 | refine below_set ?_ GE10.out | refine below_set ?_ (IsS68.ge HI895.out)) | exact HB.out)) : P := h
theorem ψ137 {P : Prop} (h : P := by (with_reducible repeat (first | refine blk_drewN ?_ _ | refine blk_drew ?_ | refine blk_alloc ?_ _)); refine blk_put (cs := #[.slice A0 l0.length c0, .int .i64 0, .int .i64 0, .int .i64 0]) ?_ 3 _ rfl; (with_reducible repeat (first | refine blk_drewN ?_ _ | refine blk_drew ?_ | refine blk_alloc ?_ _)); refine blk_put (cs := #[.slice A0 l0.length c0, .int .i64 0, .int .i64 0, .int .i64 0]) ?_ 2 _ rfl; (with_reducible repeat (first | refine blk_drewN ?_ _ | refine blk_drew ?_ | refine blk_alloc ?_ _)); refine blk_put (cs := #[.slice A0 l0.length c0, .int .i64 0, .int .i64 0, .int .i64 0]) ?_ 1 _ rfl; (with_reducible repeat (first | refine blk_drewN ?_ _ | refine blk_drew ?_ | refine blk_alloc ?_ _)); refine blk_put (cs := #[.slice none 0 0, .int .i64 0, .int .i64 0, .int .i64 0]) ?_ 0 _ rfl; (with_reducible repeat (first | refine blk_drewN ?_ _ | refine blk_drew ?_ | refine blk_alloc ?_ _)); exact BK10.out) : P := h
theorem ψ138 {P : Prop} (h : P := by have := World.block_lt_of_cell? _ _ hx907_0; first | rwa [add_block] at this | exact this) : P := h
theorem ψ139 {P : Prop} (h : P := by first | (rw [add_block]; exact hn907_0) | (show (Addr.add _ _).block ≠ _; rw [add_block]; exact hn907_0) | exact hn907_0) : P := h
theorem ψ140 {P : Prop} (h : P := by first | (rw [add_block]; exact hn907_1) | (show (Addr.add _ _).block ≠ _; rw [add_block]; exact hn907_1) | exact hn907_1) : P := h
theorem ψ141 {P : Prop} (h : P := by first | (rw [add_block]; exact hn907_2) | (show (Addr.add _ _).block ≠ _; rw [add_block]; exact hn907_2) | exact hn907_2) : P := h
theorem ψ142 {P : Prop} (h : P := by (with_reducible repeat (first | refine blk_drewN ?_ _ | refine blk_drew ?_ | refine blk_alloc ?_ _)); refine blk_put (cs := #[.int .i64 ((rd_T71 l1 x11_1).f0), .slice A904_1 ((rd_T71 l1 x11_1).f1).length c904_1, .slice none 0 0]) ?_ 2 _ rfl; (with_reducible repeat (first | refine blk_drewN ?_ _ | refine blk_drew ?_ | refine blk_alloc ?_ _)); refine blk_put (cs := #[.int .i64 ((rd_T71 l1 x11_1).f0), .slice none 0 0, .slice none 0 0]) ?_ 1 _ rfl; (with_reducible repeat (first | refine blk_drewN ?_ _ | refine blk_drew ?_ | refine blk_alloc ?_ _)); refine blk_put (cs := #[.int .i64 0, .slice none 0 0, .slice none 0 0]) ?_ 0 _ rfl; (with_reducible repeat (first | refine blk_drewN ?_ _ | refine blk_drew ?_ | refine blk_alloc ?_ _)); exact BK10.out) : P := h
theorem ψ143 {P : Prop} (h : P := by (with_reducible repeat (first | refine blk_drewN ?_ _ | refine blk_drew ?_ | refine blk_alloc ?_ _)); refine blk_far ?_ NB10_11.out _; (with_reducible repeat (first | refine blk_drewN ?_ _ | refine blk_drew ?_ | refine blk_alloc ?_ _)); refine blk_far ?_ NB10_11.out _; (with_reducible repeat (first | refine blk_drewN ?_ _ | refine blk_drew ?_ | refine blk_alloc ?_ _)); refine blk_far ?_ NB10_11.out _; (with_reducible repeat (first | refine blk_drewN ?_ _ | refine blk_drew ?_ | refine blk_alloc ?_ _)); refine blk_far ?_ NB10_11.out _; (with_reducible repeat (first | refine blk_drewN ?_ _ | refine blk_drew ?_ | refine blk_alloc ?_ _)); exact BK10.out) : P := h
theorem ψ144 {P : Prop} (h : P := by (with_reducible repeat (first | refine blk_drewN ?_ _ | refine blk_drew ?_ | refine blk_alloc ?_ _)); refine blk_put (cs := #[.int .i64 ((rd_T42 l0 ((rd_T71 l1 x11_1).f0)).f0), .int .i64 ((rd_T42 l0 ((rd_T71 l1 x11_1).f0)).f1), .slice A907_2 ((rd_T42 l0 ((rd_T71 l1 x11_1).f0)).f2).length c907_2, .slice none 0 0]) ?_ 3 _ rfl; (with_reducible repeat (first | refine blk_drewN ?_ _ | refine blk_drew ?_ | refine blk_alloc ?_ _)); refine blk_put (cs := #[.int .i64 ((rd_T42 l0 ((rd_T71 l1 x11_1).f0)).f0), .int .i64 ((rd_T42 l0 ((rd_T71 l1 x11_1).f0)).f1), .slice none 0 0, .slice none 0 0]) ?_ 2 _ rfl; (with_reducible repeat (first | refine blk_drewN ?_ _ | refine blk_drew ?_ | refine blk_alloc ?_ _)); refine blk_put (cs := #[.int .i64 ((rd_T42 l0 ((rd_T71 l1 x11_1).f0)).f0), .int .i64 0, .slice none 0 0, .slice none 0 0]) ?_ 1 _ rfl; (with_reducible repeat (first | refine blk_drewN ?_ _ | refine blk_drew ?_ | refine blk_alloc ?_ _)); refine blk_put (cs := #[.int .i64 0, .int .i64 0, .slice none 0 0, .slice none 0 0]) ?_ 0 _ rfl; (with_reducible repeat (first | refine blk_drewN ?_ _ | refine blk_drew ?_ | refine blk_alloc ?_ _)); exact BK11.out) : P := h
theorem ψ145 {P : Prop} (h : P := by repeat (first | exact (Kd.C_below HR904_1.out HB.out) | (with_reducible refine Kd.C_alloc ?_ _) | (with_reducible refine Kd.C_drewN ?_ _) | (with_reducible refine Kd.C_drew ?_))) : P := h
theorem ψ146 {P : Prop} (h : P := by repeat (first | exact (Kd.C_below HR904_2.out HB.out) | (with_reducible refine Kd.C_alloc ?_ _) | (with_reducible refine Kd.C_drewN ?_ _) | (with_reducible refine Kd.C_drew ?_))) : P := h
theorem ψ332 {P : Prop} (h : P := by first | exact Nat.ne_of_lt (Nat.lt_of_lt_of_le (ψ138) GW10.out) | exact Nat.ne_of_lt (Nat.lt_of_lt_of_le (ψ138) GE10.out)) : P := h
theorem ψ333 {P : Prop} (h : P := by rw [hg]; exact Nat.ne_of_lt (blk_lt (g := gb10) (o := .cells #[.int .i64 ((rd_T71 l1 x11_1).f0), .slice A904_1 ((rd_T71 l1 x11_1).f1).length c904_1, .slice A904_2 ((rd_T71 l1 x11_1).f2).length c904_2] 71 (0, 0)) (ψ142))) : P := h
theorem ψ334 {P : Prop} (h : P := by rw [hg]; exact Nat.ne_of_gt (blk_lt (g := gb10) (o := .cells #[.int .i64 ((rd_T71 l1 x11_1).f0), .slice A904_1 ((rd_T71 l1 x11_1).f1).length c904_1, .slice A904_2 ((rd_T71 l1 x11_1).f2).length c904_2] 71 (0, 0)) (ψ142))) : P := h
theorem ψ335 {P : Prop} (h : P := by refine impl_CodeOf.box_T35 (ψ23) ?_ ?_ ?_ ?_ ?_ ?_ ?_ ?_; exact HC0_1.out; repeat (first | exact (Kd.C_below HR0_1.out HB.out) | (with_reducible refine Kd.C_alloc ?_ _) | (with_reducible refine Kd.C_drewN ?_ _) | (with_reducible refine Kd.C_drew ?_)); exact HC0_2.out; repeat (first | exact (Kd.C_below HR0_2.out HB.out) | (with_reducible refine Kd.C_alloc ?_ _) | (with_reducible refine Kd.C_drewN ?_ _) | (with_reducible refine Kd.C_drew ?_)); exact HC0_4.out; repeat (first | exact (Kd.C_below HR0_4.out HB.out) | (with_reducible refine Kd.C_alloc ?_ _) | (with_reducible refine Kd.C_drewN ?_ _) | (with_reducible refine Kd.C_drew ?_)); exact HC0_5.out; repeat (first | exact (Kd.C_below HR0_5.out HB.out) | (with_reducible refine Kd.C_alloc ?_ _) | (with_reducible refine Kd.C_drewN ?_ _) | (with_reducible refine Kd.C_drew ?_))) : P := h
/-! ### impl_stmtRight: function 62 -/
mutual
def impl_stmtRight.j2 : Nat → List (S35) → List (S42) → Bool → Bool → Int → Int → Option (Bool)
 | 0, _, _, _, _, _, _ => none
 | k + 1, x0, x1, x5, x6, x7, x8 => if ((rd_T42 x1 0).f1) < x7 then (impl_stmtRight.j3 k x0 x1 x5 x6 true) else (impl_stmtRight.j3 k x0 x1 x5 x6 (decide (((rd_T42 x1 0).f1) > x8)))
def impl_stmtRight.j3 : Nat → List (S35) → List (S42) → Bool → Bool → Bool → Option (Bool)
 | 0, _, _, _, _, _ => none
 | k + 1, x0, x1, x5, x6, x53 => if x53 = true then (some false) else ((impl_holdsPlace.f k x0 ((rd_T42 x1 0).f2) x5).bind fun t892 => (if t892 = true then ((impl_holdsPlace.f k x0 ((rd_T42 x1 0).f3) x6).bind fun t894 => (some t894)) else (some false)))
def impl_stmtRight.j0 : Nat → List (S35) → List (S42) → Bool → Bool → Int → Int → Int → Bool → Option (Bool)
 | 0, _, _, _, _, _, _, _, _ => none
 | k + 1, x0, x1, x5, x6, x7, x8, x12, x28 => if x28 = true then (impl_stmtRight.j2 k x0 x1 x5 true x7 x8) else (if x12 = 5 then (impl_stmtRight.j2 k x0 x1 x5 x6 x7 4) else (if x12 = 7 then (impl_stmtRight.j1 k x0 x1 x5 x6 x7 x8 x12 (x12 == 7)) else (impl_stmtRight.j1 k x0 x1 x5 x6 x7 x8 x12 (x12 == 9))))
def impl_stmtRight.j1 : Nat → List (S35) → List (S42) → Bool → Bool → Int → Int → Int → Bool → Option (Bool)
 | 0, _, _, _, _, _, _, _, _ => none
 | k + 1, x0, x1, x5, x6, x7, x8, x12, x33 => if x33 = true then (impl_stmtRight.j2 k x0 x1 x5 x6 x7 9) else (if x12 = 3 then (impl_stmtRight.j2 k x0 x1 x5 x6 x7 x8) else (if x12 = 4 then (impl_stmtRight.j2 k x0 x1 x5 x6 x7 x8) else (if x12 = 8 then (impl_stmtRight.j2 k x0 x1 x5 x6 x7 x8) else (some false))))
end
def impl_stmtRight.f (k : Nat) (l0 : List (S35)) (l1 : List (S42)) : Option (Bool) := if ((rd_T42 l1 0).f0) = 0 then ((impl_inputsOf.f l0).bind fun t886 => ((impl_varsOf.f l0).bind fun t887 => (impl_stmtRight.j2 k l0 l1 false true t886 (wrap64 (t887 - 1))))) else (if ((rd_T42 l1 0).f0) = 1 then (impl_stmtRight.j2 k l0 l1 true true 0 (wrap64 ((((rd_T35 l0 0).f4).length : Int) - 1))) else (if ((rd_T42 l1 0).f0) = 2 then (impl_stmtRight.j0 k l0 l1 false false 0 0 ((rd_T42 l1 0).f0) (((rd_T42 l1 0).f0) == 2)) else (impl_stmtRight.j0 k l0 l1 false false 0 0 ((rd_T42 l1 0).f0) (((rd_T42 l1 0).f0) == 6))))
set_option maxRecDepth 100000 in
theorem τ60 {P : Prop} (h : P := by
 have H' := Aside0.mk H
 clear H
 go_wp2
 first | (go_meet; (case rel => exact ⟨_, ((((rd_T42 l1 0).f0) == 7)), ψ0, H', ⟨ψ134⟩, ⟨ψ59⟩⟩)) | (go_meet; (case rel => exact ⟨_, ((((rd_T42 l1 0).f0) == 9)), ψ0, H', ⟨ψ134⟩, ⟨ψ59⟩⟩))) : P := h
set_option maxRecDepth 100000 in
theorem τ61 {P : Prop} (h : P := by
 first | obtain rfl := Option.some.inj H | (have H' := Aside0.mk H; clear H)
 go_wp2
 first | (go_meet; (case rel => exact ⟨_, (false), (false), (0), (9), ψ0, ψ0, ψ0, ψ0, H', ⟨ψ135⟩, ⟨ψ59⟩⟩)) | (go_meet; (case rel => exact ⟨_, (false), (false), (0), (0), ψ0, ψ0, ψ0, ψ0, H', ⟨ψ135⟩, ⟨ψ59⟩⟩)) | (go_ret; exact ⟨ψ9, ψ59⟩)) : P := h
set_option maxRecDepth 100000 in
theorem τ62 {P : Prop} (h : P := by
 have H' := Aside0.mk H
 clear H
 have p889 : 0 ≤ (0 : Int) := ψ7
 have q889 : 0 < (l1.length : Int) := ψ330
 obtain ⟨ad889, A889_2, c889_2, A889_3, c889_3, e889, hx889_0, hx889_1, hx889_2, hx889_3, hl889_2, hi889_2, hl889_3, hi889_3⟩ := at_T42 HR1.out 0 p889 q889
 obtain rfl : ad885 = ad889 := (by injection e889)
 have qi889 : (0 < l1.length) = True := eq_true ψ7
 (try rw [show ((0 : Int)).toNat = 0 from rfl] at hx889_0)
 (try rw [show 0 * 4 = 0 from rfl] at hx889_0)
 (try rw [Addr.add_zero'] at hx889_0)
 (try rw [show ((0 : Int)).toNat = 0 from rfl] at hx889_1)
 (try rw [show 0 * 4 = 0 from rfl] at hx889_1)
 (try rw [Addr.add_zero'] at hx889_1)
 (try rw [show ((0 : Int)).toNat = 0 from rfl] at hx889_2)
 (try rw [show 0 * 4 = 0 from rfl] at hx889_2)
 (try rw [Addr.add_zero'] at hx889_2)
 (try rw [show ((0 : Int)).toNat = 0 from rfl] at hx889_3)
 (try rw [show 0 * 4 = 0 from rfl] at hx889_3)
 (try rw [Addr.add_zero'] at hx889_3)
 replace hx889_0 := (HB.out.cell (World.block_lt_of_cell? w _ hx889_0)).trans hx889_0
 replace hx889_1 := (HB.out.cell (World.block_lt_of_cell? w _ hx889_1)).trans hx889_1
 replace hx889_2 := (HB.out.cell (World.block_lt_of_cell? w _ hx889_2)).trans hx889_2
 replace hx889_3 := (HB.out.cell (World.block_lt_of_cell? w _ hx889_3)).trans hx889_3
 have HR889_2 := Aside0.mk hi889_2
 have HC889_2 := Aside0.mk hl889_2
 clear hi889_2 hl889_2
 have HR889_3 := Aside0.mk hi889_3
 have HC889_3 := Aside0.mk hl889_3
 clear hi889_3 hl889_3
 replace p889 := eq_true p889
 replace q889 := eq_true q889
 try (have p890 : 0 ≤ (0 : Int) := ψ7; have q890 : 0 < (l1.length : Int) := ψ330; obtain ⟨ad890, A890_2, c890_2, A890_3, c890_3, e890, hx890_0, hx890_1, hx890_2, hx890_3, hl890_2, hi890_2, hl890_3, hi890_3⟩ := at_T42 HR1.out 0 p890 q890; obtain rfl : ad885 = ad890 := (by injection e890); have qi890 : (0 < l1.length) = True := eq_true ψ7; (try rw [show ((0 : Int)).toNat = 0 from rfl] at hx890_0); (try rw [show 0 * 4 = 0 from rfl] at hx890_0); (try rw [Addr.add_zero'] at hx890_0); (try rw [show ((0 : Int)).toNat = 0 from rfl] at hx890_1); (try rw [show 0 * 4 = 0 from rfl] at hx890_1); (try rw [Addr.add_zero'] at hx890_1); (try rw [show ((0 : Int)).toNat = 0 from rfl] at hx890_2); (try rw [show 0 * 4 = 0 from rfl] at hx890_2); (try rw [Addr.add_zero'] at hx890_2); (try rw [show ((0 : Int)).toNat = 0 from rfl] at hx890_3); (try rw [show 0 * 4 = 0 from rfl] at hx890_3); (try rw [Addr.add_zero'] at hx890_3); replace hx890_0 := (HB.out.cell (World.block_lt_of_cell? w _ hx890_0)).trans hx890_0; replace hx890_1 := (HB.out.cell (World.block_lt_of_cell? w _ hx890_1)).trans hx890_1; replace hx890_2 := (HB.out.cell (World.block_lt_of_cell? w _ hx890_2)).trans hx890_2; replace hx890_3 := (HB.out.cell (World.block_lt_of_cell? w _ hx890_3)).trans hx890_3; have HR890_2 := Aside0.mk hi890_2; have HC890_2 := Aside0.mk hl890_2; clear hi890_2 hl890_2; have HR890_3 := Aside0.mk hi890_3; have HC890_3 := Aside0.mk hl890_3; clear hi890_3 hl890_3; replace p890 := eq_true p890; replace q890 := eq_true q890)
 try (have ea_ := Option.some.inj (hx889_2.symm.trans hx890_2))
 injection ea_ with ea_ en_ ec_
 subst ea_
 subst ec_
 clear en_
 try (have ea_ := Option.some.inj (hx889_3.symm.trans hx890_3))
 go_wp2
 first | (go_meet; (case rel => exact ⟨_, (true), ψ0, H', ⟨ψ49⟩, ⟨ψ59⟩⟩)) | (go_meet; (case rel => exact ⟨_, (decide (((rd_T42 l1 0).f1) > x8_2)), ψ0, H', ⟨ψ49⟩, ⟨ψ59⟩⟩))) : P := h
set_option maxRecDepth 100000 in
theorem τ63 {P : Prop} (h : P := by
 obtain rfl := Option.some.inj H
 try (have p891 : 0 ≤ (0 : Int) := ψ7; have q891 : 0 < (l1.length : Int) := ψ330; obtain ⟨ad891, A891_2, c891_2, A891_3, c891_3, e891, hx891_0, hx891_1, hx891_2, hx891_3, hl891_2, hi891_2, hl891_3, hi891_3⟩ := at_T42 HR1.out 0 p891 q891; obtain rfl : ad885 = ad891 := (by injection e891); have qi891 : (0 < l1.length) = True := eq_true ψ7; (try rw [show ((0 : Int)).toNat = 0 from rfl] at hx891_0); (try rw [show 0 * 4 = 0 from rfl] at hx891_0); (try rw [Addr.add_zero'] at hx891_0); (try rw [show ((0 : Int)).toNat = 0 from rfl] at hx891_1); (try rw [show 0 * 4 = 0 from rfl] at hx891_1); (try rw [Addr.add_zero'] at hx891_1); (try rw [show ((0 : Int)).toNat = 0 from rfl] at hx891_2); (try rw [show 0 * 4 = 0 from rfl] at hx891_2); (try rw [Addr.add_zero'] at hx891_2); (try rw [show ((0 : Int)).toNat = 0 from rfl] at hx891_3); (try rw [show 0 * 4 = 0 from rfl] at hx891_3); (try rw [Addr.add_zero'] at hx891_3); replace hx891_0 := (HB.out.cell (World.block_lt_of_cell? w _ hx891_0)).trans hx891_0; replace hx891_1 := (HB.out.cell (World.block_lt_of_cell? w _ hx891_1)).trans hx891_1; replace hx891_2 := (HB.out.cell (World.block_lt_of_cell? w _ hx891_2)).trans hx891_2; replace hx891_3 := (HB.out.cell (World.block_lt_of_cell? w _ hx891_3)).trans hx891_3; have HR891_2 := Aside0.mk hi891_2; have HC891_2 := Aside0.mk hl891_2; clear hi891_2 hl891_2; have HR891_3 := Aside0.mk hi891_3; have HC891_3 := Aside0.mk hl891_3; clear hi891_3 hl891_3; replace p891 := eq_true p891; replace q891 := eq_true q891)
 go_wp2_with (first | ((with_reducible refine gate_callee (f := 92) rfl ?_); refine gL 60 Try.func92 #[.pointer A0, .slice A891_2 ((rd_T42 l1 0).f2).length c891_2, .bool x5_2] ?_; (with_reducible refine (impl_holdsPlace.calls kj17 _ c0 l0 _ _ ((rd_T42 l1 0).f2) x5_2 _ _ ?_ ?_ ?_ ?_ ?_ A21.out).mono ?_); exact hn0; exact ψ65; exact HC0.out; exact (by repeat (first | exact (Kd.C_below HR891_2.out HB.out) | (with_reducible refine Kd.C_alloc ?_ _) | (with_reducible refine Kd.C_drewN ?_ _) | (with_reducible refine Kd.C_drew ?_))); exact HC891_2.out; rintro e w1_ ⟨rfl, hb⟩; refine ⟨_, rfl, ?_⟩; replace HB := Aside0.mk (below_step ψ59 hb); (try clear hb); (try (have p893 : 0 ≤ (0 : Int) := ψ7; have q893 : 0 < (l1.length : Int) := ψ330; obtain ⟨ad893, A893_2, c893_2, A893_3, c893_3, e893, hx893_0, hx893_1, hx893_2, hx893_3, hl893_2, hi893_2, hl893_3, hi893_3⟩ := at_T42 HR1.out 0 p893 q893; obtain rfl : ad885 = ad893 := (by injection e893); have qi893 : (0 < l1.length) = True := eq_true ψ7; (try rw [show ((0 : Int)).toNat = 0 from rfl] at hx893_0); (try rw [show 0 * 4 = 0 from rfl] at hx893_0); (try rw [Addr.add_zero'] at hx893_0); (try rw [show ((0 : Int)).toNat = 0 from rfl] at hx893_1); (try rw [show 0 * 4 = 0 from rfl] at hx893_1); (try rw [Addr.add_zero'] at hx893_1); (try rw [show ((0 : Int)).toNat = 0 from rfl] at hx893_2); (try rw [show 0 * 4 = 0 from rfl] at hx893_2); (try rw [Addr.add_zero'] at hx893_2); (try rw [show ((0 : Int)).toNat = 0 from rfl] at hx893_3); (try rw [show 0 * 4 = 0 from rfl] at hx893_3); (try rw [Addr.add_zero'] at hx893_3); replace hx893_0 := (HB.out.cell (World.block_lt_of_cell? w _ hx893_0)).trans hx893_0; replace hx893_1 := (HB.out.cell (World.block_lt_of_cell? w _ hx893_1)).trans hx893_1; replace hx893_2 := (HB.out.cell (World.block_lt_of_cell? w _ hx893_2)).trans hx893_2; replace hx893_3 := (HB.out.cell (World.block_lt_of_cell? w _ hx893_3)).trans hx893_3; have HR893_2 := Aside0.mk hi893_2; have HC893_2 := Aside0.mk hl893_2; clear hi893_2 hl893_2; have HR893_3 := Aside0.mk hi893_3; have HC893_3 := Aside0.mk hl893_3; clear hi893_3 hl893_3; replace p893 := eq_true p893; replace q893 := eq_true q893))) | (go_at_call 92; (with_reducible refine (impl_holdsPlace.calls kj17 _ c0 l0 _ _ ((rd_T42 l1 0).f3) x6_2 _ _ ?_ ?_ ?_ ?_ ?_ A23.out).mono ?_); exact hn0; exact ψ65; exact HC0.out; exact (by repeat (first | exact (Kd.C_below HR893_3.out HB.out) | (with_reducible refine Kd.C_alloc ?_ _) | (with_reducible refine Kd.C_drewN ?_ _) | (with_reducible refine Kd.C_drew ?_))); exact HC893_3.out; rintro e w2_ ⟨rfl, hb⟩; replace HB := Aside0.mk (below_step ψ59 hb); (try clear hb)))
 go_ret
 exact ⟨ψ9, ψ59⟩) : P := h
set_option maxHeartbeats 8000000 in
set_option maxRecDepth 100000 in
theorem impl_stmtRight.calls (k : Nat) (A0 : Option Addr) (c0 : Nat) (l0 : List (S35)) (A1 : Option Addr) (c1 : Nat) (l1 : List (S42)) (r : Bool) (w : World) (hn0 : l0.length = 1) (hr0 : Kd.C k35 w A0 l0.length l0) (hc0 : l0.length ≤ c0) (hn1 : l1.length = 1) (hr1 : Kd.C k42 w A1 l1.length l1) (hc1 : l1.length ≤ c1) (h : impl_stmtRight.f k l0 l1 = some r) :
 Calls Try.prog 62 #[.pointer A0, .pointer A1] w fun e w' => e = .returned (.bool r) ∧ Below w.heap.size w w' := by
 have HR0 := Aside0.mk hr0
 have HC0 := Aside0.mk hc0
 clear hr0 hc0
 have HR1 := Aside0.mk hr1
 have HC1 := Aside0.mk hc1
 clear hr1 hc1
 have HB := Aside0.mk (Below.refl w.heap.size w)
 have H : (if ((rd_T42 l1 0).f0) = 0 then ((impl_inputsOf.f l0).bind fun t886 => ((impl_varsOf.f l0).bind fun t887 => (impl_stmtRight.j2 k l0 l1 false true t886 (wrap64 (t887 - 1))))) else (if ((rd_T42 l1 0).f0) = 1 then (impl_stmtRight.j2 k l0 l1 true true 0 (wrap64 ((((rd_T35 l0 0).f4).length : Int) - 1))) else (if ((rd_T42 l1 0).f0) = 2 then (impl_stmtRight.j0 k l0 l1 false false 0 0 ((rd_T42 l1 0).f0) (((rd_T42 l1 0).f0) == 2)) else (impl_stmtRight.j0 k l0 l1 false false 0 0 ((rd_T42 l1 0).f0) (((rd_T42 l1 0).f0) == 6))))) = some r := h
 clear h
 have HC3 := Aside0.mk H
 clear H
 have p885 : 0 ≤ (0 : Int) := ψ7
 have q885 : 0 < (l1.length : Int) := ψ330
 obtain ⟨ad885, A885_2, c885_2, A885_3, c885_3, e885, hx885_0, hx885_1, hx885_2, hx885_3, hl885_2, hi885_2, hl885_3, hi885_3⟩ := at_T42 HR1.out 0 p885 q885
 cases e885
 have qi885 : (0 < l1.length) = True := eq_true ψ7
 (try rw [show ((0 : Int)).toNat = 0 from rfl] at hx885_0)
 (try rw [show 0 * 4 = 0 from rfl] at hx885_0)
 (try rw [Addr.add_zero'] at hx885_0)
 (try rw [show ((0 : Int)).toNat = 0 from rfl] at hx885_1)
 (try rw [show 0 * 4 = 0 from rfl] at hx885_1)
 (try rw [Addr.add_zero'] at hx885_1)
 (try rw [show ((0 : Int)).toNat = 0 from rfl] at hx885_2)
 (try rw [show 0 * 4 = 0 from rfl] at hx885_2)
 (try rw [Addr.add_zero'] at hx885_2)
 (try rw [show ((0 : Int)).toNat = 0 from rfl] at hx885_3)
 (try rw [show 0 * 4 = 0 from rfl] at hx885_3)
 (try rw [Addr.add_zero'] at hx885_3)
 have HR885_2 := Aside0.mk hi885_2
 have HC885_2 := Aside0.mk hl885_2
 clear hi885_2 hl885_2
 have HR885_3 := Aside0.mk hi885_3
 have HC885_3 := Aside0.mk hl885_3
 clear hi885_3 hl885_3
 replace p885 := eq_true p885
 replace q885 := eq_true q885
 go_enter Try.func62, Try.ntmps62
 go_upto_block 0 with (fail)
 go_cut [5, 6, 7, 8] (fun v5 v6 v7 v8 wc => ∃ (kq : Nat) (x5_2 : Bool) (x6_2 : Bool) (x7_2 : Int) (x8_2 : Int), v5 = .bool x5_2 ∧ v6 = .bool x6_2 ∧ v7 = .int .i64 x7_2 ∧ v8 = .int .i64 x8_2 ∧ Aside0 (impl_stmtRight.j2 kq l0 l1 x5_2 x6_2 x7_2 x8_2 = some r) ∧ Aside0 (kq ≤ k) ∧ Aside0 (Below w.heap.size w wc))
 case first =>
  have H := HC3.out
  clear HC3
  replace H := ifF H; rcases H with ⟨c4b0, c4b1, H⟩ | ⟨c4b0, c4b1, c4, H⟩
  ·(first | rw [c4b0] | rw [c4b1] | (simp only [i64_w, i32_w]; rw [c4b0]) | skip)
   replace H := Option.bind_eq_some_iff.mp H
   obtain ⟨t886, A50, H⟩ := H
   have A5 := Aside0.mk A50
   clear A50
   replace H := Option.bind_eq_some_iff.mp H
   obtain ⟨t887, A60, H⟩ := H
   have A6 := Aside0.mk A60
   clear A60
   have H' := Aside0.mk H
   clear H
   go_wp2_with (first | ((with_reducible refine gate_callee (f := 90) rfl ?_); refine gL 16 Try.func90 #[.pointer A0] ?_; (with_reducible refine (impl_inputsOf.calls _ c0 l0 _ _ ?_ ?_ ?_ A5.out).mono ?_); exact hn0; exact ψ65; exact HC0.out; rintro e w' ⟨rfl, ⟨nd, rfl⟩⟩; refine ⟨_, rfl, ?_⟩) | ((with_reducible refine gate_callee (f := 91) rfl ?_); refine gL 18 Try.func91 #[.pointer A0] ?_; (with_reducible refine (impl_varsOf.calls _ c0 l0 _ _ ?_ ?_ ?_ A6.out).mono ?_); exact hn0; exact ψ313; exact HC0.out; rintro e w' ⟨rfl, ⟨nd, rfl⟩⟩; refine ⟨_, rfl, ?_⟩))
   go_meet
   case rel => exact ⟨_, (false), (true), (t886), (wrap64 (t887 - 1)), ψ0, ψ0, ψ0, ψ0, H', ⟨ψ25⟩, ⟨ψ59⟩⟩
  ·(first | rw [c4b0] | rw [c4b1] | (simp only [i64_w, i32_w]; rw [c4b0]) | skip)
   replace H := ifF H; rcases H with ⟨c7b0, c7b1, H⟩ | ⟨c7b0, c7b1, c7, H⟩
   ·have H' := Aside0.mk H
    clear H
    have p888 : 0 ≤ (0 : Int) := ψ7
    have q888 : 0 < (l0.length : Int) := ψ330
    obtain ⟨ad888, A888_1, c888_1, A888_2, c888_2, A888_4, c888_4, A888_5, c888_5, e888, hx888_0, hx888_1, hx888_2, hx888_3, hx888_4, hx888_5, hl888_1, hi888_1, hl888_2, hi888_2, hl888_4, hi888_4, hl888_5, hi888_5⟩ := at_T35 HR0.out 0 p888 q888
    cases e888
    have qi888 : (0 < l0.length) = True := eq_true ψ7
    (try rw [show ((0 : Int)).toNat = 0 from rfl] at hx888_0)
    (try rw [show 0 * 6 = 0 from rfl] at hx888_0)
    (try rw [Addr.add_zero'] at hx888_0)
    (try rw [show ((0 : Int)).toNat = 0 from rfl] at hx888_1)
    (try rw [show 0 * 6 = 0 from rfl] at hx888_1)
    (try rw [Addr.add_zero'] at hx888_1)
    (try rw [show ((0 : Int)).toNat = 0 from rfl] at hx888_2)
    (try rw [show 0 * 6 = 0 from rfl] at hx888_2)
    (try rw [Addr.add_zero'] at hx888_2)
    (try rw [show ((0 : Int)).toNat = 0 from rfl] at hx888_3)
    (try rw [show 0 * 6 = 0 from rfl] at hx888_3)
    (try rw [Addr.add_zero'] at hx888_3)
    (try rw [show ((0 : Int)).toNat = 0 from rfl] at hx888_4)
    (try rw [show 0 * 6 = 0 from rfl] at hx888_4)
    (try rw [Addr.add_zero'] at hx888_4)
    (try rw [show ((0 : Int)).toNat = 0 from rfl] at hx888_5)
    (try rw [show 0 * 6 = 0 from rfl] at hx888_5)
    (try rw [Addr.add_zero'] at hx888_5)
    replace hx888_0 := (HB.out.cell (World.block_lt_of_cell? w _ hx888_0)).trans hx888_0
    replace hx888_1 := (HB.out.cell (World.block_lt_of_cell? w _ hx888_1)).trans hx888_1
    replace hx888_2 := (HB.out.cell (World.block_lt_of_cell? w _ hx888_2)).trans hx888_2
    replace hx888_3 := (HB.out.cell (World.block_lt_of_cell? w _ hx888_3)).trans hx888_3
    replace hx888_4 := (HB.out.cell (World.block_lt_of_cell? w _ hx888_4)).trans hx888_4
    replace hx888_5 := (HB.out.cell (World.block_lt_of_cell? w _ hx888_5)).trans hx888_5
    have HR888_1 := Aside0.mk hi888_1
    have HC888_1 := Aside0.mk hl888_1
    clear hi888_1 hl888_1
    have HR888_2 := Aside0.mk hi888_2
    have HC888_2 := Aside0.mk hl888_2
    clear hi888_2 hl888_2
    have HR888_4 := Aside0.mk hi888_4
    have HC888_4 := Aside0.mk hl888_4
    clear hi888_4 hl888_4
    have HR888_5 := Aside0.mk hi888_5
    have HC888_5 := Aside0.mk hl888_5
    clear hi888_5 hl888_5
    replace p888 := eq_true p888
    replace q888 := eq_true q888
    go_wp2
    go_meet
    case rel => exact ⟨_, (true), (true), (0), (wrap64 ((((rd_T35 l0 0).f4).length : Int) - 1)), ψ0, ψ0, ψ0, ψ0, H', ⟨ψ25⟩, ⟨ψ59⟩⟩
   ·have HC8 := Aside0.mk H
    clear H
    go_upto_if 28 with (fail)
    go_cut [28] (fun v28 wc => ∃ (kq : Nat) (x28_7 : Bool), v28 = .bool x28_7 ∧ Aside0 (impl_stmtRight.j0 kq l0 l1 false false 0 0 ((rd_T42 l1 0).f0) x28_7 = some r) ∧ Aside0 (kq ≤ k) ∧ Aside0 (Below w.heap.size w wc))
    case first =>
     have H := HC8.out
     clear HC8
     replace H := ifF H; rcases H with ⟨c9b0, c9b1, H⟩ | ⟨c9b0, c9b1, c9, H⟩
     ·(first | rw [c9b0] | rw [c9b1] | (simp only [i64_w, i32_w]; rw [c9b0]) | skip)
      have H' := Aside0.mk H
      clear H
      go_wp2
      go_meet
      case rel => exact ⟨_, ((((rd_T42 l1 0).f0) == 2)), ψ0, H', ⟨ψ25⟩, ⟨ψ59⟩⟩
     ·(first | rw [c9b0] | rw [c9b1] | (simp only [i64_w, i32_w]; rw [c9b0]) | skip)
      have H' := Aside0.mk H
      clear H
      go_wp2
      go_meet
      case rel => exact ⟨_, ((((rd_T42 l1 0).f0) == 6)), ψ0, H', ⟨ψ25⟩, ⟨ψ59⟩⟩
    case rest =>
     clear HC8
     try clear c1
     try clear p2
     try clear c4
     try clear c4b0
     try clear c4b1
     try clear c6
     try clear p6
     try clear c7
     try clear c7b0
     try clear c7b1
     try clear c8
     try clear p8
     try clear q8
     try clear hx8
     try clear qi8
     try clear c9
     try clear c9b0
     try clear c9b1
     try clear hx885_0
     try clear hx885_1
     try clear hx885_2
     try clear hx885_3
     try clear hx888_0
     try clear hx888_1
     try clear hx888_2
     try clear hx888_3
     try clear hx888_4
     try clear hx888_5
     try clear p885
     try clear p888
     try clear q885
     try clear q888
     obtain ⟨kq, x28_7, rfl, HA, HJ7, HB⟩ := hcut
     cases kq with
     | zero => exact absurd HA.out (by simp [impl_stmtRight.j0])
     | succ kj7 =>
      have H := HA.out
      clear HA
      simp only [impl_stmtRight.j0] at H
      replace H := ifB H; rcases H with ⟨rfl, H⟩ | ⟨rfl, H⟩
      ·have H' := Aside0.mk H
       clear H
       go_wp2
       go_meet
       case rel => exact ⟨_, (false), (true), (0), (0), ψ0, ψ0, ψ0, ψ0, H', ⟨ψ134⟩, ⟨ψ59⟩⟩
      ·by_cases c11 : ((rd_T42 l1 0).f0) = 5
       ·rw [if_pos c11] at H
        have c11b0 : (((rd_T42 l1 0).f0) == 5) = true := beq_iff_eq.mpr c11
        have c11b1 : (((rd_T42 l1 0).f0) != 5) = false := bne_eq_false_iff_eq.mpr c11
        clear c11
        have H' := Aside0.mk H
        clear H
        go_wp2
        go_meet
        case rel => exact ⟨_, (false), (false), (0), (4), ψ0, ψ0, ψ0, ψ0, H', ⟨ψ134⟩, ⟨ψ59⟩⟩
       ·rw [if_neg c11] at H
        have c11b0 : (((rd_T42 l1 0).f0) == 5) = false := beq_eq_false_iff_ne.mpr c11
        have c11b1 : (((rd_T42 l1 0).f0) != 5) = true := bne_iff_ne.mpr c11
        have HC12 := Aside0.mk H
        clear H
        go_upto_if 33 with (fail)
        go_cut [33] (fun v33 wc => ∃ (kq : Nat) (x33_11 : Bool), v33 = .bool x33_11 ∧ Aside0 (impl_stmtRight.j1 kq l0 l1 false false 0 0 ((rd_T42 l1 0).f0) x33_11 = some r) ∧ Aside0 (kq ≤ kj7) ∧ Aside0 (Below w.heap.size w wc))
        case first =>
         have H := HC12.out
         clear HC12
         replace H := ifF H; rcases H with ⟨c13b0, c13b1, H⟩ | ⟨c13b0, c13b1, c13, H⟩
         ·(first | rw [c13b0] | rw [c13b1] | (simp only [i64_w, i32_w]; rw [c13b0]) | skip)
          exact τ60
         ·(first | rw [c13b0] | rw [c13b1] | (simp only [i64_w, i32_w]; rw [c13b0]) | skip)
          exact τ60
        case rest =>
         clear HC12
         try clear c1
         try clear p2
         try clear c4
         try clear c4b0
         try clear c4b1
         try clear c6
         try clear p6
         try clear c7
         try clear c7b0
         try clear c7b1
         try clear c8
         try clear p8
         try clear q8
         try clear hx8
         try clear qi8
         try clear c9
         try clear c9b0
         try clear c9b1
         try clear c10
         try clear c11
         try clear c11b0
         try clear c11b1
         try clear c13
         try clear c13b0
         try clear c13b1
         try clear hx885_0
         try clear hx885_1
         try clear hx885_2
         try clear hx885_3
         try clear hx888_0
         try clear hx888_1
         try clear hx888_2
         try clear hx888_3
         try clear hx888_4
         try clear hx888_5
         try clear p2
         try clear p6
         try clear p8
         try clear p885
         try clear p888
         try clear q8
         try clear q885
         try clear q888
         obtain ⟨kq, x33_11, rfl, HA, HJ11, HB⟩ := hcut
         cases kq with
         | zero => exact absurd HA.out (by simp [impl_stmtRight.j1])
         | succ kj11 =>
          have H := HA.out
          clear HA
          simp only [impl_stmtRight.j1] at H
          replace H := ifB H; rcases H with ⟨rfl, H⟩ | ⟨rfl, H⟩
          ·exact τ61
          ·by_cases c15 : ((rd_T42 l1 0).f0) = 3
           ·rw [if_pos c15] at H
            have c15b0 : (((rd_T42 l1 0).f0) == 3) = true := beq_iff_eq.mpr c15
            have c15b1 : (((rd_T42 l1 0).f0) != 3) = false := bne_eq_false_iff_eq.mpr c15
            clear c15
            exact τ61
           ·rw [if_neg c15] at H
            have c15b0 : (((rd_T42 l1 0).f0) == 3) = false := beq_eq_false_iff_ne.mpr c15
            have c15b1 : (((rd_T42 l1 0).f0) != 3) = true := bne_iff_ne.mpr c15
            replace H := ifF H; rcases H with ⟨c16b0, c16b1, H⟩ | ⟨c16b0, c16b1, c16, H⟩
            ·exact τ61
            ·by_cases c17 : ((rd_T42 l1 0).f0) = 8
             ·rw [if_pos c17] at H
              have c17b0 : (((rd_T42 l1 0).f0) == 8) = true := beq_iff_eq.mpr c17
              have c17b1 : (((rd_T42 l1 0).f0) != 8) = false := bne_eq_false_iff_eq.mpr c17
              clear c17
              exact τ61
             ·rw [if_neg c17] at H
              have c17b0 : (((rd_T42 l1 0).f0) == 8) = false := beq_eq_false_iff_ne.mpr c17
              have c17b1 : (((rd_T42 l1 0).f0) != 8) = true := bne_iff_ne.mpr c17
              exact τ61
 case rest =>
  clear HC3
  try clear c1
  try clear p2
  try clear c4
  try clear c4b0
  try clear c4b1
  try clear c6
  try clear p6
  try clear c7
  try clear c7b0
  try clear c7b1
  try clear c8
  try clear p8
  try clear q8
  try clear hx8
  try clear qi8
  try clear c9
  try clear c9b0
  try clear c9b1
  try clear c10
  try clear c11
  try clear c11b0
  try clear c11b1
  try clear c13
  try clear c13b0
  try clear c13b1
  try clear c14
  try clear c15
  try clear c15b0
  try clear c15b1
  try clear c16
  try clear c16b0
  try clear c16b1
  try clear c17
  try clear c17b0
  try clear c17b1
  try clear hx885_0
  try clear hx885_1
  try clear hx885_2
  try clear hx885_3
  try clear hx888_0
  try clear hx888_1
  try clear hx888_2
  try clear hx888_3
  try clear hx888_4
  try clear hx888_5
  try clear p2
  try clear p6
  try clear p8
  try clear p885
  try clear p888
  try clear q8
  try clear q885
  try clear q888
  obtain ⟨kq, x5_2, x6_2, x7_2, x8_2, rfl, rfl, rfl, rfl, HA, HJ2, HB⟩ := hcut
  cases kq with
  | zero => exact absurd HA.out (by simp [impl_stmtRight.j2])
  | succ kj2 =>
   have H := HA.out
   clear HA
   simp only [impl_stmtRight.j2] at H
   have HC18 := Aside0.mk H
   clear H
   go_upto_region 24 with (fail)
   go_cut [53] (fun v53 wc => ∃ (kq : Nat) (x53_17 : Bool), v53 = .bool x53_17 ∧ Aside0 (impl_stmtRight.j3 kq l0 l1 x5_2 x6_2 x53_17 = some r) ∧ Aside0 (kq ≤ kj2) ∧ Aside0 (Below w.heap.size w wc))
   case first =>
    have H := HC18.out
    clear HC18
    replace H := ifD H; rcases H with ⟨c19b0, H⟩ | ⟨c19b0, H⟩
    ·(first | rw [c19b0] | (simp only [i64_w, i32_w]; rw [c19b0]) | skip)
     exact τ62
    ·(first | rw [c19b0] | (simp only [i64_w, i32_w]; rw [c19b0]) | skip)
     exact τ62
   case rest =>
    clear HC18
    try clear c1
    try clear p2
    try clear c4
    try clear c4b0
    try clear c4b1
    try clear c6
    try clear p6
    try clear c7
    try clear c7b0
    try clear c7b1
    try clear c8
    try clear p8
    try clear q8
    try clear hx8
    try clear qi8
    try clear c9
    try clear c9b0
    try clear c9b1
    try clear c10
    try clear c11
    try clear c11b0
    try clear c11b1
    try clear c13
    try clear c13b0
    try clear c13b1
    try clear c14
    try clear c15
    try clear c15b0
    try clear c15b1
    try clear c16
    try clear c16b0
    try clear c16b1
    try clear c17
    try clear c17b0
    try clear c17b1
    try clear c19
    try clear c19b0
    try clear hx885_0
    try clear hx885_1
    try clear hx885_2
    try clear hx885_3
    try clear hx888_0
    try clear hx888_1
    try clear hx888_2
    try clear hx888_3
    try clear hx888_4
    try clear hx888_5
    try clear hx889_0
    try clear hx889_1
    try clear hx889_2
    try clear hx889_3
    try clear hx890_0
    try clear hx890_1
    try clear hx890_2
    try clear hx890_3
    try clear p2
    try clear p6
    try clear p8
    try clear p885
    try clear p888
    try clear p889
    try clear p890
    try clear q8
    try clear q885
    try clear q888
    try clear q889
    try clear q890
    obtain ⟨kq, x53_17, rfl, HA, HJ17, HB⟩ := hcut
    cases kq with
    | zero => exact absurd HA.out (by simp [impl_stmtRight.j3])
    | succ kj17 =>
     have H := HA.out
     clear HA
     simp only [impl_stmtRight.j3] at H
     replace H := ifB H; rcases H with ⟨rfl, H⟩ | ⟨rfl, H⟩
     ·exact τ63
     ·replace H := Option.bind_eq_some_iff.mp H
      obtain ⟨t892, A210, H⟩ := H
      have A21 := Aside0.mk A210
      clear A210
      replace H := ifB H; rcases H with ⟨rfl, H⟩ | ⟨rfl, H⟩
      ·replace H := Option.bind_eq_some_iff.mp H
       obtain ⟨t894, A230, H⟩ := H
       have A23 := Aside0.mk A230
       clear A230
       exact τ63
      ·exact τ63

/-! ### impl_nodesOf: function 63 -/
def impl_nodesOf.f (k : Nat) (l0 : List (S42)) : Option ((List (S71)) × Bool) := (impl_nester_many.f k l0 0 0 0).bind fun bt896 => (if bt896.2.1 = true then (some (bt896.1, (bt896.2.2.1 == (l0.length : Int)))) else (some (bt896.1, false)))
set_option maxRecDepth 100000 in
theorem τ64 {P : Prop} (h : P := by
 obtain ⟨rfl, rfl⟩ := H
 go_enter Try.func63, Try.ntmps63
 go_wp2_with (first | ((with_reducible refine gate_dst (N := 4) rfl ?_); (try (refine gate_guard ψ16 ?_; dsimp only)); refine bE 4 #[.slice none 0 0, .int .i64 0, .int .i64 0, .int .i64 0] 68 ?_; intro gb10 hg w1_ hbox hb; have q := n4_ (below_step ψ136 hb) (hbox) ((by rw [hg]; exact (below_size ψ136) : w.heap.size ≤ gb10)) ((by rw [hg]; exact (below_size ψ136) : w.heap.size ≤ gb10)); clear HB; obtain ⟨HB, BK10, GW10, GE10⟩ := q; clear hb hbox hg; obtain ⟨hczB10_0, hczB10_1, hczB10_2, hczB10_3, hfzB10_0, hfzB10_1, hfzB10_2, hfzB10_3⟩ := cells4 BK10.out) | (go_at_call 80; (with_reducible refine (impl_nester_many.calls k gb10 l0 0 0 0 t896 true t900 t901 t902 w _ ?_ ?_ A2.out).mono ?_); exact (by exact ⟨_, _, ψ137, GW10.out, HR0.out⟩); exact ψ136; rintro e w2_ ⟨v897, rfl, ho0, hi, hb, hk⟩; have q := n3_ (Kd.R_lower ho0 (below_size ψ136)) (hb) (hi); clear HB BK10; obtain ⟨HO898, HB, HI895⟩ := q; (try clear hb hk hi); (try clear ho0); obtain ⟨ASzS1_0, cSzS1_0, HGzS1, hgzS1, HSzS1_0⟩ := HI895.out; have hczS1_0 := cellS68_0 HGzS1; have hczS1_1 := cellS68_1 HGzS1; have hczS1_2 := cellS68_2 HGzS1; have hczS1_3 := cellS68_3 HGzS1; have hfzS1_1 := blk_frozen HGzS1 1; have hfzS1_2 := blk_frozen HGzS1 2; have hfzS1_3 := blk_frozen HGzS1 3; clear HGzS1 hgzS1) | (go_at_call 80; (with_reducible refine (impl_nester_many.calls k gb10 l0 0 0 0 t896 false t900 t901 t902 w _ ?_ ?_ A2.out).mono ?_); exact (by exact ⟨_, _, ψ137, GW10.out, HR0.out⟩); exact ψ136; rintro e w2_ ⟨v897, rfl, ho0, hi, hb, hk⟩; have q := n3_ (Kd.R_lower ho0 (below_size ψ136)) (hb) (hi); clear HB BK10; obtain ⟨HO898, HB, HI895⟩ := q; (try clear hb hk hi); (try clear ho0)) | ((with_reducible refine qR_ ?_)) | ((with_reducible refine wpQuiet_step (fun K hK => ?_)); go_simp; first | (refine hK _ ?_; clear hK K) | (apply Exists.intro; refine ⟨fun _ => ?_, hK _ ?_⟩)) | ((with_reducible refine wpQuiet_nil ?_); rintro _ ⟨nq, rfl⟩))
 go_ret2
 exact ⟨_, ψ9, by (with_reducible repeat (first | apply Kd.R_alloc | apply Kd.R_drewN | apply Kd.R_drew)); exact HO898.out, ψ136⟩) : P := h
set_option maxHeartbeats 8000000 in
set_option maxRecDepth 100000 in
theorem impl_nodesOf.calls (k : Nat) (A0 : Option Addr) (c0 : Nat) (l0 : List (S42)) (r1 : List (S71)) (r2 : Bool) (w : World) (hr0 : Kd.C k42 w A0 l0.length l0) (hc0 : l0.length ≤ c0) (h : impl_nodesOf.f k l0 = some (r1, r2)) :
 Calls Try.prog 63 #[.slice A0 l0.length c0] w fun e w' => ∃ v0_ : Value, e = .returned (.tuple #[v0_, .bool r2]) ∧ Kd.R k71 71 w' w.heap.size (fun _ => True) v0_ r1 ∧ Below w.heap.size w w' := by
 have hu68 := Try.underlying68
 have HR0 := Aside0.mk hr0
 have HC0 := Aside0.mk hc0
 clear hr0 hc0
 have HB := Aside0.mk (Below.refl w.heap.size w)
 have H : ((impl_nester_many.f k l0 0 0 0).bind fun bt896 => (if bt896.2.1 = true then (some (bt896.1, (bt896.2.2.1 == (l0.length : Int)))) else (some (bt896.1, false)))) = some (r1, r2) := h
 clear h
 replace H := Option.bind_eq_some_iff.mp H
 obtain ⟨⟨t896, t899, t900, t901, t902⟩, A20, H⟩ := H
 have A2 := Aside0.mk A20
 clear A20
 replace H := ifB H; rcases H with ⟨rfl, H⟩ | ⟨rfl, H⟩
 ·simp only [Option.some.injEq, Prod.mk.injEq] at H
  exact τ64
 ·simp only [Option.some.injEq, Prod.mk.injEq] at H
  exact τ64

/-! ### impl_stepsIn: function 64 -/
mutual
def impl_stepsIn.l0 : Nat → List (S42) → Int → List (S71) → Int → Int → Option (Int)
 | 0, _, _, _, _, _ => none
 | k + 1, x0, x5, x9, x10, x11 => if x11 < x10 then (if 0 ≤ x11 then (if x11 < (x9.length : Int) then (if 0 ≤ ((rd_T71 x9 x11).f0) then (if ((rd_T71 x9 x11).f0) < (x0.length : Int) then (if ((rd_T42 x0 ((rd_T71 x9 x11).f0)).f0) = 2 then ((impl_stepsIn.f k x0 ((rd_T71 x9 x11).f1)).bind fun t911 => ((impl_stepsIn.f k x0 ((rd_T71 x9 x11).f2)).bind fun t913 => (impl_stepsIn.l0 k x0 (mn (wrap64 (x5 + (wrap64 (1 + (mx t911 t913))))) 4000) x9 x10 (wrap64 (x11 + 1))))) else (if ((rd_T42 x0 ((rd_T71 x9 x11).f0)).f0) = 5 then ((impl_stepsIn.f k x0 ((rd_T71 x9 x11).f1)).bind fun t916 => (impl_stepsIn.l0 k x0 (mn (wrap64 (x5 + (wrap64 (1 + (wrap64 (((rd_T42 x0 ((rd_T71 x9 x11).f0)).f1) * (wrap64 (1 + t916)))))))) 4000) x9 x10 (wrap64 (x11 + 1)))) else (if ((rd_T42 x0 ((rd_T71 x9 x11).f0)).f0) = 8 then ((impl_stepsIn.f k x0 ((rd_T71 x9 x11).f1)).bind fun t918 => ((impl_stepsIn.f k x0 ((rd_T71 x9 x11).f2)).bind fun t920 => (impl_stepsIn.l0 k x0 (mn (wrap64 (x5 + (wrap64 ((wrap64 (1 + t918)) + t920)))) 4000) x9 x10 (wrap64 (x11 + 1))))) else (impl_stepsIn.l0 k x0 (mn (wrap64 (x5 + 1)) 4000) x9 x10 (wrap64 (x11 + 1)))))) else (none)) else (none)) else (none)) else (none)) else (some x5)
def impl_stepsIn.f : Nat → List (S42) → List (S71) → Option (Int)
 | 0, _, _ => none
 | k + 1, l0, l1 => impl_stepsIn.l0 k l0 0 l1 (l1.length : Int) 0
end
def impl_stepsIn.T9 : Bool × List (List Nat × List Nat) := (true, [([], []), ([], []), ([], []), ([2], [2]), ([1, 3], [1, 3]), ([], []), ([], []), ([6], [6]), ([5, 7, 4], [5, 7]), ([4, 8], [4, 8]), ([9], [9]), ([0, 10], [0, 10]), ([11, 8, 0, 1, 2, 3, 4, 5, 6, 7, 8, 9, 10, 11], [0, 11])])
def impl_stepsIn.B9 : List Nat := [0, 0, 0, 4, 14, 0, 0, 64, 254, 510, 1022, 2047, 4095]
theorem impl_stepsIn.tab9 : rtab .any (opsOf Try.f64 9) = impl_stepsIn.T9 := by kernel_rfl
theorem impl_stepsIn.bits9 : waitsOk impl_stepsIn.T9.2 impl_stepsIn.B9 = true := by kernel_rfl
def impl_stepsIn.T11 : Bool × List (List Nat × List Nat) := (true, [([], []), ([], []), ([1], [1]), ([], []), ([], []), ([4], [4]), ([3, 5], [3, 5]), ([6], [6]), ([2, 7], [2, 7]), ([8], [8]), ([0, 9], [0, 9]), ([10, 6, 0, 1, 2, 3, 4, 5, 6, 7, 8, 9, 10], [0, 10])])
def impl_stepsIn.B11 : List Nat := [0, 0, 2, 0, 0, 16, 56, 120, 254, 510, 1023, 2047]
theorem impl_stepsIn.tab11 : rtab .any (opsOf Try.f64 11) = impl_stepsIn.T11 := by kernel_rfl
theorem impl_stepsIn.bits11 : waitsOk impl_stepsIn.T11.2 impl_stepsIn.B11 = true := by kernel_rfl
def impl_stepsIn.T13 : Bool × List (List Nat × List Nat) := (true, [([], []), ([], []), ([], []), ([2], [2]), ([1, 3], [1, 3]), ([4], [4]), ([], []), ([], []), ([7], [7]), ([6, 8, 4], [6, 8]), ([5, 9], [5, 9]), ([0, 10], [0, 10]), ([11, 9, 0, 1, 2, 3, 4, 5, 6, 7, 8, 9, 10, 11], [0, 11])])
def impl_stepsIn.B13 : List Nat := [0, 0, 0, 4, 14, 30, 0, 0, 128, 478, 1022, 2047, 4095]
theorem impl_stepsIn.tab13 : rtab .any (opsOf Try.f64 13) = impl_stepsIn.T13 := by kernel_rfl
theorem impl_stepsIn.bits13 : waitsOk impl_stepsIn.T13.2 impl_stepsIn.B13 = true := by kernel_rfl
set_option maxHeartbeats 8000000 in
set_option maxRecDepth 100000 in
theorem impl_stepsIn.calls (k : Nat) : ∀ (A0 : Option Addr) (c0 : Nat) (l0 : List (S42)) (A1 : Option Addr) (c1 : Nat) (l1 : List (S71)) (r : Int) (w : World) (hr0 : Kd.C k42 w A0 l0.length l0) (hc0 : l0.length ≤ c0) (hr1 : Kd.C k71 w A1 l1.length l1) (hc1 : l1.length ≤ c1) (h : impl_stepsIn.f k l0 l1 = some r),
 Calls Try.prog 64 #[.slice A0 l0.length c0, .slice A1 l1.length c1] w fun e w' => e = .returned (.int .i64 r) ∧ Below w.heap.size w w' := by
 induction k using Nat.strongRecOn with
 | _ k ih =>
 intro A0 c0 l0 A1 c1 l1 r w hr0 hc0 hr1 hc1 h
 cases k with
 | zero => exact absurd h (by simp [impl_stepsIn.f])
 | succ k =>
 simp only [impl_stepsIn.f] at h
 have hu71 := Try.underlying71
 have hu42 := Try.underlying42
 have HR0 := Aside0.mk hr0
 have HC0 := Aside0.mk hc0
 clear hr0 hc0
 have HR1 := Aside0.mk hr1
 have HC1 := Aside0.mk hc1
 clear hr1 hc1
 have HB := Aside0.mk (Below.refl w.heap.size w)
 have H : (impl_stepsIn.l0 k l0 0 l1 (l1.length : Int) 0) = some r := h
 clear h
 have H' := Aside0.mk H
 clear H
 go_enter Try.func64, Try.ntmps64
 go_wp2
 go_loopg [5, 11] k (fun kq v5 v11 w' => ∃ (x5_1 : Int) (x11_1 : Int), v5 = .int .i64 x5_1 ∧ v11 = .int .i64 x11_1 ∧ Aside0 (impl_stepsIn.l0 kq l0 x5_1 l1 (l1.length : Int) x11_1 = some r) ∧ Aside0 (kq ≤ k) ∧ Aside0 (Below w.heap.size w w'))
 case atStart => exact ⟨(0), (0), ψ0, ψ0, H', ⟨Nat.le_refl _⟩, ⟨ψ61⟩⟩
 case round =>
  clear H'
  try clear c1
  try clear p2
  obtain ⟨x5_1, x11_1, rfl, rfl, HA, HK1, HB⟩ := hrel
  cases gk with
  | zero => exact absurd HA.out (by simp [impl_stepsIn.l0])
  | succ k1 =>
   have H := HA.out
   clear HA
   simp only [impl_stepsIn.l0] at H
   replace H := ifD H; rcases H with ⟨c3b0, H⟩ | ⟨c3b0, H⟩
   ·replace H := ifN H; obtain ⟨c4b0, H⟩ := H
    replace H := ifN H; obtain ⟨c5b0, H⟩ := H
    replace H := ifN H; obtain ⟨c6b0, H⟩ := H
    replace H := ifN H; obtain ⟨c7b0, H⟩ := H
    replace H := ifF H; rcases H with ⟨c8b0, c8b1, H⟩ | ⟨c8b0, c8b1, c8, H⟩
    ·replace H := Option.bind_eq_some_iff.mp H
     obtain ⟨t911, A90, H⟩ := H
     have A9 := Aside0.mk A90
     clear A90
     replace H := Option.bind_eq_some_iff.mp H
     obtain ⟨t913, A100, H⟩ := H
     have A10 := Aside0.mk A100
     clear A100
     obtain ⟨ji11, hji11⟩ : ∃ j_ : Int, (mx t911 t913) = j_ := ⟨_, rfl⟩
     replace H : (impl_stepsIn.l0 k1 l0 (mn (wrap64 (x5_1 + (wrap64 (1 + (ji11))))) 4000) l1 (l1.length : Int) (wrap64 (x11_1 + 1))) = some r := by first | (rw [hji11] at H; exact H) | (simp only [hji11] at H ⊢; exact H)
     (try rw [hji11] at A9)
     (try rw [hji11] at A10)
     have hji11_ : (if t911 < t913 then t913 else t911) = ji11 := hji11
     obtain ⟨ji12, hji12⟩ : ∃ j_ : Int, (mn (wrap64 (x5_1 + (wrap64 (1 + (ji11))))) 4000) = j_ := ⟨_, rfl⟩
     replace H : (impl_stepsIn.l0 k1 l0 ji12 l1 (l1.length : Int) (wrap64 (x11_1 + 1))) = some r := by first | (rw [hji12] at H; exact H) | (simp only [hji12] at H ⊢; exact H)
     (try rw [hji12] at A9)
     (try rw [hji12] at A10)
     have hji12_ : (if 4000 < (wrap64 (x5_1 + (wrap64 (1 + (ji11))))) then 4000 else (wrap64 (x5_1 + (wrap64 (1 + (ji11)))))) = ji12 := hji12
     have H' := Aside0.mk H
     clear H
     have p904 : 0 ≤ (x11_1 : Int) := of_decide_eq_true ψ2
     have q904 : x11_1 < (l1.length : Int) := of_decide_eq_true ψ2
     obtain ⟨ad904, A904_1, c904_1, A904_2, c904_2, e904, hx904_0, hx904_1, hx904_2, hl904_1, hi904_1, hl904_2, hi904_2⟩ := at_T71 HR1.out x11_1 p904 q904
     cases e904
     replace hx904_0 := (HB.out.cell (World.block_lt_of_cell? w _ hx904_0)).trans hx904_0
     replace hx904_1 := (HB.out.cell (World.block_lt_of_cell? w _ hx904_1)).trans hx904_1
     replace hx904_2 := (HB.out.cell (World.block_lt_of_cell? w _ hx904_2)).trans hx904_2
     have HR904_1 := Aside0.mk hi904_1
     have HC904_1 := Aside0.mk hl904_1
     clear hi904_1 hl904_1
     have HR904_2 := Aside0.mk hi904_2
     have HC904_2 := Aside0.mk hl904_2
     clear hi904_2 hl904_2
     replace p904 := eq_true p904
     replace q904 := eq_true q904
     try go_wp2_with (first | ((with_reducible refine gate_dst (N := 7) rfl ?_); refine bE 7 #[.int .i64 0, .slice none 0 0, .slice none 0 0] 71 ?_; intro gb10 hg w13 hbox hb; have q := n4_ (below_step ψ61 hb) (hbox) ((ψ312 : w.heap.size ≤ gb10)) ((ψ312 : w.heap.size ≤ gb10)); clear HB; obtain ⟨HB, BK10, GW10, GE10⟩ := q; clear hb hbox hg; obtain ⟨y14_0, y14_1, y14_2, u14_0, u14_1, u14_2⟩ := cells3 BK10.out; have p907 : 0 ≤ (((rd_T71 l1 x11_1).f0) : Int) := of_decide_eq_true ψ2; have q907 : ((rd_T71 l1 x11_1).f0) < (l0.length : Int) := of_decide_eq_true ψ2; obtain ⟨ad907, A907_2, c907_2, A907_3, c907_3, e907, hx907_0, hx907_1, hx907_2, hx907_3, hl907_2, hi907_2, hl907_3, hi907_3⟩ := at_T42 HR0.out ((rd_T71 l1 x11_1).f0) p907 q907; cases e907; have hn907_0 : ad907.block ≠ gb10 := ψ332; have hn907_1 : ad907.block ≠ gb10 := ψ332; have hn907_2 : ad907.block ≠ gb10 := ψ332; replace hx907_0 := (HB.out.cell (World.block_lt_of_cell? w _ hx907_0)).trans hx907_0; replace hx907_1 := (HB.out.cell (World.block_lt_of_cell? w _ hx907_1)).trans hx907_1; replace hx907_2 := (HB.out.cell (World.block_lt_of_cell? w _ hx907_2)).trans hx907_2; replace hx907_3 := (HB.out.cell (World.block_lt_of_cell? w _ hx907_3)).trans hx907_3; have HR907_2 := Aside0.mk hi907_2; have HC907_2 := Aside0.mk hl907_2; clear hi907_2 hl907_2; have HR907_3 := Aside0.mk hi907_3; have HC907_3 := Aside0.mk hl907_3; clear hi907_3 hl907_3; replace hx907_0 := (cell_far (p := ⟨gb10, 0, none⟩) ψ139 (.int .i64 ((rd_T71 l1 x11_1).f0))).trans hx907_0; replace hx907_1 := (cell_far (p := ⟨gb10, 0, none⟩) ψ139 (.int .i64 ((rd_T71 l1 x11_1).f0))).trans hx907_1; replace hx907_2 := (cell_far (p := ⟨gb10, 0, none⟩) ψ139 (.int .i64 ((rd_T71 l1 x11_1).f0))).trans hx907_2; replace hx907_3 := (cell_far (p := ⟨gb10, 0, none⟩) ψ139 (.int .i64 ((rd_T71 l1 x11_1).f0))).trans hx907_3; replace hx907_0 := (cell_far (p := ⟨gb10, 1, none⟩) ψ140 (.slice A904_1 ((rd_T71 l1 x11_1).f1).length c904_1)).trans hx907_0; replace hx907_1 := (cell_far (p := ⟨gb10, 1, none⟩) ψ140 (.slice A904_1 ((rd_T71 l1 x11_1).f1).length c904_1)).trans hx907_1; replace hx907_2 := (cell_far (p := ⟨gb10, 1, none⟩) ψ140 (.slice A904_1 ((rd_T71 l1 x11_1).f1).length c904_1)).trans hx907_2; replace hx907_3 := (cell_far (p := ⟨gb10, 1, none⟩) ψ140 (.slice A904_1 ((rd_T71 l1 x11_1).f1).length c904_1)).trans hx907_3; replace hx907_0 := (cell_far (p := ⟨gb10, 2, none⟩) ψ141 (.slice A904_2 ((rd_T71 l1 x11_1).f2).length c904_2)).trans hx907_0; replace hx907_1 := (cell_far (p := ⟨gb10, 2, none⟩) ψ141 (.slice A904_2 ((rd_T71 l1 x11_1).f2).length c904_2)).trans hx907_1; replace hx907_2 := (cell_far (p := ⟨gb10, 2, none⟩) ψ141 (.slice A904_2 ((rd_T71 l1 x11_1).f2).length c904_2)).trans hx907_2; replace hx907_3 := (cell_far (p := ⟨gb10, 2, none⟩) ψ141 (.slice A904_2 ((rd_T71 l1 x11_1).f2).length c904_2)).trans hx907_3; clear hn907_0; clear hn907_1; clear hn907_2; replace p907 := eq_true p907; replace q907 := eq_true q907) | ((with_reducible refine gate_dst (N := 8) rfl ?_); refine bE 8 #[.int .i64 0, .int .i64 0, .slice none 0 0, .slice none 0 0] 42 ?_; intro gb11 hg w15 hbox hb; have q := n7_ (blk_below (g := gb10) (o := .cells #[.int .i64 ((rd_T71 l1 x11_1).f0), .slice A904_1 ((rd_T71 l1 x11_1).f1).length c904_1, .slice A904_2 ((rd_T71 l1 x11_1).f2).length c904_2] 71 (0, 0)) ψ142 hb) (below_step ψ61 hb) (hbox) ((ψ312 : w.heap.size ≤ gb11)) ((ψ312 : w.heap.size ≤ gb11)) ((ψ333 : gb10 ≠ gb11)) ((ψ334 : gb11 ≠ gb10)); clear BK10 HB; obtain ⟨BK10, HB, BK11, GW11, GE11, NB10_11, NB11_10⟩ := q; clear hb hbox hg; have hnb16 := NB11_10.out; have hnc16 := NB10_11.out; obtain ⟨y17_0, y17_1, y17_2, y17_3, u17_0, u17_1, u17_2, u17_3⟩ := cells4 BK11.out))
     have n0_ : Aside0 (((((w15.setCell ⟨gb11, 0, none⟩ (.int .i64 ((rd_T42 l0 ((rd_T71 l1 x11_1).f0)).f0))).setCell ⟨gb11, 1, none⟩ (.int .i64 ((rd_T42 l0 ((rd_T71 l1 x11_1).f0)).f1))).setCell ⟨gb11, 2, none⟩ (.slice A907_2 ((rd_T42 l0 ((rd_T71 l1 x11_1).f0)).f2).length c907_2)).setCell ⟨gb11, 3, none⟩ (.slice A907_3 ((rd_T42 l0 ((rd_T71 l1 x11_1).f0)).f3).length c907_3)).heap[gb10]? = some (.cells #[.int .i64 ((rd_T71 l1 x11_1).f0), .slice A904_1 ((rd_T71 l1 x11_1).f1).length c904_1, .slice A904_2 ((rd_T71 l1 x11_1).f2).length c904_2] 71 (0, 0))) := ⟨ψ143⟩
     have n1_ : Aside0 (((((w15.setCell ⟨gb11, 0, none⟩ (.int .i64 ((rd_T42 l0 ((rd_T71 l1 x11_1).f0)).f0))).setCell ⟨gb11, 1, none⟩ (.int .i64 ((rd_T42 l0 ((rd_T71 l1 x11_1).f0)).f1))).setCell ⟨gb11, 2, none⟩ (.slice A907_2 ((rd_T42 l0 ((rd_T71 l1 x11_1).f0)).f2).length c907_2)).setCell ⟨gb11, 3, none⟩ (.slice A907_3 ((rd_T42 l0 ((rd_T71 l1 x11_1).f0)).f3).length c907_3)).heap[gb11]? = some (.cells #[.int .i64 ((rd_T42 l0 ((rd_T71 l1 x11_1).f0)).f0), .int .i64 ((rd_T42 l0 ((rd_T71 l1 x11_1).f0)).f1), .slice A907_2 ((rd_T42 l0 ((rd_T71 l1 x11_1).f0)).f2).length c907_2, .slice A907_3 ((rd_T42 l0 ((rd_T71 l1 x11_1).f0)).f3).length c907_3] 42 (0, 0))) := ⟨ψ144⟩
     have n2_ : Aside0 (Below w.heap.size w ((((w15.setCell ⟨gb11, 0, none⟩ (.int .i64 ((rd_T42 l0 ((rd_T71 l1 x11_1).f0)).f0))).setCell ⟨gb11, 1, none⟩ (.int .i64 ((rd_T42 l0 ((rd_T71 l1 x11_1).f0)).f1))).setCell ⟨gb11, 2, none⟩ (.slice A907_2 ((rd_T42 l0 ((rd_T71 l1 x11_1).f0)).f2).length c907_2)).setCell ⟨gb11, 3, none⟩ (.slice A907_3 ((rd_T42 l0 ((rd_T71 l1 x11_1).f0)).f3).length c907_3))) := ⟨ψ61⟩
     (try clear BK10)
     (try clear BK11)
     (try clear HB)
     generalize ((((w15.setCell ⟨gb11, 0, none⟩ (.int .i64 ((rd_T42 l0 ((rd_T71 l1 x11_1).f0)).f0))).setCell ⟨gb11, 1, none⟩ (.int .i64 ((rd_T42 l0 ((rd_T71 l1 x11_1).f0)).f1))).setCell ⟨gb11, 2, none⟩ (.slice A907_2 ((rd_T42 l0 ((rd_T71 l1 x11_1).f0)).f2).length c907_2)).setCell ⟨gb11, 3, none⟩ (.slice A907_3 ((rd_T42 l0 ((rd_T71 l1 x11_1).f0)).f3).length c907_3)) = w18 at n0_ n1_ n2_ ⊢
     have BK10 := n0_
     have BK11 := n1_
     have HB := n2_
     clear n0_ n1_ n2_
     have q := n3_ (blk_drew BK10.out) (blk_drew BK11.out) (below_drew1 HB.out)
     clear BK10 BK11 HB
     obtain ⟨BK10, BK11, HB⟩ := q
     refine start_ (n := 13) (S := fun w' => w'.cell? ⟨gb10, 0, none⟩ = some (.int .i64 ((rd_T71 l1 x11_1).f0)) ∧ w'.cell? ⟨gb10, 1, none⟩ = some (.slice A904_1 ((rd_T71 l1 x11_1).f1).length c904_1) ∧ w'.cell? ⟨gb10, 2, none⟩ = some (.slice A904_2 ((rd_T71 l1 x11_1).f2).length c904_2)) (ds := []) #[false, false, false, false, false, false, false, false, false, false, false, false, false] ψ14 rfl rfl ⟨(blk_cell BK10.out 0).trans rfl, (blk_cell BK10.out 1).trans rfl, (blk_cell BK10.out 2).trans rfl⟩ (fun hHeld => ?_); refine with_tabW impl_stepsIn.tab9 impl_stepsIn.bits9 (fun HT_ HW_ => ?_)
     generalize w18.drew = w19 at BK10 BK11 HB hHeld ⊢
     refine rP 0 26 ?_; refine rP 1 27 ?_; refine rP 2 28 ?_; refine rP 5 31 ?_; refine rP 6 32 ?_; refine rT 3 29 ?_; refine rT 7 33 ?_
     refine one_ (i := 4) (N := some 30) #[true, true, true, true, true, true, true, true, false, false, false, false, false] rfl rfl (one_of HT_.out ψ14) ψ15 (fun K hK => ?_)
     refine goes_ Try.func64 ψ14 rfl #[.slice (some ad907) l0.length c0, .slice A904_1 ((rd_T71 l1 x11_1).f1).length c904_1] ψ16 rfl rfl ψ17 ?_
     with_reducible refine (ih k1 ψ53 _ _ l0 _ _ ((rd_T71 l1 x11_1).f1) t911 _ ?_ ?_ ?_ ?_ A9.out).mono ?_
     exact ψ65; exact HC0.out; exact ψ145; exact HC904_1.out
     rintro e w20 ⟨rfl, hb⟩
     refine ⟨_, rfl, ?_⟩
     have q := n3_ (blk_below (g := gb10) ψ23 hb) (blk_below (g := gb11) ψ34 hb) (below_step ψ61 hb)
     clear BK10 BK11 HB
     obtain ⟨BK10, BK11, HB⟩ := q
     (try clear hb)
     refine hK.out _ _ ⟨(blk_cell BK10.out 0).trans rfl, (blk_cell BK10.out 1).trans rfl, (blk_cell BK10.out 2).trans rfl⟩ (fun hHeld => ?_)
     clear hK K
     refine rN 30 ?_
     refine one_ (i := 8) (N := some 34) #[true, true, true, true, true, true, true, true, true, false, false, false, false] rfl rfl (one_of HT_.out ψ14) ψ15 (fun K hK => ?_)
     refine goes_ Try.func64 ψ14 rfl #[.slice (some ad907) l0.length c0, .slice A904_2 ((rd_T71 l1 x11_1).f2).length c904_2] ψ16 rfl rfl ψ17 ?_
     with_reducible refine (ih k1 ψ53 _ _ l0 _ _ ((rd_T71 l1 x11_1).f2) t913 _ ?_ ?_ ?_ ?_ A10.out).mono ?_
     exact ψ65; exact HC0.out; exact ψ146; exact HC904_2.out
     rintro e w21 ⟨rfl, hb⟩
     refine ⟨_, rfl, ?_⟩
     have q := n3_ (blk_below (g := gb10) ψ23 hb) (blk_below (g := gb11) ψ34 hb) (below_step ψ61 hb)
     clear BK10 BK11 HB
     obtain ⟨BK10, BK11, HB⟩ := q
     (try clear hb)
     refine hK.out _ _ ⟨(blk_cell BK10.out 0).trans rfl, (blk_cell BK10.out 1).trans rfl, (blk_cell BK10.out 2).trans rfl⟩ (fun hHeld => ?_)
     clear hK K
     refine rN 34 ?_; refine rP 9 35 ?_; refine rP 10 36 ?_; refine rP 11 37 ?_; refine rP 12 5 ?_
     refine done_ (done_of HT_.out ψ14) ?_
     try go_wp2
     go_roundg k1
     case measure => have := HK1.out; omega
     case rel => exact ⟨(ji12), (wrap64 (x11_1 + 1)), (by first | rfl | (simp; done) | (simp only [← hji12] <;> (first | rfl | simp)) | (simp [*]; done)), ψ0, H', ⟨ψ53⟩, ⟨ψ61⟩⟩
    ·by_cases c22 : ((rd_T42 l0 ((rd_T71 l1 x11_1).f0)).f0) = 5
     ·rw [if_pos c22] at H
      have c22b0 : (((rd_T42 l0 ((rd_T71 l1 x11_1).f0)).f0) == 5) = true := beq_iff_eq.mpr c22
      have c22b1 : (((rd_T42 l0 ((rd_T71 l1 x11_1).f0)).f0) != 5) = false := bne_eq_false_iff_eq.mpr c22
      clear c22
      replace H := Option.bind_eq_some_iff.mp H
      obtain ⟨t916, A230, H⟩ := H
      have A23 := Aside0.mk A230
      clear A230
      obtain ⟨ji24, hji24⟩ : ∃ j_ : Int, (mn (wrap64 (x5_1 + (wrap64 (1 + (wrap64 (((rd_T42 l0 ((rd_T71 l1 x11_1).f0)).f1) * (wrap64 (1 + t916)))))))) 4000) = j_ := ⟨_, rfl⟩
      replace H : (impl_stepsIn.l0 k1 l0 ji24 l1 (l1.length : Int) (wrap64 (x11_1 + 1))) = some r := by first | (rw [hji24] at H; exact H) | (simp only [hji24] at H ⊢; exact H)
      (try rw [hji24] at A23)
      have hji24_ : (if 4000 < (wrap64 (x5_1 + (wrap64 (1 + (wrap64 (((rd_T42 l0 ((rd_T71 l1 x11_1).f0)).f1) * (wrap64 (1 + t916)))))))) then 4000 else (wrap64 (x5_1 + (wrap64 (1 + (wrap64 (((rd_T42 l0 ((rd_T71 l1 x11_1).f0)).f1) * (wrap64 (1 + t916))))))))) = ji24 := hji24
      have H' := Aside0.mk H
      clear H
      have p904 : 0 ≤ (x11_1 : Int) := of_decide_eq_true ψ2
      have q904 : x11_1 < (l1.length : Int) := of_decide_eq_true ψ2
      obtain ⟨ad904, A904_1, c904_1, A904_2, c904_2, e904, hx904_0, hx904_1, hx904_2, hl904_1, hi904_1, hl904_2, hi904_2⟩ := at_T71 HR1.out x11_1 p904 q904
      cases e904
      replace hx904_0 := (HB.out.cell (World.block_lt_of_cell? w _ hx904_0)).trans hx904_0
      replace hx904_1 := (HB.out.cell (World.block_lt_of_cell? w _ hx904_1)).trans hx904_1
      replace hx904_2 := (HB.out.cell (World.block_lt_of_cell? w _ hx904_2)).trans hx904_2
      have HR904_1 := Aside0.mk hi904_1
      have HC904_1 := Aside0.mk hl904_1
      clear hi904_1 hl904_1
      have HR904_2 := Aside0.mk hi904_2
      have HC904_2 := Aside0.mk hl904_2
      clear hi904_2 hl904_2
      replace p904 := eq_true p904
      replace q904 := eq_true q904
      try go_wp2_with (first | ((with_reducible refine gate_dst (N := 7) rfl ?_); refine bE 7 #[.int .i64 0, .slice none 0 0, .slice none 0 0] 71 ?_; intro gb10 hg w25 hbox hb; have q := n4_ (below_step ψ61 hb) (hbox) ((ψ312 : w.heap.size ≤ gb10)) ((ψ312 : w.heap.size ≤ gb10)); clear HB; obtain ⟨HB, BK10, GW10, GE10⟩ := q; clear hb hbox hg; obtain ⟨y26_0, y26_1, y26_2, u26_0, u26_1, u26_2⟩ := cells3 BK10.out; have p907 : 0 ≤ (((rd_T71 l1 x11_1).f0) : Int) := of_decide_eq_true ψ2; have q907 : ((rd_T71 l1 x11_1).f0) < (l0.length : Int) := of_decide_eq_true ψ2; obtain ⟨ad907, A907_2, c907_2, A907_3, c907_3, e907, hx907_0, hx907_1, hx907_2, hx907_3, hl907_2, hi907_2, hl907_3, hi907_3⟩ := at_T42 HR0.out ((rd_T71 l1 x11_1).f0) p907 q907; cases e907; have hn907_0 : ad907.block ≠ gb10 := ψ332; have hn907_1 : ad907.block ≠ gb10 := ψ332; have hn907_2 : ad907.block ≠ gb10 := ψ332; replace hx907_0 := (HB.out.cell (World.block_lt_of_cell? w _ hx907_0)).trans hx907_0; replace hx907_1 := (HB.out.cell (World.block_lt_of_cell? w _ hx907_1)).trans hx907_1; replace hx907_2 := (HB.out.cell (World.block_lt_of_cell? w _ hx907_2)).trans hx907_2; replace hx907_3 := (HB.out.cell (World.block_lt_of_cell? w _ hx907_3)).trans hx907_3; have HR907_2 := Aside0.mk hi907_2; have HC907_2 := Aside0.mk hl907_2; clear hi907_2 hl907_2; have HR907_3 := Aside0.mk hi907_3; have HC907_3 := Aside0.mk hl907_3; clear hi907_3 hl907_3; replace hx907_0 := (cell_far (p := ⟨gb10, 0, none⟩) ψ139 (.int .i64 ((rd_T71 l1 x11_1).f0))).trans hx907_0; replace hx907_1 := (cell_far (p := ⟨gb10, 0, none⟩) ψ139 (.int .i64 ((rd_T71 l1 x11_1).f0))).trans hx907_1; replace hx907_2 := (cell_far (p := ⟨gb10, 0, none⟩) ψ139 (.int .i64 ((rd_T71 l1 x11_1).f0))).trans hx907_2; replace hx907_3 := (cell_far (p := ⟨gb10, 0, none⟩) ψ139 (.int .i64 ((rd_T71 l1 x11_1).f0))).trans hx907_3; replace hx907_0 := (cell_far (p := ⟨gb10, 1, none⟩) ψ140 (.slice A904_1 ((rd_T71 l1 x11_1).f1).length c904_1)).trans hx907_0; replace hx907_1 := (cell_far (p := ⟨gb10, 1, none⟩) ψ140 (.slice A904_1 ((rd_T71 l1 x11_1).f1).length c904_1)).trans hx907_1; replace hx907_2 := (cell_far (p := ⟨gb10, 1, none⟩) ψ140 (.slice A904_1 ((rd_T71 l1 x11_1).f1).length c904_1)).trans hx907_2; replace hx907_3 := (cell_far (p := ⟨gb10, 1, none⟩) ψ140 (.slice A904_1 ((rd_T71 l1 x11_1).f1).length c904_1)).trans hx907_3; replace hx907_0 := (cell_far (p := ⟨gb10, 2, none⟩) ψ141 (.slice A904_2 ((rd_T71 l1 x11_1).f2).length c904_2)).trans hx907_0; replace hx907_1 := (cell_far (p := ⟨gb10, 2, none⟩) ψ141 (.slice A904_2 ((rd_T71 l1 x11_1).f2).length c904_2)).trans hx907_1; replace hx907_2 := (cell_far (p := ⟨gb10, 2, none⟩) ψ141 (.slice A904_2 ((rd_T71 l1 x11_1).f2).length c904_2)).trans hx907_2; replace hx907_3 := (cell_far (p := ⟨gb10, 2, none⟩) ψ141 (.slice A904_2 ((rd_T71 l1 x11_1).f2).length c904_2)).trans hx907_3; clear hn907_0; clear hn907_1; clear hn907_2; replace p907 := eq_true p907; replace q907 := eq_true q907) | ((with_reducible refine gate_dst (N := 8) rfl ?_); refine bE 8 #[.int .i64 0, .int .i64 0, .slice none 0 0, .slice none 0 0] 42 ?_; intro gb11 hg w27 hbox hb; have q := n7_ (blk_below (g := gb10) (o := .cells #[.int .i64 ((rd_T71 l1 x11_1).f0), .slice A904_1 ((rd_T71 l1 x11_1).f1).length c904_1, .slice A904_2 ((rd_T71 l1 x11_1).f2).length c904_2] 71 (0, 0)) ψ142 hb) (below_step ψ61 hb) (hbox) ((ψ312 : w.heap.size ≤ gb11)) ((ψ312 : w.heap.size ≤ gb11)) ((ψ333 : gb10 ≠ gb11)) ((ψ334 : gb11 ≠ gb10)); clear BK10 HB; obtain ⟨BK10, HB, BK11, GW11, GE11, NB10_11, NB11_10⟩ := q; clear hb hbox hg; have hnb28 := NB11_10.out; have hnc28 := NB10_11.out; obtain ⟨y29_0, y29_1, y29_2, y29_3, u29_0, u29_1, u29_2, u29_3⟩ := cells4 BK11.out))
      have n0_ : Aside0 (((((w27.setCell ⟨gb11, 0, none⟩ (.int .i64 ((rd_T42 l0 ((rd_T71 l1 x11_1).f0)).f0))).setCell ⟨gb11, 1, none⟩ (.int .i64 ((rd_T42 l0 ((rd_T71 l1 x11_1).f0)).f1))).setCell ⟨gb11, 2, none⟩ (.slice A907_2 ((rd_T42 l0 ((rd_T71 l1 x11_1).f0)).f2).length c907_2)).setCell ⟨gb11, 3, none⟩ (.slice A907_3 ((rd_T42 l0 ((rd_T71 l1 x11_1).f0)).f3).length c907_3)).heap[gb10]? = some (.cells #[.int .i64 ((rd_T71 l1 x11_1).f0), .slice A904_1 ((rd_T71 l1 x11_1).f1).length c904_1, .slice A904_2 ((rd_T71 l1 x11_1).f2).length c904_2] 71 (0, 0))) := ⟨ψ143⟩
      have n1_ : Aside0 (((((w27.setCell ⟨gb11, 0, none⟩ (.int .i64 ((rd_T42 l0 ((rd_T71 l1 x11_1).f0)).f0))).setCell ⟨gb11, 1, none⟩ (.int .i64 ((rd_T42 l0 ((rd_T71 l1 x11_1).f0)).f1))).setCell ⟨gb11, 2, none⟩ (.slice A907_2 ((rd_T42 l0 ((rd_T71 l1 x11_1).f0)).f2).length c907_2)).setCell ⟨gb11, 3, none⟩ (.slice A907_3 ((rd_T42 l0 ((rd_T71 l1 x11_1).f0)).f3).length c907_3)).heap[gb11]? = some (.cells #[.int .i64 ((rd_T42 l0 ((rd_T71 l1 x11_1).f0)).f0), .int .i64 ((rd_T42 l0 ((rd_T71 l1 x11_1).f0)).f1), .slice A907_2 ((rd_T42 l0 ((rd_T71 l1 x11_1).f0)).f2).length c907_2, .slice A907_3 ((rd_T42 l0 ((rd_T71 l1 x11_1).f0)).f3).length c907_3] 42 (0, 0))) := ⟨ψ144⟩
      have n2_ : Aside0 (Below w.heap.size w ((((w27.setCell ⟨gb11, 0, none⟩ (.int .i64 ((rd_T42 l0 ((rd_T71 l1 x11_1).f0)).f0))).setCell ⟨gb11, 1, none⟩ (.int .i64 ((rd_T42 l0 ((rd_T71 l1 x11_1).f0)).f1))).setCell ⟨gb11, 2, none⟩ (.slice A907_2 ((rd_T42 l0 ((rd_T71 l1 x11_1).f0)).f2).length c907_2)).setCell ⟨gb11, 3, none⟩ (.slice A907_3 ((rd_T42 l0 ((rd_T71 l1 x11_1).f0)).f3).length c907_3))) := ⟨ψ61⟩
      (try clear BK10)
      (try clear BK11)
      (try clear HB)
      generalize ((((w27.setCell ⟨gb11, 0, none⟩ (.int .i64 ((rd_T42 l0 ((rd_T71 l1 x11_1).f0)).f0))).setCell ⟨gb11, 1, none⟩ (.int .i64 ((rd_T42 l0 ((rd_T71 l1 x11_1).f0)).f1))).setCell ⟨gb11, 2, none⟩ (.slice A907_2 ((rd_T42 l0 ((rd_T71 l1 x11_1).f0)).f2).length c907_2)).setCell ⟨gb11, 3, none⟩ (.slice A907_3 ((rd_T42 l0 ((rd_T71 l1 x11_1).f0)).f3).length c907_3)) = w30 at n0_ n1_ n2_ ⊢
      have BK10 := n0_
      have BK11 := n1_
      have HB := n2_
      clear n0_ n1_ n2_
      have q := n3_ (blk_drew BK10.out) (blk_drew BK11.out) (below_drew1 HB.out)
      clear BK10 BK11 HB
      obtain ⟨BK10, BK11, HB⟩ := q
      refine start_ (n := 12) (S := fun w' => w'.cell? ⟨gb11, 0, none⟩ = some (.int .i64 ((rd_T42 l0 ((rd_T71 l1 x11_1).f0)).f0)) ∧ w'.cell? ⟨gb11, 1, none⟩ = some (.int .i64 ((rd_T42 l0 ((rd_T71 l1 x11_1).f0)).f1)) ∧ w'.cell? ⟨gb11, 2, none⟩ = some (.slice A907_2 ((rd_T42 l0 ((rd_T71 l1 x11_1).f0)).f2).length c907_2) ∧ w'.cell? ⟨gb11, 3, none⟩ = some (.slice A907_3 ((rd_T42 l0 ((rd_T71 l1 x11_1).f0)).f3).length c907_3) ∧ w'.cell? ⟨gb10, 0, none⟩ = some (.int .i64 ((rd_T71 l1 x11_1).f0)) ∧ w'.cell? ⟨gb10, 1, none⟩ = some (.slice A904_1 ((rd_T71 l1 x11_1).f1).length c904_1) ∧ w'.cell? ⟨gb10, 2, none⟩ = some (.slice A904_2 ((rd_T71 l1 x11_1).f2).length c904_2)) (ds := []) #[false, false, false, false, false, false, false, false, false, false, false, false] ψ14 rfl rfl ⟨(blk_cell BK11.out 0).trans rfl, (blk_cell BK11.out 1).trans rfl, (blk_cell BK11.out 2).trans rfl, (blk_cell BK11.out 3).trans rfl, (blk_cell BK10.out 0).trans rfl, (blk_cell BK10.out 1).trans rfl, (blk_cell BK10.out 2).trans rfl⟩ (fun hHeld => ?_); refine with_tabW impl_stepsIn.tab11 impl_stepsIn.bits11 (fun HT_ HW_ => ?_)
      generalize w30.drew = w31 at BK10 BK11 HB hHeld ⊢
      refine rP 0 40 ?_; refine rP 1 41 ?_; refine rP 3 43 ?_; refine rP 4 44 ?_; refine rT 2 42 ?_; refine rT 5 45 ?_
      refine one_ (i := 6) (N := some 46) #[true, true, true, true, true, true, true, false, false, false, false, false] rfl rfl (one_of HT_.out ψ14) ψ15 (fun K hK => ?_)
      refine goes_ Try.func64 ψ14 rfl #[.slice (some ad907) l0.length c0, .slice A904_1 ((rd_T71 l1 x11_1).f1).length c904_1] ψ16 rfl rfl ψ17 ?_
      with_reducible refine (ih k1 ψ53 _ _ l0 _ _ ((rd_T71 l1 x11_1).f1) t916 _ ?_ ?_ ?_ ?_ A23.out).mono ?_
      exact ψ65; exact HC0.out; exact ψ145; exact HC904_1.out
      rintro e w32 ⟨rfl, hb⟩
      refine ⟨_, rfl, ?_⟩
      have q := n3_ (blk_below (g := gb10) ψ23 hb) (blk_below (g := gb11) ψ34 hb) (below_step ψ61 hb)
      clear BK10 BK11 HB
      obtain ⟨BK10, BK11, HB⟩ := q
      (try clear hb)
      refine hK.out _ _ ⟨(blk_cell BK11.out 0).trans rfl, (blk_cell BK11.out 1).trans rfl, (blk_cell BK11.out 2).trans rfl, (blk_cell BK11.out 3).trans rfl, (blk_cell BK10.out 0).trans rfl, (blk_cell BK10.out 1).trans rfl, (blk_cell BK10.out 2).trans rfl⟩ (fun hHeld => ?_)
      clear hK K
      refine rN 46 ?_; refine rP 7 47 ?_; refine rP 8 48 ?_; refine rP 9 49 ?_; refine rP 10 50 ?_; refine rP 11 5 ?_
      refine done_ (done_of HT_.out ψ14) ?_
      try go_wp2
      go_roundg k1
      case measure => have := HK1.out; omega
      case rel => exact ⟨(ji24), (wrap64 (x11_1 + 1)), (by first | rfl | (simp; done) | (simp only [← hji24] <;> (first | rfl | simp)) | (simp [*]; done)), ψ0, H', ⟨ψ53⟩, ⟨ψ61⟩⟩
     ·rw [if_neg c22] at H
      have c22b0 : (((rd_T42 l0 ((rd_T71 l1 x11_1).f0)).f0) == 5) = false := beq_eq_false_iff_ne.mpr c22
      have c22b1 : (((rd_T42 l0 ((rd_T71 l1 x11_1).f0)).f0) != 5) = true := bne_iff_ne.mpr c22
      replace H := ifF H; rcases H with ⟨c33b0, c33b1, H⟩ | ⟨c33b0, c33b1, c33, H⟩
      ·replace H := Option.bind_eq_some_iff.mp H
       obtain ⟨t918, A340, H⟩ := H
       have A34 := Aside0.mk A340
       clear A340
       replace H := Option.bind_eq_some_iff.mp H
       obtain ⟨t920, A350, H⟩ := H
       have A35 := Aside0.mk A350
       clear A350
       obtain ⟨ji36, hji36⟩ : ∃ j_ : Int, (mn (wrap64 (x5_1 + (wrap64 ((wrap64 (1 + t918)) + t920)))) 4000) = j_ := ⟨_, rfl⟩
       replace H : (impl_stepsIn.l0 k1 l0 ji36 l1 (l1.length : Int) (wrap64 (x11_1 + 1))) = some r := by first | (rw [hji36] at H; exact H) | (simp only [hji36] at H ⊢; exact H)
       (try rw [hji36] at A34)
       (try rw [hji36] at A35)
       have hji36_ : (if 4000 < (wrap64 (x5_1 + (wrap64 ((wrap64 (1 + t918)) + t920)))) then 4000 else (wrap64 (x5_1 + (wrap64 ((wrap64 (1 + t918)) + t920))))) = ji36 := hji36
       have H' := Aside0.mk H
       clear H
       have p904 : 0 ≤ (x11_1 : Int) := of_decide_eq_true ψ2
       have q904 : x11_1 < (l1.length : Int) := of_decide_eq_true ψ2
       obtain ⟨ad904, A904_1, c904_1, A904_2, c904_2, e904, hx904_0, hx904_1, hx904_2, hl904_1, hi904_1, hl904_2, hi904_2⟩ := at_T71 HR1.out x11_1 p904 q904
       cases e904
       replace hx904_0 := (HB.out.cell (World.block_lt_of_cell? w _ hx904_0)).trans hx904_0
       replace hx904_1 := (HB.out.cell (World.block_lt_of_cell? w _ hx904_1)).trans hx904_1
       replace hx904_2 := (HB.out.cell (World.block_lt_of_cell? w _ hx904_2)).trans hx904_2
       have HR904_1 := Aside0.mk hi904_1
       have HC904_1 := Aside0.mk hl904_1
       clear hi904_1 hl904_1
       have HR904_2 := Aside0.mk hi904_2
       have HC904_2 := Aside0.mk hl904_2
       clear hi904_2 hl904_2
       replace p904 := eq_true p904
       replace q904 := eq_true q904
       try go_wp2_with (first | ((with_reducible refine gate_dst (N := 7) rfl ?_); refine bE 7 #[.int .i64 0, .slice none 0 0, .slice none 0 0] 71 ?_; intro gb10 hg w37 hbox hb; have q := n4_ (below_step ψ61 hb) (hbox) ((ψ312 : w.heap.size ≤ gb10)) ((ψ312 : w.heap.size ≤ gb10)); clear HB; obtain ⟨HB, BK10, GW10, GE10⟩ := q; clear hb hbox hg; obtain ⟨y38_0, y38_1, y38_2, u38_0, u38_1, u38_2⟩ := cells3 BK10.out; have p907 : 0 ≤ (((rd_T71 l1 x11_1).f0) : Int) := of_decide_eq_true ψ2; have q907 : ((rd_T71 l1 x11_1).f0) < (l0.length : Int) := of_decide_eq_true ψ2; obtain ⟨ad907, A907_2, c907_2, A907_3, c907_3, e907, hx907_0, hx907_1, hx907_2, hx907_3, hl907_2, hi907_2, hl907_3, hi907_3⟩ := at_T42 HR0.out ((rd_T71 l1 x11_1).f0) p907 q907; cases e907; have hn907_0 : ad907.block ≠ gb10 := ψ332; have hn907_1 : ad907.block ≠ gb10 := ψ332; have hn907_2 : ad907.block ≠ gb10 := ψ332; replace hx907_0 := (HB.out.cell (World.block_lt_of_cell? w _ hx907_0)).trans hx907_0; replace hx907_1 := (HB.out.cell (World.block_lt_of_cell? w _ hx907_1)).trans hx907_1; replace hx907_2 := (HB.out.cell (World.block_lt_of_cell? w _ hx907_2)).trans hx907_2; replace hx907_3 := (HB.out.cell (World.block_lt_of_cell? w _ hx907_3)).trans hx907_3; have HR907_2 := Aside0.mk hi907_2; have HC907_2 := Aside0.mk hl907_2; clear hi907_2 hl907_2; have HR907_3 := Aside0.mk hi907_3; have HC907_3 := Aside0.mk hl907_3; clear hi907_3 hl907_3; replace hx907_0 := (cell_far (p := ⟨gb10, 0, none⟩) ψ139 (.int .i64 ((rd_T71 l1 x11_1).f0))).trans hx907_0; replace hx907_1 := (cell_far (p := ⟨gb10, 0, none⟩) ψ139 (.int .i64 ((rd_T71 l1 x11_1).f0))).trans hx907_1; replace hx907_2 := (cell_far (p := ⟨gb10, 0, none⟩) ψ139 (.int .i64 ((rd_T71 l1 x11_1).f0))).trans hx907_2; replace hx907_3 := (cell_far (p := ⟨gb10, 0, none⟩) ψ139 (.int .i64 ((rd_T71 l1 x11_1).f0))).trans hx907_3; replace hx907_0 := (cell_far (p := ⟨gb10, 1, none⟩) ψ140 (.slice A904_1 ((rd_T71 l1 x11_1).f1).length c904_1)).trans hx907_0; replace hx907_1 := (cell_far (p := ⟨gb10, 1, none⟩) ψ140 (.slice A904_1 ((rd_T71 l1 x11_1).f1).length c904_1)).trans hx907_1; replace hx907_2 := (cell_far (p := ⟨gb10, 1, none⟩) ψ140 (.slice A904_1 ((rd_T71 l1 x11_1).f1).length c904_1)).trans hx907_2; replace hx907_3 := (cell_far (p := ⟨gb10, 1, none⟩) ψ140 (.slice A904_1 ((rd_T71 l1 x11_1).f1).length c904_1)).trans hx907_3; replace hx907_0 := (cell_far (p := ⟨gb10, 2, none⟩) ψ141 (.slice A904_2 ((rd_T71 l1 x11_1).f2).length c904_2)).trans hx907_0; replace hx907_1 := (cell_far (p := ⟨gb10, 2, none⟩) ψ141 (.slice A904_2 ((rd_T71 l1 x11_1).f2).length c904_2)).trans hx907_1; replace hx907_2 := (cell_far (p := ⟨gb10, 2, none⟩) ψ141 (.slice A904_2 ((rd_T71 l1 x11_1).f2).length c904_2)).trans hx907_2; replace hx907_3 := (cell_far (p := ⟨gb10, 2, none⟩) ψ141 (.slice A904_2 ((rd_T71 l1 x11_1).f2).length c904_2)).trans hx907_3; clear hn907_0; clear hn907_1; clear hn907_2; replace p907 := eq_true p907; replace q907 := eq_true q907) | ((with_reducible refine gate_dst (N := 8) rfl ?_); refine bE 8 #[.int .i64 0, .int .i64 0, .slice none 0 0, .slice none 0 0] 42 ?_; intro gb11 hg w39 hbox hb; have q := n7_ (blk_below (g := gb10) (o := .cells #[.int .i64 ((rd_T71 l1 x11_1).f0), .slice A904_1 ((rd_T71 l1 x11_1).f1).length c904_1, .slice A904_2 ((rd_T71 l1 x11_1).f2).length c904_2] 71 (0, 0)) ψ142 hb) (below_step ψ61 hb) (hbox) ((ψ312 : w.heap.size ≤ gb11)) ((ψ312 : w.heap.size ≤ gb11)) ((ψ333 : gb10 ≠ gb11)) ((ψ334 : gb11 ≠ gb10)); clear BK10 HB; obtain ⟨BK10, HB, BK11, GW11, GE11, NB10_11, NB11_10⟩ := q; clear hb hbox hg; have hnb40 := NB11_10.out; have hnc40 := NB10_11.out; obtain ⟨y41_0, y41_1, y41_2, y41_3, u41_0, u41_1, u41_2, u41_3⟩ := cells4 BK11.out))
       have n0_ : Aside0 (((((w39.setCell ⟨gb11, 0, none⟩ (.int .i64 ((rd_T42 l0 ((rd_T71 l1 x11_1).f0)).f0))).setCell ⟨gb11, 1, none⟩ (.int .i64 ((rd_T42 l0 ((rd_T71 l1 x11_1).f0)).f1))).setCell ⟨gb11, 2, none⟩ (.slice A907_2 ((rd_T42 l0 ((rd_T71 l1 x11_1).f0)).f2).length c907_2)).setCell ⟨gb11, 3, none⟩ (.slice A907_3 ((rd_T42 l0 ((rd_T71 l1 x11_1).f0)).f3).length c907_3)).heap[gb10]? = some (.cells #[.int .i64 ((rd_T71 l1 x11_1).f0), .slice A904_1 ((rd_T71 l1 x11_1).f1).length c904_1, .slice A904_2 ((rd_T71 l1 x11_1).f2).length c904_2] 71 (0, 0))) := ⟨ψ143⟩
       have n1_ : Aside0 (((((w39.setCell ⟨gb11, 0, none⟩ (.int .i64 ((rd_T42 l0 ((rd_T71 l1 x11_1).f0)).f0))).setCell ⟨gb11, 1, none⟩ (.int .i64 ((rd_T42 l0 ((rd_T71 l1 x11_1).f0)).f1))).setCell ⟨gb11, 2, none⟩ (.slice A907_2 ((rd_T42 l0 ((rd_T71 l1 x11_1).f0)).f2).length c907_2)).setCell ⟨gb11, 3, none⟩ (.slice A907_3 ((rd_T42 l0 ((rd_T71 l1 x11_1).f0)).f3).length c907_3)).heap[gb11]? = some (.cells #[.int .i64 ((rd_T42 l0 ((rd_T71 l1 x11_1).f0)).f0), .int .i64 ((rd_T42 l0 ((rd_T71 l1 x11_1).f0)).f1), .slice A907_2 ((rd_T42 l0 ((rd_T71 l1 x11_1).f0)).f2).length c907_2, .slice A907_3 ((rd_T42 l0 ((rd_T71 l1 x11_1).f0)).f3).length c907_3] 42 (0, 0))) := ⟨ψ144⟩
       have n2_ : Aside0 (Below w.heap.size w ((((w39.setCell ⟨gb11, 0, none⟩ (.int .i64 ((rd_T42 l0 ((rd_T71 l1 x11_1).f0)).f0))).setCell ⟨gb11, 1, none⟩ (.int .i64 ((rd_T42 l0 ((rd_T71 l1 x11_1).f0)).f1))).setCell ⟨gb11, 2, none⟩ (.slice A907_2 ((rd_T42 l0 ((rd_T71 l1 x11_1).f0)).f2).length c907_2)).setCell ⟨gb11, 3, none⟩ (.slice A907_3 ((rd_T42 l0 ((rd_T71 l1 x11_1).f0)).f3).length c907_3))) := ⟨ψ61⟩
       (try clear BK10)
       (try clear BK11)
       (try clear HB)
       generalize ((((w39.setCell ⟨gb11, 0, none⟩ (.int .i64 ((rd_T42 l0 ((rd_T71 l1 x11_1).f0)).f0))).setCell ⟨gb11, 1, none⟩ (.int .i64 ((rd_T42 l0 ((rd_T71 l1 x11_1).f0)).f1))).setCell ⟨gb11, 2, none⟩ (.slice A907_2 ((rd_T42 l0 ((rd_T71 l1 x11_1).f0)).f2).length c907_2)).setCell ⟨gb11, 3, none⟩ (.slice A907_3 ((rd_T42 l0 ((rd_T71 l1 x11_1).f0)).f3).length c907_3)) = w42 at n0_ n1_ n2_ ⊢
       have BK10 := n0_
       have BK11 := n1_
       have HB := n2_
       clear n0_ n1_ n2_
       have q := n3_ (blk_drew BK10.out) (blk_drew BK11.out) (below_drew1 HB.out)
       clear BK10 BK11 HB
       obtain ⟨BK10, BK11, HB⟩ := q
       refine start_ (n := 13) (S := fun w' => w'.cell? ⟨gb10, 0, none⟩ = some (.int .i64 ((rd_T71 l1 x11_1).f0)) ∧ w'.cell? ⟨gb10, 1, none⟩ = some (.slice A904_1 ((rd_T71 l1 x11_1).f1).length c904_1) ∧ w'.cell? ⟨gb10, 2, none⟩ = some (.slice A904_2 ((rd_T71 l1 x11_1).f2).length c904_2)) (ds := []) #[false, false, false, false, false, false, false, false, false, false, false, false, false] ψ14 rfl rfl ⟨(blk_cell BK10.out 0).trans rfl, (blk_cell BK10.out 1).trans rfl, (blk_cell BK10.out 2).trans rfl⟩ (fun hHeld => ?_); refine with_tabW impl_stepsIn.tab13 impl_stepsIn.bits13 (fun HT_ HW_ => ?_)
       generalize w42.drew = w43 at BK10 BK11 HB hHeld ⊢
       refine rP 0 53 ?_; refine rP 1 54 ?_; refine rP 2 55 ?_; refine rP 6 59 ?_; refine rP 7 60 ?_; refine rT 3 56 ?_; refine rT 8 61 ?_
       refine one_ (i := 4) (N := some 57) #[true, true, true, true, true, false, true, true, true, false, false, false, false] rfl rfl (one_of HT_.out ψ14) ψ15 (fun K hK => ?_)
       refine goes_ Try.func64 ψ14 rfl #[.slice (some ad907) l0.length c0, .slice A904_1 ((rd_T71 l1 x11_1).f1).length c904_1] ψ16 rfl rfl ψ17 ?_
       with_reducible refine (ih k1 ψ53 _ _ l0 _ _ ((rd_T71 l1 x11_1).f1) t918 _ ?_ ?_ ?_ ?_ A34.out).mono ?_
       exact ψ65; exact HC0.out; exact ψ145; exact HC904_1.out
       rintro e w44 ⟨rfl, hb⟩
       refine ⟨_, rfl, ?_⟩
       have q := n3_ (blk_below (g := gb10) ψ23 hb) (blk_below (g := gb11) ψ34 hb) (below_step ψ61 hb)
       clear BK10 BK11 HB
       obtain ⟨BK10, BK11, HB⟩ := q
       (try clear hb)
       refine hK.out _ _ ⟨(blk_cell BK10.out 0).trans rfl, (blk_cell BK10.out 1).trans rfl, (blk_cell BK10.out 2).trans rfl⟩ (fun hHeld => ?_)
       clear hK K
       refine rN 57 ?_; refine rP 5 58 ?_
       refine one_ (i := 9) (N := some 62) #[true, true, true, true, true, true, true, true, true, true, false, false, false] rfl rfl (one_of HT_.out ψ14) ψ15 (fun K hK => ?_)
       refine goes_ Try.func64 ψ14 rfl #[.slice (some ad907) l0.length c0, .slice A904_2 ((rd_T71 l1 x11_1).f2).length c904_2] ψ16 rfl rfl ψ17 ?_
       with_reducible refine (ih k1 ψ53 _ _ l0 _ _ ((rd_T71 l1 x11_1).f2) t920 _ ?_ ?_ ?_ ?_ A35.out).mono ?_
       exact ψ65; exact HC0.out; exact ψ146; exact HC904_2.out
       rintro e w45 ⟨rfl, hb⟩
       refine ⟨_, rfl, ?_⟩
       have q := n3_ (blk_below (g := gb10) ψ23 hb) (blk_below (g := gb11) ψ34 hb) (below_step ψ61 hb)
       clear BK10 BK11 HB
       obtain ⟨BK10, BK11, HB⟩ := q
       (try clear hb)
       refine hK.out _ _ ⟨(blk_cell BK10.out 0).trans rfl, (blk_cell BK10.out 1).trans rfl, (blk_cell BK10.out 2).trans rfl⟩ (fun hHeld => ?_)
       clear hK K
       refine rN 62 ?_; refine rP 10 63 ?_; refine rP 11 64 ?_; refine rP 12 5 ?_
       refine done_ (done_of HT_.out ψ14) ?_
       try go_wp2
       go_roundg k1
       case measure => have := HK1.out; omega
       case rel => exact ⟨(ji36), (wrap64 (x11_1 + 1)), (by first | rfl | (simp; done) | (simp only [← hji36] <;> (first | rfl | simp)) | (simp [*]; done)), ψ0, H', ⟨ψ53⟩, ⟨ψ61⟩⟩
      ·obtain ⟨ji46, hji46⟩ : ∃ j_ : Int, (mn (wrap64 (x5_1 + 1)) 4000) = j_ := ⟨_, rfl⟩
       replace H : (impl_stepsIn.l0 k1 l0 ji46 l1 (l1.length : Int) (wrap64 (x11_1 + 1))) = some r := by first | (rw [hji46] at H; exact H) | (simp only [hji46] at H ⊢; exact H)
       have hji46_ : (if 4000 < (wrap64 (x5_1 + 1)) then 4000 else (wrap64 (x5_1 + 1))) = ji46 := hji46
       have H' := Aside0.mk H
       clear H
       have p904 : 0 ≤ (x11_1 : Int) := of_decide_eq_true ψ2
       have q904 : x11_1 < (l1.length : Int) := of_decide_eq_true ψ2
       obtain ⟨ad904, A904_1, c904_1, A904_2, c904_2, e904, hx904_0, hx904_1, hx904_2, hl904_1, hi904_1, hl904_2, hi904_2⟩ := at_T71 HR1.out x11_1 p904 q904
       cases e904
       replace hx904_0 := (HB.out.cell (World.block_lt_of_cell? w _ hx904_0)).trans hx904_0
       replace hx904_1 := (HB.out.cell (World.block_lt_of_cell? w _ hx904_1)).trans hx904_1
       replace hx904_2 := (HB.out.cell (World.block_lt_of_cell? w _ hx904_2)).trans hx904_2
       have HR904_1 := Aside0.mk hi904_1
       have HC904_1 := Aside0.mk hl904_1
       clear hi904_1 hl904_1
       have HR904_2 := Aside0.mk hi904_2
       have HC904_2 := Aside0.mk hl904_2
       clear hi904_2 hl904_2
       replace p904 := eq_true p904
       replace q904 := eq_true q904
       go_wp2_with (first | ((with_reducible refine gate_dst (N := 7) rfl ?_); refine bE 7 #[.int .i64 0, .slice none 0 0, .slice none 0 0] 71 ?_; intro gb10 hg w47 hbox hb; have q := n4_ (below_step ψ61 hb) (hbox) ((ψ312 : w.heap.size ≤ gb10)) ((ψ312 : w.heap.size ≤ gb10)); clear HB; obtain ⟨HB, BK10, GW10, GE10⟩ := q; clear hb hbox hg; obtain ⟨y48_0, y48_1, y48_2, u48_0, u48_1, u48_2⟩ := cells3 BK10.out; have p907 : 0 ≤ (((rd_T71 l1 x11_1).f0) : Int) := of_decide_eq_true ψ2; have q907 : ((rd_T71 l1 x11_1).f0) < (l0.length : Int) := of_decide_eq_true ψ2; obtain ⟨ad907, A907_2, c907_2, A907_3, c907_3, e907, hx907_0, hx907_1, hx907_2, hx907_3, hl907_2, hi907_2, hl907_3, hi907_3⟩ := at_T42 HR0.out ((rd_T71 l1 x11_1).f0) p907 q907; cases e907; have hn907_0 : ad907.block ≠ gb10 := ψ332; have hn907_1 : ad907.block ≠ gb10 := ψ332; have hn907_2 : ad907.block ≠ gb10 := ψ332; replace hx907_0 := (HB.out.cell (World.block_lt_of_cell? w _ hx907_0)).trans hx907_0; replace hx907_1 := (HB.out.cell (World.block_lt_of_cell? w _ hx907_1)).trans hx907_1; replace hx907_2 := (HB.out.cell (World.block_lt_of_cell? w _ hx907_2)).trans hx907_2; replace hx907_3 := (HB.out.cell (World.block_lt_of_cell? w _ hx907_3)).trans hx907_3; have HR907_2 := Aside0.mk hi907_2; have HC907_2 := Aside0.mk hl907_2; clear hi907_2 hl907_2; have HR907_3 := Aside0.mk hi907_3; have HC907_3 := Aside0.mk hl907_3; clear hi907_3 hl907_3; replace hx907_0 := (cell_far (p := ⟨gb10, 0, none⟩) ψ139 (.int .i64 ((rd_T71 l1 x11_1).f0))).trans hx907_0; replace hx907_1 := (cell_far (p := ⟨gb10, 0, none⟩) ψ139 (.int .i64 ((rd_T71 l1 x11_1).f0))).trans hx907_1; replace hx907_2 := (cell_far (p := ⟨gb10, 0, none⟩) ψ139 (.int .i64 ((rd_T71 l1 x11_1).f0))).trans hx907_2; replace hx907_3 := (cell_far (p := ⟨gb10, 0, none⟩) ψ139 (.int .i64 ((rd_T71 l1 x11_1).f0))).trans hx907_3; replace hx907_0 := (cell_far (p := ⟨gb10, 1, none⟩) ψ140 (.slice A904_1 ((rd_T71 l1 x11_1).f1).length c904_1)).trans hx907_0; replace hx907_1 := (cell_far (p := ⟨gb10, 1, none⟩) ψ140 (.slice A904_1 ((rd_T71 l1 x11_1).f1).length c904_1)).trans hx907_1; replace hx907_2 := (cell_far (p := ⟨gb10, 1, none⟩) ψ140 (.slice A904_1 ((rd_T71 l1 x11_1).f1).length c904_1)).trans hx907_2; replace hx907_3 := (cell_far (p := ⟨gb10, 1, none⟩) ψ140 (.slice A904_1 ((rd_T71 l1 x11_1).f1).length c904_1)).trans hx907_3; replace hx907_0 := (cell_far (p := ⟨gb10, 2, none⟩) ψ141 (.slice A904_2 ((rd_T71 l1 x11_1).f2).length c904_2)).trans hx907_0; replace hx907_1 := (cell_far (p := ⟨gb10, 2, none⟩) ψ141 (.slice A904_2 ((rd_T71 l1 x11_1).f2).length c904_2)).trans hx907_1; replace hx907_2 := (cell_far (p := ⟨gb10, 2, none⟩) ψ141 (.slice A904_2 ((rd_T71 l1 x11_1).f2).length c904_2)).trans hx907_2; replace hx907_3 := (cell_far (p := ⟨gb10, 2, none⟩) ψ141 (.slice A904_2 ((rd_T71 l1 x11_1).f2).length c904_2)).trans hx907_3; clear hn907_0; clear hn907_1; clear hn907_2; replace p907 := eq_true p907; replace q907 := eq_true q907) | ((with_reducible refine gate_dst (N := 8) rfl ?_); refine bE 8 #[.int .i64 0, .int .i64 0, .slice none 0 0, .slice none 0 0] 42 ?_; intro gb11 hg w49 hbox hb; have q := n7_ (blk_below (g := gb10) (o := .cells #[.int .i64 ((rd_T71 l1 x11_1).f0), .slice A904_1 ((rd_T71 l1 x11_1).f1).length c904_1, .slice A904_2 ((rd_T71 l1 x11_1).f2).length c904_2] 71 (0, 0)) ψ142 hb) (below_step ψ61 hb) (hbox) ((ψ312 : w.heap.size ≤ gb11)) ((ψ312 : w.heap.size ≤ gb11)) ((ψ333 : gb10 ≠ gb11)) ((ψ334 : gb11 ≠ gb10)); clear BK10 HB; obtain ⟨BK10, HB, BK11, GW11, GE11, NB10_11, NB11_10⟩ := q; clear hb hbox hg; have hnb50 := NB11_10.out; have hnc50 := NB10_11.out; obtain ⟨y51_0, y51_1, y51_2, y51_3, u51_0, u51_1, u51_2, u51_3⟩ := cells4 BK11.out))
       go_roundg k1
       case measure => have := HK1.out; omega
       case rel => exact ⟨(ji46), (wrap64 (x11_1 + 1)), (by first | rfl | (simp; done) | (simp only [← hji46] <;> (first | rfl | simp)) | (simp [*]; done)), ψ0, H', ⟨ψ53⟩, ⟨ψ61⟩⟩
   ·obtain rfl := Option.some.inj H
    go_wp2
    go_ret
    exact ⟨ψ9, ψ61⟩

/-! ### impl_CodeOf: function 23 -/
theorem impl_CodeOf.one_T42 {w : World} {ad : Addr} {n : Nat} {xs : List S42} (h : Kd.C k42 w (some ad) n xs) (i : Int) (h0 : 0 ≤ i) (h1 : i < (xs.length : Int)) : Kd.C k42 w (some (ad.add (i.toNat * 4))) ([rd_T42 xs i] : List S42).length [rd_T42 xs i] := by
 refine ⟨rfl, show (1 : Nat) ≤ 9223372036854775807 from ψ15, fun _ => ⟨_, rfl, fun j p hj => ?_⟩⟩
 obtain ⟨ad2, e, hc⟩ := h.2.2 (by have := h.1; omega)
 cases e
 have hl : i.toNat < xs.length := by omega
 match j, hj with
 | 0, hj =>
  cases hj
  obtain ⟨c, h1, h2, h3⟩ := hc i.toNat (rd_T42 xs i) (by show xs[i.toNat]? = some (xs.getD i.toNat _); rw [List.getElem?_eq_getElem hl, List.getD_eq_getElem?_getD, List.getElem?_eq_getElem hl]; rfl)
  refine ⟨c, h1, h2, fun j u hu => ?_⟩
  rw [add_add, show i.toNat * 4 + (0 * (k42).sz + j) = i.toNat * (k42).sz + j by rw [Nat.zero_mul, Nat.zero_add]; rfl]
  exact h3 j u hu
 | j + 1, hj => simp at hj
theorem impl_CodeOf.box_T35 {w : World} {g : Nat} {x : S35} {A1 : Option Addr} {c1 : Nat} {A2 : Option Addr} {c2 : Nat} {A4 : Option Addr} {c4 : Nat} {A5 : Option Addr} {c5 : Nat} (hb : w.heap[g]? = some (.cells #[.int .i64 x.f0, .slice A1 x.f1.length c1, .slice A2 x.f2.length c2, .int .i64 x.f3, .slice A4 x.f4.length c4, .slice A5 x.f5.length c5] 35 (0, 0))) (l1 : x.f1.length ≤ c1) (g1 : Kd.C k77 w A1 x.f1.length x.f1) (l2 : x.f2.length ≤ c2) (g2 : Kd.C k77 w A2 x.f2.length x.f2) (l4 : x.f4.length ≤ c4) (g4 : Kd.C (Kd.int .i64) w A4 x.f4.length x.f4) (l5 : x.f5.length ≤ c5) (g5 : Kd.C k42 w A5 x.f5.length x.f5) : Kd.C k35 w (some ⟨g, 0, none⟩) ([x] : List S35).length [x] := by
 refine ⟨rfl, show (1 : Nat) ≤ 9223372036854775807 from ψ15, fun _ => ⟨_, rfl, fun j p hj => ?_⟩⟩
 match j, hj with
 | 0, hj =>
  cases hj
  refine ⟨_, rfl, k35_mk w x l1 g1 l2 g2 l4 g4 l5 g5, fun i u hu => ?_⟩
  match i, hu with
  | 0, hu => cases hu; exact (blk_cell hb 0).trans rfl
  | 1, hu => cases hu; exact (blk_cell hb 1).trans rfl
  | 2, hu => cases hu; exact (blk_cell hb 2).trans rfl
  | 3, hu => cases hu; exact (blk_cell hb 3).trans rfl
  | 4, hu => cases hu; exact (blk_cell hb 4).trans rfl
  | 5, hu => cases hu; exact (blk_cell hb 5).trans rfl
  | i + 6, hu => simp at hu
 | j + 1, hj => simp at hj
mutual
def impl_CodeOf.j0 : Nat → Bool → Int → List (S77) → List (S77) → Int → List Int → List (S42) → Option (Int)
 | 0, _, _, _, _, _, _, _ => none
 | k + 1, x6, x922000, x922001, x922002, x922003, x922004, x922005 => if x6 = true then (some 1) else ((impl_inputRight.f k [(⟨x922000, x922001, x922002, x922003, x922004, x922005⟩ : S35)]).bind fun t924 => (if t924 = true then ((impl_roomRight.f k [(⟨x922000, x922001, x922002, x922003, x922004, x922005⟩ : S35)]).bind fun t925 => (if t925 = true then (impl_CodeOf.l0 k (x922005.length : Int) 0 x922000 x922001 x922002 x922003 x922004 x922005) else (some 3))) else (some 2)))
def impl_CodeOf.l0 : Nat → Int → Int → Int → List (S77) → List (S77) → Int → List Int → List (S42) → Option (Int)
 | 0, _, _, _, _, _, _, _, _ => none
 | k + 1, x23, x24, x922000, x922001, x922002, x922003, x922004, x922005 => if x24 < x23 then (if 0 ≤ x24 then (if x24 < (x922005.length : Int) then ((impl_stmtRight.f k [(⟨x922000, x922001, x922002, x922003, x922004, x922005⟩ : S35)] [rd_T42 x922005 x24]).bind fun t929 => (if t929 = true then (impl_CodeOf.l0 k x23 (wrap64 (x24 + 1)) x922000 x922001 x922002 x922003 x922004 x922005) else (some 4))) else (none)) else (none)) else ((impl_nodesOf.f k x922005).bind fun bt931 => (if bt931.2 = true then ((impl_stepsIn.f k x922005 bt931.1).bind fun t936 => (if t936 > 400 then (some 6) else (some 0))) else (some 5)))
end
def impl_CodeOf.f (k : Nat) (a0_0 : Int) (l0_1 : List (S77)) (l0_2 : List (S77)) (a0_3 : Int) (l0_4 : List Int) (l0_5 : List (S42)) : Option (Int) := if a0_0 < 1 then (impl_CodeOf.j0 k true a0_0 l0_1 l0_2 a0_3 l0_4 l0_5) else (impl_CodeOf.j0 k (decide (a0_0 > 8)) a0_0 l0_1 l0_2 a0_3 l0_4 l0_5)
set_option maxRecDepth 100000 in
theorem τ65 {P : Prop} (h : P := by
 obtain rfl := Option.some.inj H
 go_wp2_with (first | ((with_reducible refine gate_callee (f := 60) rfl ?_); refine gL 16 Try.func60 #[.pointer (some ⟨gb10, 0, none⟩)] ?_; (with_reducible refine (impl_inputRight.calls kj1 _ 1 [(⟨a0_0, l0_1, l0_2, a0_3, l0_4, l0_5⟩ : S35)] _ _ ?_ ?_ ?_ A8.out).mono ?_); exact rfl; exact ψ335; exact Nat.le_refl 1; rintro e w1_ ⟨rfl, hb⟩; refine ⟨_, rfl, ?_⟩; have q := n2_ (blk_below (g := gb10) ψ23 hb) (below_step ψ52 hb); clear BK10 HB; obtain ⟨BK10, HB⟩ := q; (try clear hb)) | ((with_reducible refine gate_callee (f := 61) rfl ?_); refine gL 19 Try.func61 #[.pointer (some ⟨gb10, 0, none⟩)] ?_; (with_reducible refine (impl_roomRight.calls kj1 _ 1 [(⟨a0_0, l0_1, l0_2, a0_3, l0_4, l0_5⟩ : S35)] _ _ ?_ ?_ ?_ A10.out).mono ?_); exact rfl; exact ψ335; exact Nat.le_refl 1; rintro e w' ⟨rfl, ⟨nd, rfl⟩⟩; refine ⟨_, rfl, ?_⟩))
 go_ret
 exact ⟨ψ9, ψ52⟩) : P := h
set_option maxRecDepth 100000 in
theorem τ66 {P : Prop} (h : P := by
 first | obtain rfl := Option.some.inj H | (have H' := Aside0.mk H; clear H)
 obtain ⟨hczB10_0, hczB10_1, hczB10_2, hczB10_3, hczB10_4, hczB10_5, hfzB10_0, hfzB10_1, hfzB10_2, hfzB10_3, hfzB10_4, hfzB10_5⟩ := cells6 BK10.out
 try (have p928 : 0 ≤ (x24_2 : Int) := of_decide_eq_true ψ2; have q928 : x24_2 < (l0_5.length : Int) := of_decide_eq_true ψ2; obtain ⟨ad928, A928_2, c928_2, A928_3, c928_3, e928, hx928_0, hx928_1, hx928_2, hx928_3, hl928_2, hi928_2, hl928_3, hi928_3⟩ := at_T42 HR0_5.out x24_2 p928 q928; cases e928; have HSe928 := HR0_5.out; replace hx928_0 := (HB.out.cell (World.block_lt_of_cell? w _ hx928_0)).trans hx928_0; replace hx928_1 := (HB.out.cell (World.block_lt_of_cell? w _ hx928_1)).trans hx928_1; replace hx928_2 := (HB.out.cell (World.block_lt_of_cell? w _ hx928_2)).trans hx928_2; replace hx928_3 := (HB.out.cell (World.block_lt_of_cell? w _ hx928_3)).trans hx928_3; have HR928_2 := Aside0.mk hi928_2; have HC928_2 := Aside0.mk hl928_2; clear hi928_2 hl928_2; have HR928_3 := Aside0.mk hi928_3; have HC928_3 := Aside0.mk hl928_3; clear hi928_3 hl928_3; replace p928 := eq_true p928; replace q928 := eq_true q928)
 try (have HRe928 := Aside0.mk (impl_CodeOf.one_T42 HSe928 x24_2 (of_eq_true p928) (of_eq_true q928)))
 try (have HCe928 := Aside0.mk (show ([rd_T42 l0_5 x24_2] : List S42).length ≤ 1 from Nat.le_refl 1))
 go_wp2_with (first | ((with_reducible refine gate_callee (f := 62) rfl ?_); refine gL 31 Try.func62 #[.pointer (some ⟨gb10, 0, none⟩), .pointer (some (ad928.add (x24_2.toNat * 4)))] ?_; (with_reducible refine (impl_stmtRight.calls k2 _ 1 [(⟨a0_0, l0_1, l0_2, a0_3, l0_4, l0_5⟩ : S35)] _ 1 [rd_T42 l0_5 x24_2] _ _ ?_ ?_ ?_ ?_ ?_ ?_ A17.out).mono ?_); exact rfl; exact ψ335; exact Nat.le_refl 1; exact rfl; exact (by repeat (first | exact (Kd.C_below HRe928.out HB.out) | (with_reducible refine Kd.C_alloc ?_ _) | (with_reducible refine Kd.C_drewN ?_ _) | (with_reducible refine Kd.C_drew ?_))); exact HCe928.out; rintro e w1_ ⟨rfl, hb⟩; refine ⟨_, rfl, ?_⟩; have q := n2_ (blk_below (g := gb10) ψ23 hb) (below_step ψ52 hb); clear BK10 HB; obtain ⟨BK10, HB⟩ := q; (try clear hb)) | ((with_reducible refine gate_callee (f := 63) rfl ?_); refine gL 37 Try.func63 #[.slice A0_5 l0_5.length c0_5] ?_; (with_reducible refine (impl_nodesOf.calls k2 _ _ l0_5 _ _ _ ?_ ?_ A23.out).mono ?_); exact ψ57; exact HC0_5.out; rintro e w1_ ⟨v933, rfl, ho0, hb⟩; refine ⟨_, rfl, ?_⟩; have q := n3_ (Kd.R_lower ho0 (below_size ψ52)) (blk_below (g := gb10) ψ23 hb) (below_step ψ52 hb); clear BK10 HB; obtain ⟨HO934, BK10, HB⟩ := q; (try clear hb); (try clear ho0); (try (obtain ⟨hczB10_0, hczB10_1, hczB10_2, hczB10_3, hczB10_4, hczB10_5, hfzB10_0, hfzB10_1, hfzB10_2, hfzB10_3, hfzB10_4, hfzB10_5⟩ := cells6 BK10.out)); (try (obtain ⟨Ao1_, co1_, eo1_⟩ := Kd.R_slice HO934.out)); (try (subst eo1_))) | ((with_reducible refine gate_callee (f := 64) rfl ?_); refine gL 47 Try.func64 #[.slice A0_5 l0_5.length c0_5, .slice Ao1_ t931.length co1_] ?_; (with_reducible refine (impl_stepsIn.calls k2 _ _ l0_5 _ _ t931 t936 _ ?_ ?_ ?_ ?_ A25.out).mono ?_); exact ψ57; exact HC0_5.out; exact (by repeat (first | exact (Kd.R_reads' HO934.out).2.2 | (with_reducible refine Kd.C_alloc ?_ _) | (with_reducible refine Kd.C_drewN ?_ _) | (with_reducible refine Kd.C_drew ?_))); exact (Kd.R_reads' HO934.out).2.1; rintro e w2_ ⟨rfl, hb⟩; refine ⟨_, rfl, ?_⟩; have q := n3_ (Kd.R_below (by (with_reducible repeat (first | apply Kd.R_alloc | apply Kd.R_drewN | apply Kd.R_drew)); exact HO934.out) hb) (blk_below (g := gb10) ψ23 hb) (below_step ψ52 hb); clear HO934 BK10 HB; obtain ⟨HO934, BK10, HB⟩ := q; (try clear hb)))
 first | (go_roundg k2; (case measure => have := HJ1.out; have := HK2.out; omega); (case rel => exact ⟨(wrap64 (x24_2 + 1)), ψ0, H', ⟨ψ58⟩, ⟨ψ23⟩, ⟨ψ52⟩⟩)) | (go_ret; exact ⟨ψ9, ψ52⟩)) : P := h
set_option maxHeartbeats 8000000 in
set_option maxRecDepth 100000 in
theorem impl_CodeOf.calls (k : Nat) (a0_0 : Int) (A0_1 : Option Addr) (c0_1 : Nat) (l0_1 : List (S77)) (A0_2 : Option Addr) (c0_2 : Nat) (l0_2 : List (S77)) (a0_3 : Int) (A0_4 : Option Addr) (c0_4 : Nat) (l0_4 : List Int) (A0_5 : Option Addr) (c0_5 : Nat) (l0_5 : List (S42)) (r : Int) (w : World) (hr0_1 : Kd.C k77 w A0_1 l0_1.length l0_1) (hc0_1 : l0_1.length ≤ c0_1) (hr0_2 : Kd.C k77 w A0_2 l0_2.length l0_2) (hc0_2 : l0_2.length ≤ c0_2) (hr0_4 : Kd.C (Kd.int .i64) w A0_4 l0_4.length l0_4) (hc0_4 : l0_4.length ≤ c0_4) (hr0_5 : Kd.C k42 w A0_5 l0_5.length l0_5) (hc0_5 : l0_5.length ≤ c0_5) (h : impl_CodeOf.f k a0_0 l0_1 l0_2 a0_3 l0_4 l0_5 = some r) :
 Calls Try.prog 23 #[.agg #[.int .i64 a0_0, .slice A0_1 l0_1.length c0_1, .slice A0_2 l0_2.length c0_2, .int .i64 a0_3, .slice A0_4 l0_4.length c0_4, .slice A0_5 l0_5.length c0_5]] w fun e w' => e = .returned (.int .i64 r) ∧ Below w.heap.size w w' := by
 have hu35 := Try.underlying35
 have HR0_1 := Aside0.mk hr0_1
 have HC0_1 := Aside0.mk hc0_1
 clear hr0_1 hc0_1
 have HR0_2 := Aside0.mk hr0_2
 have HC0_2 := Aside0.mk hc0_2
 clear hr0_2 hc0_2
 have HR0_4 := Aside0.mk hr0_4
 have HC0_4 := Aside0.mk hc0_4
 clear hr0_4 hc0_4
 have HR0_5 := Aside0.mk hr0_5
 have HC0_5 := Aside0.mk hc0_5
 clear hr0_5 hc0_5
 have HB := Aside0.mk (Below.refl w.heap.size w)
 have H : (if a0_0 < 1 then (impl_CodeOf.j0 k true a0_0 l0_1 l0_2 a0_3 l0_4 l0_5) else (impl_CodeOf.j0 k (decide (a0_0 > 8)) a0_0 l0_1 l0_2 a0_3 l0_4 l0_5)) = some r := h
 clear h
 have HC2 := Aside0.mk H
 clear H
 go_enter Try.func23, Try.ntmps23
 go_upto_region 1 with (first | ((with_reducible refine gate_dst (N := 1) rfl ?_); refine bE 1 #[.int .i64 a0_0, .slice A0_1 l0_1.length c0_1, .slice A0_2 l0_2.length c0_2, .int .i64 a0_3, .slice A0_4 l0_4.length c0_4, .slice A0_5 l0_5.length c0_5] 35 ?_; intro gb10 hg w3 hbox hb; have q := n4_ (below_step ψ52 hb) (hbox) ((ψ311 : w.heap.size ≤ gb10)) ((ψ311 : w.heap.size ≤ gb10)); clear HB; obtain ⟨HB, BK10, GW10, GE10⟩ := q; clear hb hbox hg))
 (try simp only [Act.put, List.setIfInBounds_toArray, List.set_cons_zero, List.set_cons_succ])
 go_cut [6] (fun v6 wc => ∃ (kq : Nat) (x6_1 : Bool), v6 = .bool x6_1 ∧ Aside0 (impl_CodeOf.j0 kq x6_1 a0_0 l0_1 l0_2 a0_3 l0_4 l0_5 = some r) ∧ Aside0 (kq ≤ k) ∧ Aside0 (wc.heap[gb10]? = some (.cells #[.int .i64 a0_0, (.slice A0_1 l0_1.length c0_1), (.slice A0_2 l0_2.length c0_2), .int .i64 a0_3, (.slice A0_4 l0_4.length c0_4), (.slice A0_5 l0_5.length c0_5)] 35 (0, 0))) ∧ Aside0 (Below w.heap.size w wc))
 case first =>
  have H := HC2.out
  clear HC2
  replace H := ifD H; rcases H with ⟨c4b0, H⟩ | ⟨c4b0, H⟩
  ·(first | rw [c4b0] | (simp only [i64_w, i32_w]; rw [c4b0]) | skip)
   have H' := Aside0.mk H
   clear H
   obtain ⟨y5_0, y5_1, y5_2, y5_3, y5_4, y5_5, u5_0, u5_1, u5_2, u5_3, u5_4, u5_5⟩ := cells6 BK10.out
   go_wp2
   go_meet
   case rel => exact ⟨_, (true), ψ0, H', ⟨ψ25⟩, ⟨ψ23⟩, ⟨ψ52⟩⟩
  ·(first | rw [c4b0] | (simp only [i64_w, i32_w]; rw [c4b0]) | skip)
   have H' := Aside0.mk H
   clear H
   obtain ⟨y6_0, y6_1, y6_2, y6_3, y6_4, y6_5, u6_0, u6_1, u6_2, u6_3, u6_4, u6_5⟩ := cells6 BK10.out
   go_wp2
   go_meet
   case rel => exact ⟨_, (decide (a0_0 > 8)), ψ0, H', ⟨ψ25⟩, ⟨ψ23⟩, ⟨ψ52⟩⟩
 case rest =>
  clear HC2
  try clear c2
  try clear p2
  try clear c4
  try clear c4b0
  try clear y5_0 y5_1 y5_2 y5_3 y5_4 y5_5
  try clear y6_0 y6_1 y6_2 y6_3 y6_4 y6_5
  try clear u5_0 u5_1 u5_2 u5_3 u5_4 u5_5
  try clear u6_0 u6_1 u6_2 u6_3 u6_4 u6_5
  obtain ⟨kq, x6_1, rfl, HA, HJ1, BK10, HB⟩ := hcut
  cases kq with
  | zero => exact absurd HA.out (by simp [impl_CodeOf.j0])
  | succ kj1 =>
   have H := HA.out
   clear HA
   simp only [impl_CodeOf.j0] at H
   replace H := ifB H; rcases H with ⟨rfl, H⟩ | ⟨rfl, H⟩
   ·exact τ65
   ·replace H := Option.bind_eq_some_iff.mp H
    obtain ⟨t924, A80, H⟩ := H
    have A8 := Aside0.mk A80
    clear A80
    replace H := ifB H; rcases H with ⟨rfl, H⟩ | ⟨rfl, H⟩
    ·replace H := Option.bind_eq_some_iff.mp H
     obtain ⟨t925, A100, H⟩ := H
     have A10 := Aside0.mk A100
     clear A100
     replace H := ifB H; rcases H with ⟨rfl, H⟩ | ⟨rfl, H⟩
     ·have H' := Aside0.mk H
      clear H
      go_wp2_with (first | ((with_reducible refine gate_callee (f := 60) rfl ?_); refine gL 16 Try.func60 #[.pointer (some ⟨gb10, 0, none⟩)] ?_; (with_reducible refine (impl_inputRight.calls kj1 _ 1 [(⟨a0_0, l0_1, l0_2, a0_3, l0_4, l0_5⟩ : S35)] _ _ ?_ ?_ ?_ A8.out).mono ?_); exact rfl; exact ψ335; exact Nat.le_refl 1; rintro e w12 ⟨rfl, hb⟩; refine ⟨_, rfl, ?_⟩; have q := n2_ (blk_below (g := gb10) ψ23 hb) (below_step ψ52 hb); clear BK10 HB; obtain ⟨BK10, HB⟩ := q; (try clear hb)) | ((with_reducible refine gate_callee (f := 61) rfl ?_); refine gL 19 Try.func61 #[.pointer (some ⟨gb10, 0, none⟩)] ?_; (with_reducible refine (impl_roomRight.calls kj1 _ 1 [(⟨a0_0, l0_1, l0_2, a0_3, l0_4, l0_5⟩ : S35)] _ _ ?_ ?_ ?_ A10.out).mono ?_); exact rfl; exact ψ335; exact Nat.le_refl 1; rintro e w' ⟨rfl, ⟨nd, rfl⟩⟩; refine ⟨_, rfl, ?_⟩; obtain ⟨y13_0, y13_1, y13_2, y13_3, y13_4, y13_5, u13_0, u13_1, u13_2, u13_3, u13_4, u13_5⟩ := cells6 BK10.out))
      go_loopg [24] kj1 (fun kq v24 w' => ∃ (x24_2 : Int), v24 = .int .i64 x24_2 ∧ Aside0 (impl_CodeOf.l0 kq (l0_5.length : Int) x24_2 a0_0 l0_1 l0_2 a0_3 l0_4 l0_5 = some r) ∧ Aside0 (kq ≤ kj1) ∧ Aside0 (w'.heap[gb10]? = some (.cells #[.int .i64 a0_0, (.slice A0_1 l0_1.length c0_1), (.slice A0_2 l0_2.length c0_2), .int .i64 a0_3, (.slice A0_4 l0_4.length c0_4), (.slice A0_5 l0_5.length c0_5)] 35 (0, 0))) ∧ Aside0 (Below w.heap.size w w'))
      case atStart => exact ⟨(0), ψ0, H', ⟨Nat.le_refl _⟩, ⟨ψ23⟩, ⟨ψ52⟩⟩
      case round =>
       clear H'
       try clear c1
       try clear c2
       try clear p2
       try clear c4
       try clear c4b0
       try clear c6
       try clear c7
       try clear c9
       try clear c11
       try clear y13_0 y13_1 y13_2 y13_3 y13_4 y13_5
       try clear y5_0 y5_1 y5_2 y5_3 y5_4 y5_5
       try clear y6_0 y6_1 y6_2 y6_3 y6_4 y6_5
       try clear u13_0 u13_1 u13_2 u13_3 u13_4 u13_5
       try clear u5_0 u5_1 u5_2 u5_3 u5_4 u5_5
       try clear u6_0 u6_1 u6_2 u6_3 u6_4 u6_5
       try clear p2
       obtain ⟨x24_2, rfl, HA, HK2, BK10, HB⟩ := hrel
       cases gk with
       | zero => exact absurd HA.out (by simp [impl_CodeOf.l0])
       | succ k2 =>
        have H := HA.out
        clear HA
        simp only [impl_CodeOf.l0] at H
        replace H := ifD H; rcases H with ⟨c14b0, H⟩ | ⟨c14b0, H⟩
        ·replace H := ifN H; obtain ⟨c15b0, H⟩ := H
         replace H := ifN H; obtain ⟨c16b0, H⟩ := H
         replace H := Option.bind_eq_some_iff.mp H
         obtain ⟨t929, A170, H⟩ := H
         have A17 := Aside0.mk A170
         clear A170
         replace H := ifB H; rcases H with ⟨rfl, H⟩ | ⟨rfl, H⟩
         ·exact τ66
         ·exact τ66
        ·replace H := Option.bind_eq_some_iff.mp H
         obtain ⟨⟨t931, t932⟩, A230, H⟩ := H
         have A23 := Aside0.mk A230
         clear A230
         replace H := ifB H; rcases H with ⟨rfl, H⟩ | ⟨rfl, H⟩
         ·replace H := Option.bind_eq_some_iff.mp H
          obtain ⟨t936, A250, H⟩ := H
          have A25 := Aside0.mk A250
          clear A250
          replace H := ifG H; rcases H with ⟨c26b0, H⟩ | ⟨c26b0, H⟩
          ·exact τ66
          ·exact τ66
         ·exact τ66
     ·exact τ65
    ·exact τ65

/-! ### laws_eqTerm: function 75 -/
def laws_eqTerm.f (a0_0 : Int) (a0_1 : Int) (a1_0 : Int) (a1_1 : Int) : Option (Bool) := if a0_0 = a1_0 then (if a0_1 = a1_1 then (some true) else (some false)) else (some false)
set_option maxRecDepth 100000 in
theorem τ67 {P : Prop} (h : P := by
 obtain rfl := Option.some.inj H
 go_enter Try.func75, Try.ntmps75
 go_wp2_with (first | ((with_reducible refine gate_dst (N := 2) rfl ?_); refine bE 2 #[.int .i64 a0_0, .int .i64 a0_1] 100 ?_; intro gb10 hg w1_ hbox hb; have q := n4_ (below_step ψ61 hb) (hbox) ((ψ312 : w.heap.size ≤ gb10)) ((ψ312 : w.heap.size ≤ gb10)); clear HB; obtain ⟨HB, BK10, GW10, GE10⟩ := q; clear hb hbox hg) | ((with_reducible refine gate_dst (N := 3) rfl ?_); refine bE 3 #[.int .i64 a1_0, .int .i64 a1_1] 100 ?_; intro gb11 hg w2_ hbox hb; have q := n7_ (blk_below (g := gb10) ψ23 hb) (below_step ψ61 hb) (hbox) ((ψ312 : w.heap.size ≤ gb11)) ((ψ312 : w.heap.size ≤ gb11)) ((ψ304 : gb10 ≠ gb11)) ((ψ305 : gb11 ≠ gb10)); clear BK10 HB; obtain ⟨BK10, HB, BK11, GW11, GE11, NB10_11, NB11_10⟩ := q; clear hb hbox hg; have hnb1_ := NB10_11.out; have hnc1_ := NB11_10.out; obtain ⟨hczB10_0, hczB10_1, hfzB10_0, hfzB10_1⟩ := cells2 BK10.out; obtain ⟨hczB11_0, hczB11_1, hfzB11_0, hfzB11_1⟩ := cells2 BK11.out))
 go_ret
 exact ⟨ψ9, ψ61⟩) : P := h
set_option maxHeartbeats 8000000 in
set_option maxRecDepth 100000 in
theorem laws_eqTerm.calls (a0_0 : Int) (a0_1 : Int) (a1_0 : Int) (a1_1 : Int) (r : Bool) (w : World) (h : laws_eqTerm.f a0_0 a0_1 a1_0 a1_1 = some r) :
 Calls Try.prog 75 #[.agg #[.int .i64 a0_0, .int .i64 a0_1], .agg #[.int .i64 a1_0, .int .i64 a1_1]] w fun e w' => e = .returned (.bool r) ∧ Below w.heap.size w w' := by
 have hu100 := Try.underlying100
 have HB := Aside0.mk (Below.refl w.heap.size w)
 have H : (if a0_0 = a1_0 then (if a0_1 = a1_1 then (some true) else (some false)) else (some false)) = some r := h
 clear h
 replace H := ifF H; rcases H with ⟨c3b0, c3b1, H⟩ | ⟨c3b0, c3b1, c3, H⟩
 ·by_cases c4 : a0_1 = a1_1
  ·rw [if_pos c4] at H
   have c4b0 : (a0_1 == a1_1) = true := beq_iff_eq.mpr c4
   have c4b1 : (a0_1 != a1_1) = false := bne_eq_false_iff_eq.mpr c4
   clear c4
   exact τ67
  ·rw [if_neg c4] at H
   have c4b0 : (a0_1 == a1_1) = false := beq_eq_false_iff_ne.mpr c4
   have c4b1 : (a0_1 != a1_1) = true := bne_iff_ne.mpr c4
   exact τ67
 ·exact τ67

/-! ### laws_eqTermS: function 37 -/
def laws_eqTermS.l0 : Nat → List (S100) → List (S100) → Int → Option (Bool)
 | 0, _, _, _ => none
 | k + 1, x0, x1, x5 => if x5 < (x0.length : Int) then (if 0 ≤ x5 then (if x5 < (x1.length : Int) then ((laws_eqTerm.f ((rd_T100 x0 x5).f0) ((rd_T100 x0 x5).f1) ((rd_T100 x1 x5).f0) ((rd_T100 x1 x5).f1)).bind fun t945 => (if t945 = true then (laws_eqTermS.l0 k x0 x1 (wrap64 (x5 + 1))) else (some false))) else (none)) else (none)) else (some true)
def laws_eqTermS.f (k : Nat) (l0 : List (S100)) (l1 : List (S100)) : Option (Bool) := if (l0.length : Int) = (l1.length : Int) then (laws_eqTermS.l0 k l0 l1 0) else (some false)
def laws_eqTermS.T6 : Bool × List (List Nat × List Nat) := (true, [([], []), ([], []), ([0, 1], [0, 1]), ([2], [2]), ([], []), ([], []), ([4, 5], [4, 5]), ([6], [6]), ([3, 7], [3, 7]), ([8], [8])])
def laws_eqTermS.B6 : List Nat := [0, 0, 3, 7, 0, 0, 48, 112, 255, 511]
theorem laws_eqTermS.tab6 : rtab .any (opsOf Try.f37 6) = laws_eqTermS.T6 := by kernel_rfl
theorem laws_eqTermS.bits6 : waitsOk laws_eqTermS.T6.2 laws_eqTermS.B6 = true := by kernel_rfl
set_option maxRecDepth 100000 in
theorem τ68 {P : Prop} (h : P := by
 first | obtain rfl := Option.some.inj H | (have H' := Aside0.mk H; clear H)
 try go_wp2
 replace HB := Aside0.mk (below_drew1 HB.out)
 have p943 : 0 ≤ (x5_1 : Int) := of_decide_eq_true ψ2
 have q943 : x5_1 < (l0.length : Int) := of_decide_eq_true ψ2
 obtain ⟨ad943, e943, hx943_0, hx943_1⟩ := at_T100 HR0.out x5_1 p943 q943
 have hw943_1 := hx943_1
 have hw943_0 := hx943_0
 cases e943
 replace hx943_0 := (HB.out.cell (World.block_lt_of_cell? w _ hx943_0)).trans hx943_0
 replace hx943_1 := (HB.out.cell (World.block_lt_of_cell? w _ hx943_1)).trans hx943_1
 replace p943 := eq_true p943
 replace q943 := eq_true q943
 have p944 : 0 ≤ (x5_1 : Int) := of_decide_eq_true ψ2
 have q944 : x5_1 < (l1.length : Int) := of_decide_eq_true ψ2
 obtain ⟨ad944, e944, hx944_0, hx944_1⟩ := at_T100 HR1.out x5_1 p944 q944
 have hw944_1 := hx944_1
 have hw944_0 := hx944_0
 cases e944
 replace hx944_0 := (HB.out.cell (World.block_lt_of_cell? w _ hx944_0)).trans hx944_0
 replace hx944_1 := (HB.out.cell (World.block_lt_of_cell? w _ hx944_1)).trans hx944_1
 replace p944 := eq_true p944
 replace q944 := eq_true q944
 refine start_ (n := 10) (S := fun w' => w'.cell? (ad943.add ((x5_1).toNat * 2)) = some (.int .i64 ((rd_T100 l0 x5_1).f0)) ∧ w'.cell? ⟨(ad943.add ((x5_1).toNat * 2)).block, (ad943.add ((x5_1).toNat * 2)).off + 1, none⟩ = some (.int .i64 ((rd_T100 l0 x5_1).f1)) ∧ w'.cell? (ad944.add ((x5_1).toNat * 2)) = some (.int .i64 ((rd_T100 l1 x5_1).f0)) ∧ w'.cell? ⟨(ad944.add ((x5_1).toNat * 2)).block, (ad944.add ((x5_1).toNat * 2)).off + 1, none⟩ = some (.int .i64 ((rd_T100 l1 x5_1).f1))) (ds := []) #[false, false, false, false, false, false, false, false, false, false] ψ14 rfl rfl ⟨((HB.out.cell (World.block_lt_of_cell? w _ hw943_0)).trans hw943_0), ((HB.out.cell (World.block_lt_of_cell? w _ hw943_1)).trans hw943_1), ((HB.out.cell (World.block_lt_of_cell? w _ hw944_0)).trans hw944_0), ((HB.out.cell (World.block_lt_of_cell? w _ hw944_1)).trans hw944_1)⟩ (fun hHeld => ?_); refine with_tabW laws_eqTermS.tab6 laws_eqTermS.bits6 (fun HT_ HW_ => ?_)
 generalize wr.drew = w1_ at HB hx943_0 hx943_1 hx944_0 hx944_1 hHeld ⊢
 refine rP 0 17 ?_; refine rP 1 18 ?_; refine rP 2 19 ?_; refine rP 4 21 ?_; refine rP 5 22 ?_; refine rP 6 23 ?_; refine rT 3 20 ?_; refine rT 7 24 ?_
 refine one_ (i := 8) (N := some 25) #[true, true, true, true, true, true, true, true, true, false] rfl rfl (one_of HT_.out ψ14) ψ15 (fun K hK => ?_)
 refine goes_ Try.func75 ψ14 rfl #[.agg #[.int .i64 ((rd_T100 l0 x5_1).f0), .int .i64 ((rd_T100 l0 x5_1).f1)], .agg #[.int .i64 ((rd_T100 l1 x5_1).f0), .int .i64 ((rd_T100 l1 x5_1).f1)]] ψ16 rfl rfl ψ17 ?_
 with_reducible refine (laws_eqTerm.calls ((rd_T100 l0 x5_1).f0) ((rd_T100 l0 x5_1).f1) ((rd_T100 l1 x5_1).f0) ((rd_T100 l1 x5_1).f1) _ _ A7.out).mono ?_
 rintro e w2_ ⟨rfl, hb⟩
 refine ⟨_, rfl, ?_⟩
 replace HB := Aside0.mk (below_step ψ59 hb)
 (try clear hb)
 refine hK.out _ _ ⟨((HB.out.cell (World.block_lt_of_cell? w _ hw943_0)).trans hw943_0), ((HB.out.cell (World.block_lt_of_cell? w _ hw943_1)).trans hw943_1), ((HB.out.cell (World.block_lt_of_cell? w _ hw944_0)).trans hw944_0), ((HB.out.cell (World.block_lt_of_cell? w _ hw944_1)).trans hw944_1)⟩ (fun hHeld => ?_)
 clear hK K
 refine rN 25 ?_; refine rP 9 26 ?_
 refine done_ (done_of HT_.out ψ14) ?_
 try go_wp2
 first | (go_roundg k1; (case measure => have := HK1.out; omega); (case rel => exact ⟨(wrap64 (x5_1 + 1)), ψ0, H', ⟨ψ53⟩, ⟨ψ59⟩⟩)) | (go_ret; exact ⟨ψ9, ψ59⟩)) : P := h
set_option maxHeartbeats 8000000 in
set_option maxRecDepth 100000 in
theorem laws_eqTermS.calls (k : Nat) (A0 : Option Addr) (c0 : Nat) (l0 : List (S100)) (A1 : Option Addr) (c1 : Nat) (l1 : List (S100)) (r : Bool) (w : World) (hr0 : Kd.C k100 w A0 l0.length l0) (hc0 : l0.length ≤ c0) (hr1 : Kd.C k100 w A1 l1.length l1) (hc1 : l1.length ≤ c1) (h : laws_eqTermS.f k l0 l1 = some r) :
 Calls Try.prog 37 #[.slice A0 l0.length c0, .slice A1 l1.length c1] w fun e w' => e = .returned (.bool r) ∧ Below w.heap.size w w' := by
 have hu100 := Try.underlying100
 have HR0 := Aside0.mk hr0
 have HC0 := Aside0.mk hc0
 clear hr0 hc0
 have HR1 := Aside0.mk hr1
 have HC1 := Aside0.mk hc1
 clear hr1 hc1
 have HB := Aside0.mk (Below.refl w.heap.size w)
 have H : (if (l0.length : Int) = (l1.length : Int) then (laws_eqTermS.l0 k l0 l1 0) else (some false)) = some r := h
 clear h
 by_cases c3 : (l0.length : Int) = (l1.length : Int)
 ·rw [if_pos c3] at H
  have c3b0 : ((l0.length : Int) == (l1.length : Int)) = true := beq_iff_eq.mpr c3
  have c3b1 : ((l0.length : Int) != (l1.length : Int)) = false := bne_eq_false_iff_eq.mpr c3
  have c3b2 : (l0.length == l1.length) = true := by first | simpa using c3 | (simp at c3 ⊢; omega)
  clear c3
  have H' := Aside0.mk H
  clear H
  go_enter Try.func37, Try.ntmps37
  go_wp2
  go_loopg [5] k (fun kq v5 w' => ∃ (x5_1 : Int), v5 = .int .i64 x5_1 ∧ Aside0 (laws_eqTermS.l0 kq l0 l1 x5_1 = some r) ∧ Aside0 (kq ≤ k) ∧ Aside0 (Below w.heap.size w w'))
  case atStart => exact ⟨(0), ψ0, H', ⟨Nat.le_refl _⟩, ⟨ψ59⟩⟩
  case round =>
   clear H'
   try clear c1
   try clear p2
   try clear c3
   try clear c3b0
   try clear c3b1
   try clear c3b2
   obtain ⟨x5_1, rfl, HA, HK1, HB⟩ := hrel
   cases gk with
   | zero => exact absurd HA.out (by simp [laws_eqTermS.l0])
   | succ k1 =>
    have H := HA.out
    clear HA
    simp only [laws_eqTermS.l0] at H
    replace H := ifD H; rcases H with ⟨c4b0, H⟩ | ⟨c4b0, H⟩
    ·replace H := ifN H; obtain ⟨c5b0, H⟩ := H
     replace H := ifN H; obtain ⟨c6b0, H⟩ := H
     replace H := Option.bind_eq_some_iff.mp H
     obtain ⟨t945, A70, H⟩ := H
     have A7 := Aside0.mk A70
     clear A70
     replace H := ifB H; rcases H with ⟨rfl, H⟩ | ⟨rfl, H⟩
     ·exact τ68
     ·exact τ68
    ·obtain rfl := Option.some.inj H
     go_wp2
     go_ret
     exact ⟨ψ9, ψ59⟩
 ·rw [if_neg c3] at H
  have c3b0 : ((l0.length : Int) == (l1.length : Int)) = false := beq_eq_false_iff_ne.mpr c3
  have c3b1 : ((l0.length : Int) != (l1.length : Int)) = true := bne_iff_ne.mpr c3
  have c3b2 : (l0.length == l1.length) = false := by first | simpa using c3 | (simp at c3 ⊢; omega)
  obtain rfl := Option.some.inj H
  go_enter Try.func37, Try.ntmps37
  go_wp2
  go_ret
  exact ⟨ψ9, ψ59⟩

/-! ### laws_eqStmt: function 47 -/
def laws_eqStmt.f (k : Nat) (a0_0 : Int) (a0_1 : Int) (l0_2 : List (S100)) (l0_3 : List (S100)) (a1_0 : Int) (a1_1 : Int) (l1_2 : List (S100)) (l1_3 : List (S100)) : Option (Bool) := if a0_0 = a1_0 then (if a0_1 = a1_1 then ((laws_eqTermS.f k l0_2 l1_2).bind fun t954 => (if t954 = true then ((laws_eqTermS.f k l0_3 l1_3).bind fun t957 => (if t957 = true then (some true) else (some false))) else (some false))) else (some false)) else (some false)
set_option maxRecDepth 100000 in
theorem τ69 {P : Prop} (h : P := by
 obtain rfl := Option.some.inj H
 go_enter Try.func47, Try.ntmps47
 go_wp2_with (first | ((with_reducible refine gate_dst (N := 2) rfl ?_); refine bE 2 #[.int .i64 a0_0, .int .i64 a0_1, .slice A0_2 l0_2.length c0_2, .slice A0_3 l0_3.length c0_3] 42 ?_; intro gb10 hg w1_ hbox hb; have q := n4_ (below_step ψ61 hb) (hbox) ((ψ312 : w.heap.size ≤ gb10)) ((ψ312 : w.heap.size ≤ gb10)); clear HB; obtain ⟨HB, BK10, GW10, GE10⟩ := q; clear hb hbox hg) | ((with_reducible refine gate_dst (N := 3) rfl ?_); refine bE 3 #[.int .i64 a1_0, .int .i64 a1_1, .slice A1_2 l1_2.length c1_2, .slice A1_3 l1_3.length c1_3] 42 ?_; intro gb11 hg w2_ hbox hb; have q := n7_ (blk_below (g := gb10) ψ23 hb) (below_step ψ61 hb) (hbox) ((ψ312 : w.heap.size ≤ gb11)) ((ψ312 : w.heap.size ≤ gb11)) ((ψ304 : gb10 ≠ gb11)) ((ψ305 : gb11 ≠ gb10)); clear BK10 HB; obtain ⟨BK10, HB, BK11, GW11, GE11, NB10_11, NB11_10⟩ := q; clear hb hbox hg; have hnb1_ := NB10_11.out; have hnc1_ := NB11_10.out; obtain ⟨hczB10_0, hczB10_1, hczB10_2, hczB10_3, hfzB10_0, hfzB10_1, hfzB10_2, hfzB10_3⟩ := cells4 BK10.out; obtain ⟨hczB11_0, hczB11_1, hczB11_2, hczB11_3, hfzB11_0, hfzB11_1, hfzB11_2, hfzB11_3⟩ := cells4 BK11.out) | ((with_reducible refine gate_callee (f := 37) rfl ?_); refine gL 19 Try.func37 #[.slice A0_2 l0_2.length c0_2, .slice A1_2 l1_2.length c1_2] ?_; (with_reducible refine (laws_eqTermS.calls k _ _ l0_2 _ _ l1_2 _ _ ?_ ?_ ?_ ?_ A5.out).mono ?_); exact ψ55; exact HC0_2.out; exact ψ63; exact HC1_2.out; rintro e w3_ ⟨rfl, hb⟩; refine ⟨_, rfl, ?_⟩; have q := n3_ (blk_below (g := gb10) ψ23 hb) (blk_below (g := gb11) ψ34 hb) (below_step ψ61 hb); clear BK10 BK11 HB; obtain ⟨BK10, BK11, HB⟩ := q; (try clear hb); (try (obtain ⟨hczB10_0, hczB10_1, hczB10_2, hczB10_3, hfzB10_0, hfzB10_1, hfzB10_2, hfzB10_3⟩ := cells4 BK10.out)); (try (obtain ⟨hczB11_0, hczB11_1, hczB11_2, hczB11_3, hfzB11_0, hfzB11_1, hfzB11_2, hfzB11_3⟩ := cells4 BK11.out))) | ((with_reducible refine gate_callee (f := 37) rfl ?_); refine gL 25 Try.func37 #[.slice A0_3 l0_3.length c0_3, .slice A1_3 l1_3.length c1_3] ?_; (with_reducible refine (laws_eqTermS.calls k _ _ l0_3 _ _ l1_3 _ _ ?_ ?_ ?_ ?_ A7.out).mono ?_); exact (by repeat (first | exact (Kd.C_below HR0_3.out HB.out) | (with_reducible refine Kd.C_alloc ?_ _) | (with_reducible refine Kd.C_drewN ?_ _) | (with_reducible refine Kd.C_drew ?_))); exact HC0_3.out; exact ψ62; exact HC1_3.out; rintro e w4_ ⟨rfl, hb⟩; refine ⟨_, rfl, ?_⟩; have q := n3_ (blk_below (g := gb10) ψ23 hb) (blk_below (g := gb11) ψ34 hb) (below_step ψ61 hb); clear BK10 BK11 HB; obtain ⟨BK10, BK11, HB⟩ := q; (try clear hb)))
 go_ret
 exact ⟨ψ9, ψ61⟩) : P := h
set_option maxHeartbeats 8000000 in
set_option maxRecDepth 100000 in
theorem laws_eqStmt.calls (k : Nat) (a0_0 : Int) (a0_1 : Int) (A0_2 : Option Addr) (c0_2 : Nat) (l0_2 : List (S100)) (A0_3 : Option Addr) (c0_3 : Nat) (l0_3 : List (S100)) (a1_0 : Int) (a1_1 : Int) (A1_2 : Option Addr) (c1_2 : Nat) (l1_2 : List (S100)) (A1_3 : Option Addr) (c1_3 : Nat) (l1_3 : List (S100)) (r : Bool) (w : World) (hr0_2 : Kd.C k100 w A0_2 l0_2.length l0_2) (hc0_2 : l0_2.length ≤ c0_2) (hr0_3 : Kd.C k100 w A0_3 l0_3.length l0_3) (hc0_3 : l0_3.length ≤ c0_3) (hr1_2 : Kd.C k100 w A1_2 l1_2.length l1_2) (hc1_2 : l1_2.length ≤ c1_2) (hr1_3 : Kd.C k100 w A1_3 l1_3.length l1_3) (hc1_3 : l1_3.length ≤ c1_3) (h : laws_eqStmt.f k a0_0 a0_1 l0_2 l0_3 a1_0 a1_1 l1_2 l1_3 = some r) :
 Calls Try.prog 47 #[.agg #[.int .i64 a0_0, .int .i64 a0_1, .slice A0_2 l0_2.length c0_2, .slice A0_3 l0_3.length c0_3], .agg #[.int .i64 a1_0, .int .i64 a1_1, .slice A1_2 l1_2.length c1_2, .slice A1_3 l1_3.length c1_3]] w fun e w' => e = .returned (.bool r) ∧ Below w.heap.size w w' := by
 have hu42 := Try.underlying42
 have HR0_2 := Aside0.mk hr0_2
 have HC0_2 := Aside0.mk hc0_2
 clear hr0_2 hc0_2
 have HR0_3 := Aside0.mk hr0_3
 have HC0_3 := Aside0.mk hc0_3
 clear hr0_3 hc0_3
 have HR1_2 := Aside0.mk hr1_2
 have HC1_2 := Aside0.mk hc1_2
 clear hr1_2 hc1_2
 have HR1_3 := Aside0.mk hr1_3
 have HC1_3 := Aside0.mk hc1_3
 clear hr1_3 hc1_3
 have HB := Aside0.mk (Below.refl w.heap.size w)
 have H : (if a0_0 = a1_0 then (if a0_1 = a1_1 then ((laws_eqTermS.f k l0_2 l1_2).bind fun t954 => (if t954 = true then ((laws_eqTermS.f k l0_3 l1_3).bind fun t957 => (if t957 = true then (some true) else (some false))) else (some false))) else (some false)) else (some false)) = some r := h
 clear h
 replace H := ifF H; rcases H with ⟨c3b0, c3b1, H⟩ | ⟨c3b0, c3b1, c3, H⟩
 ·by_cases c4 : a0_1 = a1_1
  ·rw [if_pos c4] at H
   have c4b0 : (a0_1 == a1_1) = true := beq_iff_eq.mpr c4
   have c4b1 : (a0_1 != a1_1) = false := bne_eq_false_iff_eq.mpr c4
   clear c4
   replace H := Option.bind_eq_some_iff.mp H
   obtain ⟨t954, A50, H⟩ := H
   have A5 := Aside0.mk A50
   clear A50
   replace H := ifB H; rcases H with ⟨rfl, H⟩ | ⟨rfl, H⟩
   ·replace H := Option.bind_eq_some_iff.mp H
    obtain ⟨t957, A70, H⟩ := H
    have A7 := Aside0.mk A70
    clear A70
    replace H := ifB H; rcases H with ⟨rfl, H⟩ | ⟨rfl, H⟩
    ·exact τ69
    ·exact τ69
   ·exact τ69
  ·rw [if_neg c4] at H
   have c4b0 : (a0_1 == a1_1) = false := beq_eq_false_iff_ne.mpr c4
   have c4b1 : (a0_1 != a1_1) = true := bne_iff_ne.mpr c4
   exact τ69
 ·exact τ69

end Go.Proofs.Ytbjmhdoagjmmcaa.PCore

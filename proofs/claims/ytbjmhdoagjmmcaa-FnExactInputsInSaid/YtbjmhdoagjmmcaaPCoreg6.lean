/- The walks of the functions that the laws come to, part 6: turned out of the kit's print, and mended where that fell. -/
import Derived.Test.YtbjmhdoagjmmcaaPCoreg
import Derived.Test.YtbjmhdoagjmmcaaPCoreg5
namespace Go.Proofs.Ytbjmhdoagjmmcaa.PCore
open Go.RowKit Go.Proofs.YtbjmhdoagjmmcaaW.PrintWords Go.Proofs.YtbjmhdoagjmmcaaW.PrintLast Go.Proofs.YtbjmhdoagjmmcaaW.PrintMore
attribute [local go_sem] max2_int min2_int max_two min_two max_three min_three max_four min_four   -- for this text's walks alone
set_option linter.unusedVariables false
set_option linter.unusedSimpArgs false

theorem ψ124 {P : Prop} (h : P := by have := HJ1.out; have := HK2.out; first | omega | exact Nat.le_refl _) : P := h
theorem ψ125 {P : Prop} (h : P := by (with_reducible repeat (first | refine blk_drewN ?_ _ | refine blk_drew ?_ | refine blk_alloc ?_ _)); refine blk_put (cs := #[.int .i64 ((rd_T77 ((rd_T35 l0 0).f1) x27_2).f0), .int .i64 0]) ?_ 1 _ rfl; (with_reducible repeat (first | refine blk_drewN ?_ _ | refine blk_drew ?_ | refine blk_alloc ?_ _)); refine blk_put (cs := #[.int .i64 0, .int .i64 0]) ?_ 0 _ rfl; (with_reducible repeat (first | refine blk_drewN ?_ _ | refine blk_drew ?_ | refine blk_alloc ?_ _)); exact BK10.out) : P := h
theorem ψ126 {P : Prop} (h : P := by have := HJ1.out; have := HK2.out; have := HK3.out; first | omega | exact Nat.le_refl _) : P := h
theorem ψ127 {P : Prop} (h : P := by (with_reducible repeat (first | refine blk_drewN ?_ _ | refine blk_drew ?_ | refine blk_alloc ?_ _)); refine blk_put (cs := #[.int .i64 ((rd_T77 ((rd_T35 l0 0).f2) x57_3).f0), .int .i64 0]) ?_ 1 _ rfl; (with_reducible repeat (first | refine blk_drewN ?_ _ | refine blk_drew ?_ | refine blk_alloc ?_ _)); refine blk_put (cs := #[.int .i64 0, .int .i64 0]) ?_ 0 _ rfl; (with_reducible repeat (first | refine blk_drewN ?_ _ | refine blk_drew ?_ | refine blk_alloc ?_ _)); exact BK11.out) : P := h
theorem ψ128 {P : Prop} (h : P := by first | rfl | (simp; done) | (simp [*]; done) | (simp only [i64_w, i32_w]; done) | (simp [i64_w, i32_w]; done)) : P := h
theorem ψ129 {P : Prop} (h : P := by have := HJ1.out; have := HJ4.out; first | omega | exact Nat.le_refl _) : P := h
theorem ψ130 {P : Prop} (h : P := by have := World.block_lt_of_cell? _ _ hx879_0; first | rwa [add_block] at this | exact this) : P := h
theorem ψ131 {P : Prop} (h : P := by first | (rw [add_block]; exact hn879_0) | (show (Addr.add _ _).block ≠ _; rw [add_block]; exact hn879_0) | exact hn879_0) : P := h
theorem ψ132 {P : Prop} (h : P := by first | (rw [add_block]; exact hn879_1) | (show (Addr.add _ _).block ≠ _; rw [add_block]; exact hn879_1) | exact hn879_1) : P := h
theorem ψ133 {P : Prop} (h : P := by repeat (first | exact HR1.out | (with_reducible refine Kd.C_alloc ?_ _) | (with_reducible refine Kd.C_drewN ?_ _) | (with_reducible refine Kd.C_drew ?_))) : P := h
theorem ψ331 {P : Prop} (h : P := by first | exact Nat.ne_of_lt (Nat.lt_of_lt_of_le (ψ130) GW10.out) | exact Nat.ne_of_lt (Nat.lt_of_lt_of_le (ψ130) GE10.out)) : P := h
/-! ### impl_inputRight: function 60 -/
mutual
def impl_inputRight.j0 : Nat → List (S35) → Bool → Option (Bool)
 | 0, _, _ => none
 | k + 1, x0, x21 => if x21 = true then (some false) else (impl_inputRight.l0 k x0 0 ((rd_T35 x0 0).f1) (((rd_T35 x0 0).f1).length : Int) 0)
def impl_inputRight.l0 : Nat → List (S35) → Int → List (S77) → Int → Int → Option (Bool)
 | 0, _, _, _, _, _ => none
 | k + 1, x0, x3, x25, x26, x27 => if x27 < x26 then (if 0 ≤ x27 then (if x27 < (x25.length : Int) then (if ((rd_T77 x25 x27).f0) < 0 then (impl_inputRight.j2 k x0 x3 x25 x26 x27 true ((rd_T77 x25 x27).f0) ((rd_T77 x25 x27).f1)) else ((impl_greatest.f x0).bind fun t838 => (if ((rd_T77 x25 x27).f0) > t838 then (impl_inputRight.j2 k x0 x3 x25 x26 x27 true ((rd_T77 x25 x27).f0) ((rd_T77 x25 x27).f1)) else (impl_inputRight.j2 k x0 x3 x25 x26 x27 (((rd_T77 x25 x27).f1) != 0) ((rd_T77 x25 x27).f0) ((rd_T77 x25 x27).f1))))) else (none)) else (none)) else (impl_inputRight.l1 k x0 x3 ((rd_T35 x0 0).f2) (((rd_T35 x0 0).f2).length : Int) 0)
def impl_inputRight.j2 : Nat → List (S35) → Int → List (S77) → Int → Int → Bool → Int → Int → Option (Bool)
 | 0, _, _, _, _, _, _, _, _ => none
 | k + 1, x0, x3, x25, x26, x27, x45, x836000, x836001 => if x45 = true then (some false) else ((impl_bitsOf.f k x836000).bind fun t841 => (impl_inputRight.l0 k x0 (wrap64 (x3 + t841)) x25 x26 (wrap64 (x27 + 1))))
def impl_inputRight.l1 : Nat → List (S35) → Int → List (S77) → Int → Int → Option (Bool)
 | 0, _, _, _, _, _ => none
 | k + 1, x0, x3, x55, x56, x57 => if x57 < x56 then (if 0 ≤ x57 then (if x57 < (x55.length : Int) then (if ((rd_T77 x55 x57).f0) < 0 then (impl_inputRight.j4 k x0 x3 x55 x56 x57 true ((rd_T77 x55 x57).f0) ((rd_T77 x55 x57).f1)) else ((impl_greatest.f x0).bind fun t847 => (if ((rd_T77 x55 x57).f0) > t847 then (impl_inputRight.j4 k x0 x3 x55 x56 x57 true ((rd_T77 x55 x57).f0) ((rd_T77 x55 x57).f1)) else (if ((rd_T77 x55 x57).f1) < 0 then (impl_inputRight.j4 k x0 x3 x55 x56 x57 true ((rd_T77 x55 x57).f0) ((rd_T77 x55 x57).f1)) else (impl_inputRight.j4 k x0 x3 x55 x56 x57 (decide (((rd_T77 x55 x57).f1) > 99)) ((rd_T77 x55 x57).f0) ((rd_T77 x55 x57).f1)))))) else (none)) else (none)) else (some (decide (x3 ≤ 10)))
def impl_inputRight.j4 : Nat → List (S35) → Int → List (S77) → Int → Int → Bool → Int → Int → Option (Bool)
 | 0, _, _, _, _, _, _, _, _ => none
 | k + 1, x0, x3, x55, x56, x57, x80, x845000, x845001 => if x80 = true then (some false) else ((impl_bitsOf.f k x845000).bind fun t851 => (impl_inputRight.l1 k x0 (wrap64 (x3 + t851)) x55 x56 (wrap64 (x57 + 1))))
end
def impl_inputRight.f (k : Nat) (l0 : List (S35)) : Option (Bool) := if (((rd_T35 l0 0).f1).length : Int) > 3 then (impl_inputRight.j0 k l0 true) else (impl_inputRight.j0 k l0 (decide ((((rd_T35 l0 0).f2).length : Int) > 3)))
set_option maxRecDepth 100000 in
theorem τ46 {P : Prop} (h : P := by
 have H' := Aside0.mk H
 clear H
 have p831 : 0 ≤ (0 : Int) := ψ7
 have q831 : 0 < (l0.length : Int) := ψ330
 obtain ⟨ad831, A831_1, c831_1, A831_2, c831_2, A831_4, c831_4, A831_5, c831_5, e831, hx831_0, hx831_1, hx831_2, hx831_3, hx831_4, hx831_5, hl831_1, hi831_1, hl831_2, hi831_2, hl831_4, hi831_4, hl831_5, hi831_5⟩ := at_T35 HR0.out 0 p831 q831
 cases e831
 have qi831 : (0 < l0.length) = True := eq_true ψ7
 (try rw [show ((0 : Int)).toNat = 0 from rfl] at hx831_0)
 (try rw [show 0 * 6 = 0 from rfl] at hx831_0)
 (try rw [Addr.add_zero'] at hx831_0)
 (try rw [show ((0 : Int)).toNat = 0 from rfl] at hx831_1)
 (try rw [show 0 * 6 = 0 from rfl] at hx831_1)
 (try rw [Addr.add_zero'] at hx831_1)
 (try rw [show ((0 : Int)).toNat = 0 from rfl] at hx831_2)
 (try rw [show 0 * 6 = 0 from rfl] at hx831_2)
 (try rw [Addr.add_zero'] at hx831_2)
 (try rw [show ((0 : Int)).toNat = 0 from rfl] at hx831_3)
 (try rw [show 0 * 6 = 0 from rfl] at hx831_3)
 (try rw [Addr.add_zero'] at hx831_3)
 (try rw [show ((0 : Int)).toNat = 0 from rfl] at hx831_4)
 (try rw [show 0 * 6 = 0 from rfl] at hx831_4)
 (try rw [Addr.add_zero'] at hx831_4)
 (try rw [show ((0 : Int)).toNat = 0 from rfl] at hx831_5)
 (try rw [show 0 * 6 = 0 from rfl] at hx831_5)
 (try rw [Addr.add_zero'] at hx831_5)
 replace hx831_0 := (HB.out.cell (World.block_lt_of_cell? w _ hx831_0)).trans hx831_0
 replace hx831_1 := (HB.out.cell (World.block_lt_of_cell? w _ hx831_1)).trans hx831_1
 replace hx831_2 := (HB.out.cell (World.block_lt_of_cell? w _ hx831_2)).trans hx831_2
 replace hx831_3 := (HB.out.cell (World.block_lt_of_cell? w _ hx831_3)).trans hx831_3
 replace hx831_4 := (HB.out.cell (World.block_lt_of_cell? w _ hx831_4)).trans hx831_4
 replace hx831_5 := (HB.out.cell (World.block_lt_of_cell? w _ hx831_5)).trans hx831_5
 have HR831_1 := Aside0.mk hi831_1
 have HC831_1 := Aside0.mk hl831_1
 clear hi831_1 hl831_1
 have HR831_2 := Aside0.mk hi831_2
 have HC831_2 := Aside0.mk hl831_2
 clear hi831_2 hl831_2
 have HR831_4 := Aside0.mk hi831_4
 have HC831_4 := Aside0.mk hl831_4
 clear hi831_4 hl831_4
 have HR831_5 := Aside0.mk hi831_5
 have HC831_5 := Aside0.mk hl831_5
 clear hi831_5 hl831_5
 replace p831 := eq_true p831
 replace q831 := eq_true q831
 try (have p832 : 0 ≤ (0 : Int) := ψ7; have q832 : 0 < (l0.length : Int) := ψ330; obtain ⟨ad832, A832_1, c832_1, A832_2, c832_2, A832_4, c832_4, A832_5, c832_5, e832, hx832_0, hx832_1, hx832_2, hx832_3, hx832_4, hx832_5, hl832_1, hi832_1, hl832_2, hi832_2, hl832_4, hi832_4, hl832_5, hi832_5⟩ := at_T35 HR0.out 0 p832 q832; obtain rfl : ad831 = ad832 := (by injection e832); have qi832 : (0 < l0.length) = True := eq_true ψ7; (try rw [show ((0 : Int)).toNat = 0 from rfl] at hx832_0); (try rw [show 0 * 6 = 0 from rfl] at hx832_0); (try rw [Addr.add_zero'] at hx832_0); (try rw [show ((0 : Int)).toNat = 0 from rfl] at hx832_1); (try rw [show 0 * 6 = 0 from rfl] at hx832_1); (try rw [Addr.add_zero'] at hx832_1); (try rw [show ((0 : Int)).toNat = 0 from rfl] at hx832_2); (try rw [show 0 * 6 = 0 from rfl] at hx832_2); (try rw [Addr.add_zero'] at hx832_2); (try rw [show ((0 : Int)).toNat = 0 from rfl] at hx832_3); (try rw [show 0 * 6 = 0 from rfl] at hx832_3); (try rw [Addr.add_zero'] at hx832_3); (try rw [show ((0 : Int)).toNat = 0 from rfl] at hx832_4); (try rw [show 0 * 6 = 0 from rfl] at hx832_4); (try rw [Addr.add_zero'] at hx832_4); (try rw [show ((0 : Int)).toNat = 0 from rfl] at hx832_5); (try rw [show 0 * 6 = 0 from rfl] at hx832_5); (try rw [Addr.add_zero'] at hx832_5); replace hx832_0 := (HB.out.cell (World.block_lt_of_cell? w _ hx832_0)).trans hx832_0; replace hx832_1 := (HB.out.cell (World.block_lt_of_cell? w _ hx832_1)).trans hx832_1; replace hx832_2 := (HB.out.cell (World.block_lt_of_cell? w _ hx832_2)).trans hx832_2; replace hx832_3 := (HB.out.cell (World.block_lt_of_cell? w _ hx832_3)).trans hx832_3; replace hx832_4 := (HB.out.cell (World.block_lt_of_cell? w _ hx832_4)).trans hx832_4; replace hx832_5 := (HB.out.cell (World.block_lt_of_cell? w _ hx832_5)).trans hx832_5; have HR832_1 := Aside0.mk hi832_1; have HC832_1 := Aside0.mk hl832_1; clear hi832_1 hl832_1; have HR832_2 := Aside0.mk hi832_2; have HC832_2 := Aside0.mk hl832_2; clear hi832_2 hl832_2; have HR832_4 := Aside0.mk hi832_4; have HC832_4 := Aside0.mk hl832_4; clear hi832_4 hl832_4; have HR832_5 := Aside0.mk hi832_5; have HC832_5 := Aside0.mk hl832_5; clear hi832_5 hl832_5; replace p832 := eq_true p832; replace q832 := eq_true q832)
 try (have ea_ := Option.some.inj (hx831_1.symm.trans hx832_1))
 try (injection ea_ with ea_ en_ ec_)
 try (subst ea_)
 try (subst ec_)
 try (clear en_)
 try (have ea_ := Option.some.inj (hx831_2.symm.trans hx832_2))
 try (have ea_ := Option.some.inj (hx831_4.symm.trans hx832_4))
 try (have ea_ := Option.some.inj (hx831_5.symm.trans hx832_5))
 go_wp2_with (first | ((with_reducible refine qR_ ?_)) | ((with_reducible refine wpQuiet_step (fun K hK => ?_)); go_simp; first | (refine hK _ ?_; clear hK K) | (apply Exists.intro; refine ⟨fun _ => ?_, hK _ ?_⟩)) | ((with_reducible refine wpQuiet_nil ?_); rintro _ ⟨nq, rfl⟩))
 first | (go_meet; (case rel => exact ⟨_, (true), ψ0, H', ⟨ψ25⟩, ⟨ψ61⟩⟩)) | (go_meet; (case rel => exact ⟨_, (decide ((((rd_T35 l0 0).f2).length : Int) > 3)), ψ0, H', ⟨ψ25⟩, ⟨ψ61⟩⟩))) : P := h
set_option maxRecDepth 100000 in
theorem τ47 {P : Prop} (h : P := by
 have H' := Aside0.mk H
 clear H
 obtain ⟨hczB10_0, hczB10_1, hfzB10_0, hfzB10_1⟩ := cells2 BK10.out
 go_wp2_with (first | (go_at_call 88; (with_reducible refine (impl_greatest.calls _ c0 l0 _ _ ?_ ?_ ?_ A13.out).mono ?_); exact hn0; exact Kd.C_below HR0.out ψ61; exact HC0.out; rintro e w' ⟨rfl, ⟨nd, rfl⟩⟩; (try first | exact ⟨rfl, _, World.drewN_drewN _ _ _⟩ | exact ⟨rfl, _, Eq.trans (World.drewN_drewN _ _ _) (congrArg (World.drewN _) (Nat.add_assoc _ _ _))⟩)) | ((with_reducible refine qR_ ?_)) | ((with_reducible refine wpQuiet_step (fun K hK => ?_)); go_simp; first | (refine hK _ ?_; clear hK K) | (apply Exists.intro; refine ⟨fun _ => ?_, hK _ ?_⟩)) | ((with_reducible refine wpQuiet_nil ?_); rintro _ ⟨nq, rfl⟩))
 first | (go_meet; (case rel => exact ⟨_, (true), ψ0, H', ⟨ψ124⟩, ⟨ψ125⟩, ⟨ψ61⟩⟩)) | (go_meet; (case rel => exact ⟨_, ((((rd_T77 ((rd_T35 l0 0).f1) x27_2).f1) != 0)), ψ0, H', ⟨ψ124⟩, ⟨ψ125⟩, ⟨ψ61⟩⟩))) : P := h
set_option maxRecDepth 100000 in
theorem τ48 {P : Prop} (h : P := by
 first | obtain rfl := Option.some.inj H | (have H' := Aside0.mk H; clear H)
 try (obtain ⟨hczB10_0, hczB10_1, hfzB10_0, hfzB10_1⟩ := cells2 BK10.out)
 go_wp2_with (first | (go_at_call 89; (with_reducible refine (impl_bitsOf.calls kj7 ((rd_T77 ((rd_T35 l0 0).f1) x27_2).f0) _ _ A18.out).mono ?_); rintro e w' ⟨rfl, ⟨nd, rfl⟩⟩; (try first | exact ⟨rfl, _, World.drewN_drewN _ _ _⟩ | exact ⟨rfl, _, Eq.trans (World.drewN_drewN _ _ _) (congrArg (World.drewN _) (Nat.add_assoc _ _ _))⟩)) | ((with_reducible refine qR_ ?_)) | ((with_reducible refine wpQuiet_step (fun K hK => ?_)); go_simp; first | (refine hK _ ?_; clear hK K) | (apply Exists.intro; refine ⟨fun _ => ?_, hK _ ?_⟩)) | ((with_reducible refine wpQuiet_nil ?_); rintro _ ⟨nq, rfl⟩))
 first | (go_ret; exact ⟨ψ9, ψ61⟩) | (go_roundg kj7; (case measure => have := HJ1.out; have := HK2.out; have := HJ7.out; omega); (case rel => exact ⟨(wrap64 (x3_2 + t841)), (wrap64 (x27_2 + 1)), ψ0, ψ0, H', ⟨by have := HJ1.out; have := HK2.out; have := HJ7.out; omega⟩, ⟨ψ61⟩⟩))) : P := h
set_option maxRecDepth 100000 in
theorem τ49 {P : Prop} (h : P := by
 have H' := Aside0.mk H
 clear H
 obtain ⟨hczB11_0, hczB11_1, hfzB11_0, hfzB11_1⟩ := cells2 BK11.out
 go_wp2_with (first | (go_at_call 88; (with_reducible refine (impl_greatest.calls _ c0 l0 _ _ ?_ ?_ ?_ A28.out).mono ?_); exact hn0; exact Kd.C_below HR0.out ψ61; exact HC0.out; rintro e w' ⟨rfl, ⟨nd, rfl⟩⟩; (try first | exact ⟨rfl, _, World.drewN_drewN _ _ _⟩ | exact ⟨rfl, _, Eq.trans (World.drewN_drewN _ _ _) (congrArg (World.drewN _) (Nat.add_assoc _ _ _))⟩)) | ((with_reducible refine qR_ ?_)) | ((with_reducible refine wpQuiet_step (fun K hK => ?_)); go_simp; first | (refine hK _ ?_; clear hK K) | (apply Exists.intro; refine ⟨fun _ => ?_, hK _ ?_⟩)) | ((with_reducible refine wpQuiet_nil ?_); rintro _ ⟨nq, rfl⟩))
 first | (go_meet; (case rel => exact ⟨_, (true), ψ0, H', ⟨ψ126⟩, ⟨ψ127⟩, ⟨ψ61⟩⟩)) | (go_meet; (case rel => exact ⟨_, (decide (((rd_T77 ((rd_T35 l0 0).f2) x57_3).f1) > 99)), ψ0, H', ⟨ψ126⟩, ⟨ψ127⟩, ⟨ψ61⟩⟩))) : P := h
set_option maxRecDepth 100000 in
theorem τ50 {P : Prop} (h : P := by
 first | obtain rfl := Option.some.inj H | (have H' := Aside0.mk H; clear H)
 try (obtain ⟨hczB11_0, hczB11_1, hfzB11_0, hfzB11_1⟩ := cells2 BK11.out)
 go_wp2_with (first | (go_at_call 89; (with_reducible refine (impl_bitsOf.calls kj22 ((rd_T77 ((rd_T35 l0 0).f2) x57_3).f0) _ _ A35.out).mono ?_); rintro e w' ⟨rfl, ⟨nd, rfl⟩⟩; (try first | exact ⟨rfl, _, World.drewN_drewN _ _ _⟩ | exact ⟨rfl, _, Eq.trans (World.drewN_drewN _ _ _) (congrArg (World.drewN _) (Nat.add_assoc _ _ _))⟩)) | ((with_reducible refine qR_ ?_)) | ((with_reducible refine wpQuiet_step (fun K hK => ?_)); go_simp; first | (refine hK _ ?_; clear hK K) | (apply Exists.intro; refine ⟨fun _ => ?_, hK _ ?_⟩)) | ((with_reducible refine wpQuiet_nil ?_); rintro _ ⟨nq, rfl⟩))
 first | (go_ret; exact ⟨ψ9, ψ61⟩) | (go_roundg kj22; (case measure => have := HJ1.out; have := HK2.out; have := HK3.out; have := HJ22.out; omega); (case rel => exact ⟨(wrap64 (x3_3 + t851)), (wrap64 (x57_3 + 1)), ψ0, ψ0, H', ⟨by have := HJ1.out; have := HK2.out; have := HK3.out; have := HJ22.out; omega⟩, ⟨ψ61⟩⟩))) : P := h
set_option maxHeartbeats 8000000 in
set_option maxRecDepth 100000 in
theorem impl_inputRight.calls (k : Nat) (A0 : Option Addr) (c0 : Nat) (l0 : List (S35)) (r : Bool) (w : World) (hn0 : l0.length = 1) (hr0 : Kd.C k35 w A0 l0.length l0) (hc0 : l0.length ≤ c0) (h : impl_inputRight.f k l0 = some r) :
 Calls Try.prog 60 #[.pointer A0] w fun e w' => e = .returned (.bool r) ∧ Below w.heap.size w w' := by
 have hu77 := Try.underlying77
 have HR0 := Aside0.mk hr0
 have HC0 := Aside0.mk hc0
 clear hr0 hc0
 have HB := Aside0.mk (Below.refl w.heap.size w)
 have H : (if (((rd_T35 l0 0).f1).length : Int) > 3 then (impl_inputRight.j0 k l0 true) else (impl_inputRight.j0 k l0 (decide ((((rd_T35 l0 0).f2).length : Int) > 3)))) = some r := h
 clear h
 have HC2 := Aside0.mk H
 clear H
 go_enter Try.func60, Try.ntmps60
 go_upto_region 1 with (fail)
 repeat (go_quiet (fail); go_upto_region 1 with (fail))
 go_cut [21] (fun v21 wc => ∃ (kq : Nat) (x21_1 : Bool), v21 = .bool x21_1 ∧ Aside0 (impl_inputRight.j0 kq l0 x21_1 = some r) ∧ Aside0 (kq ≤ k) ∧ Aside0 (Below w.heap.size w wc))
 case first =>
  have H := HC2.out
  clear HC2
  by_cases c3 : (((rd_T35 l0 0).f1).length : Int) > 3
  ·rw [if_pos c3] at H
   have c3b0 : decide (3 < (((rd_T35 l0 0).f1).length : Int)) = true := decide_eq_true c3
   have c3b1 : decide (3 < ((rd_T35 l0 0).f1).length) = true := decide_eq_true ψ7
   clear c3
   (first | rw [c3b0] | rw [c3b1] | (simp only [i64_w, i32_w]; rw [c3b0]) | skip)
   exact τ46
  ·rw [if_neg c3] at H
   have c3b0 : decide (3 < (((rd_T35 l0 0).f1).length : Int)) = false := decide_eq_false c3
   have c3b1 : decide (3 < ((rd_T35 l0 0).f1).length) = false := decide_eq_false ψ7
   clear c3
   (first | rw [c3b0] | rw [c3b1] | (simp only [i64_w, i32_w]; rw [c3b0]) | skip)
   exact τ46
 case rest =>
  clear HC2
  try clear p2
  try clear c3
  try clear c3b0
  try clear c3b1
  try clear hx831_0
  try clear hx831_1
  try clear hx831_2
  try clear hx831_3
  try clear hx831_4
  try clear hx831_5
  try clear hx832_0
  try clear hx832_1
  try clear hx832_2
  try clear hx832_3
  try clear hx832_4
  try clear hx832_5
  try clear p831
  try clear p832
  try clear q831
  try clear q832
  obtain ⟨kq, x21_1, rfl, HA, HJ1, HB⟩ := hcut
  cases kq with
  | zero => exact absurd HA.out (by simp [impl_inputRight.j0])
  | succ kj1 =>
   have H := HA.out
   clear HA
   simp only [impl_inputRight.j0] at H
   replace H := ifB H; rcases H with ⟨rfl, H⟩ | ⟨rfl, H⟩
   ·obtain rfl := Option.some.inj H
    go_wp2_with (first | ((with_reducible refine qR_ ?_)) | ((with_reducible refine wpQuiet_step (fun K hK => ?_)); go_simp; first | (refine hK _ ?_; clear hK K) | (apply Exists.intro; refine ⟨fun _ => ?_, hK _ ?_⟩)) | ((with_reducible refine wpQuiet_nil ?_); rintro _ ⟨nq, rfl⟩))
    go_ret
    exact ⟨ψ9, ψ61⟩
   ·have H' := Aside0.mk H
    clear H
    have p833 : 0 ≤ (0 : Int) := ψ7
    have q833 : 0 < (l0.length : Int) := ψ330
    obtain ⟨ad833, A833_1, c833_1, A833_2, c833_2, A833_4, c833_4, A833_5, c833_5, e833, hx833_0, hx833_1, hx833_2, hx833_3, hx833_4, hx833_5, hl833_1, hi833_1, hl833_2, hi833_2, hl833_4, hi833_4, hl833_5, hi833_5⟩ := at_T35 HR0.out 0 p833 q833
    cases e833
    have qi833 : (0 < l0.length) = True := eq_true ψ7
    (try rw [show ((0 : Int)).toNat = 0 from rfl] at hx833_0)
    (try rw [show 0 * 6 = 0 from rfl] at hx833_0)
    (try rw [Addr.add_zero'] at hx833_0)
    (try rw [show ((0 : Int)).toNat = 0 from rfl] at hx833_1)
    (try rw [show 0 * 6 = 0 from rfl] at hx833_1)
    (try rw [Addr.add_zero'] at hx833_1)
    (try rw [show ((0 : Int)).toNat = 0 from rfl] at hx833_2)
    (try rw [show 0 * 6 = 0 from rfl] at hx833_2)
    (try rw [Addr.add_zero'] at hx833_2)
    (try rw [show ((0 : Int)).toNat = 0 from rfl] at hx833_3)
    (try rw [show 0 * 6 = 0 from rfl] at hx833_3)
    (try rw [Addr.add_zero'] at hx833_3)
    (try rw [show ((0 : Int)).toNat = 0 from rfl] at hx833_4)
    (try rw [show 0 * 6 = 0 from rfl] at hx833_4)
    (try rw [Addr.add_zero'] at hx833_4)
    (try rw [show ((0 : Int)).toNat = 0 from rfl] at hx833_5)
    (try rw [show 0 * 6 = 0 from rfl] at hx833_5)
    (try rw [Addr.add_zero'] at hx833_5)
    replace hx833_0 := (HB.out.cell (World.block_lt_of_cell? w _ hx833_0)).trans hx833_0
    replace hx833_1 := (HB.out.cell (World.block_lt_of_cell? w _ hx833_1)).trans hx833_1
    replace hx833_2 := (HB.out.cell (World.block_lt_of_cell? w _ hx833_2)).trans hx833_2
    replace hx833_3 := (HB.out.cell (World.block_lt_of_cell? w _ hx833_3)).trans hx833_3
    replace hx833_4 := (HB.out.cell (World.block_lt_of_cell? w _ hx833_4)).trans hx833_4
    replace hx833_5 := (HB.out.cell (World.block_lt_of_cell? w _ hx833_5)).trans hx833_5
    have HR833_1 := Aside0.mk hi833_1
    have HC833_1 := Aside0.mk hl833_1
    clear hi833_1 hl833_1
    have HR833_2 := Aside0.mk hi833_2
    have HC833_2 := Aside0.mk hl833_2
    clear hi833_2 hl833_2
    have HR833_4 := Aside0.mk hi833_4
    have HC833_4 := Aside0.mk hl833_4
    clear hi833_4 hl833_4
    have HR833_5 := Aside0.mk hi833_5
    have HC833_5 := Aside0.mk hl833_5
    clear hi833_5 hl833_5
    replace p833 := eq_true p833
    replace q833 := eq_true q833
    go_wp2_with (first | ((with_reducible refine qR_ ?_)) | ((with_reducible refine wpQuiet_step (fun K hK => ?_)); go_simp; first | (refine hK _ ?_; clear hK K) | (apply Exists.intro; refine ⟨fun _ => ?_, hK _ ?_⟩)) | ((with_reducible refine wpQuiet_nil ?_); rintro _ ⟨nq, rfl⟩))
    go_loopg [3, 27] kj1 (fun kq v3 v27 w' => ∃ (x3_2 : Int) (x27_2 : Int), v3 = .int .i64 x3_2 ∧ v27 = .int .i64 x27_2 ∧ Aside0 (impl_inputRight.l0 kq l0 x3_2 ((rd_T35 l0 0).f1) (((rd_T35 l0 0).f1).length : Int) x27_2 = some r) ∧ Aside0 (kq ≤ kj1) ∧ Aside0 (Below w.heap.size w w'))
    case atStart => exact ⟨(0), (0), ψ0, ψ0, H', ⟨Nat.le_refl _⟩, ⟨ψ61⟩⟩
    case round =>
     clear H'
     try clear p2
     try clear c3
     try clear c3b0
     try clear c3b1
     try clear c4
     try clear hx831_0
     try clear hx831_1
     try clear hx831_2
     try clear hx831_3
     try clear hx831_4
     try clear hx831_5
     try clear hx832_0
     try clear hx832_1
     try clear hx832_2
     try clear hx832_3
     try clear hx832_4
     try clear hx832_5
     try clear hx833_0
     try clear hx833_1
     try clear hx833_2
     try clear hx833_3
     try clear hx833_4
     try clear hx833_5
     try clear p2
     try clear p831
     try clear p832
     try clear p833
     try clear q831
     try clear q832
     try clear q833
     obtain ⟨x3_2, x27_2, rfl, rfl, HA, HK2, HB⟩ := hrel
     cases gk with
     | zero => exact absurd HA.out (by simp [impl_inputRight.l0])
     | succ k2 =>
      have H := HA.out
      clear HA
      simp only [impl_inputRight.l0] at H
      replace H := ifD H; rcases H with ⟨c5b0, H⟩ | ⟨c5b0, H⟩
      ·replace H := ifN H; obtain ⟨c6b0, H⟩ := H
       replace H := ifN H; obtain ⟨c7b0, H⟩ := H
       have HC8 := Aside0.mk H
       clear H
       have p834 : 0 ≤ (x27_2 : Int) := of_decide_eq_true ψ2
       have q834 : x27_2 < (((rd_T35 l0 0).f1).length : Int) := of_decide_eq_true ψ2
       obtain ⟨ad834, e834, hx834_0, hx834_1⟩ := at_T77 HR833_1.out x27_2 p834 q834
       cases e834
       replace hx834_0 := (HB.out.cell (World.block_lt_of_cell? w _ hx834_0)).trans hx834_0
       replace hx834_1 := (HB.out.cell (World.block_lt_of_cell? w _ hx834_1)).trans hx834_1
       replace p834 := eq_true p834
       replace q834 := eq_true q834
       go_upto_region 7 with (first | ((with_reducible refine gate_dst (N := 5) rfl ?_); (try (refine gate_guard ψ16 ?_; dsimp only)); refine bE 5 #[.int .i64 0, .int .i64 0] 77 ?_; intro gb10 hg w9 hbox hb; have q := n4_ (below_step ψ61 hb) (hbox) ((ψ312 : w.heap.size ≤ gb10)) ((ψ312 : w.heap.size ≤ gb10)); clear HB; obtain ⟨HB, BK10, GW10, GE10⟩ := q; clear hb hbox hg; obtain ⟨y10_0, y10_1, u10_0, u10_1⟩ := cells2 BK10.out))
       repeat (go_quiet (first | ((with_reducible refine gate_dst (N := 5) rfl ?_); (try (refine gate_guard ψ16 ?_; dsimp only)); refine bE 5 #[.int .i64 0, .int .i64 0] 77 ?_; intro gb10 hg w9 hbox hb; have q := n4_ (below_step ψ61 hb) (hbox) ((ψ312 : w.heap.size ≤ gb10)) ((ψ312 : w.heap.size ≤ gb10)); clear HB; obtain ⟨HB, BK10, GW10, GE10⟩ := q; clear hb hbox hg; obtain ⟨y10_0, y10_1, u10_0, u10_1⟩ := cells2 BK10.out)); go_upto_region 7 with (first | ((with_reducible refine gate_dst (N := 5) rfl ?_); (try (refine gate_guard ψ16 ?_; dsimp only)); refine bE 5 #[.int .i64 0, .int .i64 0] 77 ?_; intro gb10 hg w9 hbox hb; have q := n4_ (below_step ψ61 hb) (hbox) ((ψ312 : w.heap.size ≤ gb10)) ((ψ312 : w.heap.size ≤ gb10)); clear HB; obtain ⟨HB, BK10, GW10, GE10⟩ := q; clear hb hbox hg; obtain ⟨y10_0, y10_1, u10_0, u10_1⟩ := cells2 BK10.out)))
       (try simp only [Act.put, List.setIfInBounds_toArray, List.set_cons_zero, List.set_cons_succ])
       go_cut [45] (fun v45 wc => ∃ (kq : Nat) (x45_7 : Bool), v45 = .bool x45_7 ∧ Aside0 (impl_inputRight.j2 kq l0 x3_2 ((rd_T35 l0 0).f1) (((rd_T35 l0 0).f1).length : Int) x27_2 x45_7 ((rd_T77 ((rd_T35 l0 0).f1) x27_2).f0) ((rd_T77 ((rd_T35 l0 0).f1) x27_2).f1) = some r) ∧ Aside0 (kq ≤ k2) ∧ Aside0 (wc.heap[gb10]? = some (.cells #[.int .i64 ((rd_T77 ((rd_T35 l0 0).f1) x27_2).f0), .int .i64 ((rd_T77 ((rd_T35 l0 0).f1) x27_2).f1)] 77 (0, 0))) ∧ Aside0 (Below w.heap.size w wc))
       case first =>
        have H := HC8.out
        clear HC8
        replace H := ifD H; rcases H with ⟨c11b0, H⟩ | ⟨c11b0, H⟩
        ·(first | rw [c11b0] | (simp only [i64_w, i32_w]; rw [c11b0]) | skip)
         exact τ47
        ·(first | rw [c11b0] | (simp only [i64_w, i32_w]; rw [c11b0]) | skip)
         replace H := Option.bind_eq_some_iff.mp H
         obtain ⟨t838, A130, H⟩ := H
         have A13 := Aside0.mk A130
         clear A130
         replace H := ifG H; rcases H with ⟨c14b0, H⟩ | ⟨c14b0, H⟩
         ·exact τ47
         ·exact τ47
       case rest =>
        clear HC8
        try clear c1
        try clear p2
        try clear c3
        try clear c3b0
        try clear c3b1
        try clear c4
        try clear c5
        try clear c5b0
        try clear c6
        try clear c6b0
        try clear c7
        try clear c7b0
        try clear c8
        try clear p8
        try clear q8
        try clear hx8
        try clear qi8
        try clear c11
        try clear c11b0
        try clear c14
        try clear c14b0
        try clear y10_0 y10_1
        try clear y12_0 y12_1
        try clear y15_0 y15_1
        try clear y16_0 y16_1
        try clear u10_0 u10_1
        try clear u12_0 u12_1
        try clear u15_0 u15_1
        try clear u16_0 u16_1
        try clear hx831_0
        try clear hx831_1
        try clear hx831_2
        try clear hx831_3
        try clear hx831_4
        try clear hx831_5
        try clear hx832_0
        try clear hx832_1
        try clear hx832_2
        try clear hx832_3
        try clear hx832_4
        try clear hx832_5
        try clear hx833_0
        try clear hx833_1
        try clear hx833_2
        try clear hx833_3
        try clear hx833_4
        try clear hx833_5
        try clear hx834_0
        try clear hx834_1
        try clear p2
        try clear p831
        try clear p832
        try clear p833
        try clear p834
        try clear q831
        try clear q832
        try clear q833
        try clear q834
        obtain ⟨kq, x45_7, rfl, HA, HJ7, BK10, HB⟩ := hcut
        cases kq with
        | zero => exact absurd HA.out (by simp [impl_inputRight.j2])
        | succ kj7 =>
         have H := HA.out
         clear HA
         simp only [impl_inputRight.j2] at H
         replace H := ifB H; rcases H with ⟨rfl, H⟩ | ⟨rfl, H⟩
         ·exact τ48
         ·replace H := Option.bind_eq_some_iff.mp H
          obtain ⟨t841, A180, H⟩ := H
          have A18 := Aside0.mk A180
          clear A180
          exact τ48
      ·have H' := Aside0.mk H
       clear H
       have p842 : 0 ≤ (0 : Int) := ψ7
       have q842 : 0 < (l0.length : Int) := ψ330
       obtain ⟨ad842, A842_1, c842_1, A842_2, c842_2, A842_4, c842_4, A842_5, c842_5, e842, hx842_0, hx842_1, hx842_2, hx842_3, hx842_4, hx842_5, hl842_1, hi842_1, hl842_2, hi842_2, hl842_4, hi842_4, hl842_5, hi842_5⟩ := at_T35 HR0.out 0 p842 q842
       obtain rfl : ad833 = ad842 := (by injection e842)
       have qi842 : (0 < l0.length) = True := eq_true ψ7
       (try rw [show ((0 : Int)).toNat = 0 from rfl] at hx842_0)
       (try rw [show 0 * 6 = 0 from rfl] at hx842_0)
       (try rw [Addr.add_zero'] at hx842_0)
       (try rw [show ((0 : Int)).toNat = 0 from rfl] at hx842_1)
       (try rw [show 0 * 6 = 0 from rfl] at hx842_1)
       (try rw [Addr.add_zero'] at hx842_1)
       (try rw [show ((0 : Int)).toNat = 0 from rfl] at hx842_2)
       (try rw [show 0 * 6 = 0 from rfl] at hx842_2)
       (try rw [Addr.add_zero'] at hx842_2)
       (try rw [show ((0 : Int)).toNat = 0 from rfl] at hx842_3)
       (try rw [show 0 * 6 = 0 from rfl] at hx842_3)
       (try rw [Addr.add_zero'] at hx842_3)
       (try rw [show ((0 : Int)).toNat = 0 from rfl] at hx842_4)
       (try rw [show 0 * 6 = 0 from rfl] at hx842_4)
       (try rw [Addr.add_zero'] at hx842_4)
       (try rw [show ((0 : Int)).toNat = 0 from rfl] at hx842_5)
       (try rw [show 0 * 6 = 0 from rfl] at hx842_5)
       (try rw [Addr.add_zero'] at hx842_5)
       replace hx842_0 := (HB.out.cell (World.block_lt_of_cell? w _ hx842_0)).trans hx842_0
       replace hx842_1 := (HB.out.cell (World.block_lt_of_cell? w _ hx842_1)).trans hx842_1
       replace hx842_2 := (HB.out.cell (World.block_lt_of_cell? w _ hx842_2)).trans hx842_2
       replace hx842_3 := (HB.out.cell (World.block_lt_of_cell? w _ hx842_3)).trans hx842_3
       replace hx842_4 := (HB.out.cell (World.block_lt_of_cell? w _ hx842_4)).trans hx842_4
       replace hx842_5 := (HB.out.cell (World.block_lt_of_cell? w _ hx842_5)).trans hx842_5
       have HR842_1 := Aside0.mk hi842_1
       have HC842_1 := Aside0.mk hl842_1
       clear hi842_1 hl842_1
       have HR842_2 := Aside0.mk hi842_2
       have HC842_2 := Aside0.mk hl842_2
       clear hi842_2 hl842_2
       have HR842_4 := Aside0.mk hi842_4
       have HC842_4 := Aside0.mk hl842_4
       clear hi842_4 hl842_4
       have HR842_5 := Aside0.mk hi842_5
       have HC842_5 := Aside0.mk hl842_5
       clear hi842_5 hl842_5
       replace p842 := eq_true p842
       replace q842 := eq_true q842
       go_wp2_with (first | ((with_reducible refine qR_ ?_)) | ((with_reducible refine wpQuiet_step (fun K hK => ?_)); go_simp; first | (refine hK _ ?_; clear hK K) | (apply Exists.intro; refine ⟨fun _ => ?_, hK _ ?_⟩)) | ((with_reducible refine wpQuiet_nil ?_); rintro _ ⟨nq, rfl⟩))
       go_loopg [3, 57] k2 (fun kq v3 v57 w' => ∃ (x3_3 : Int) (x57_3 : Int), v3 = .int .i64 x3_3 ∧ v57 = .int .i64 x57_3 ∧ Aside0 (impl_inputRight.l1 kq l0 x3_3 ((rd_T35 l0 0).f2) (((rd_T35 l0 0).f2).length : Int) x57_3 = some r) ∧ Aside0 (kq ≤ k2) ∧ Aside0 (Below w.heap.size w w'))
       case atStart => exact ⟨(x3_2), (0), ψ0, ψ0, H', ⟨Nat.le_refl _⟩, ⟨ψ61⟩⟩
       case round =>
        clear H'
        try clear c1
        try clear p2
        try clear c3
        try clear c3b0
        try clear c3b1
        try clear c4
        try clear c5
        try clear c5b0
        try clear c6
        try clear c6b0
        try clear p6
        try clear c7
        try clear c7b0
        try clear c8
        try clear p8
        try clear q8
        try clear hx8
        try clear qi8
        try clear c11
        try clear c11b0
        try clear c14
        try clear c14b0
        try clear c17
        try clear y10_0 y10_1
        try clear y12_0 y12_1
        try clear y15_0 y15_1
        try clear y16_0 y16_1
        try clear y19_0 y19_1
        try clear u10_0 u10_1
        try clear u12_0 u12_1
        try clear u15_0 u15_1
        try clear u16_0 u16_1
        try clear u19_0 u19_1
        try clear hx831_0
        try clear hx831_1
        try clear hx831_2
        try clear hx831_3
        try clear hx831_4
        try clear hx831_5
        try clear hx832_0
        try clear hx832_1
        try clear hx832_2
        try clear hx832_3
        try clear hx832_4
        try clear hx832_5
        try clear hx833_0
        try clear hx833_1
        try clear hx833_2
        try clear hx833_3
        try clear hx833_4
        try clear hx833_5
        try clear hx834_0
        try clear hx834_1
        try clear hx842_0
        try clear hx842_1
        try clear hx842_2
        try clear hx842_3
        try clear hx842_4
        try clear hx842_5
        try clear p2
        try clear p8
        try clear p831
        try clear p832
        try clear p833
        try clear p834
        try clear p842
        try clear q8
        try clear q831
        try clear q832
        try clear q833
        try clear q834
        try clear q842
        obtain ⟨x3_3, x57_3, rfl, rfl, HA, HK3, HB⟩ := hrel
        cases gk with
        | zero => exact absurd HA.out (by simp [impl_inputRight.l1])
        | succ k3 =>
         have H := HA.out
         clear HA
         simp only [impl_inputRight.l1] at H
         replace H := ifD H; rcases H with ⟨c20b0, H⟩ | ⟨c20b0, H⟩
         ·replace H := ifN H; obtain ⟨c21b0, H⟩ := H
          replace H := ifN H; obtain ⟨c22b0, H⟩ := H
          have HC23 := Aside0.mk H
          clear H
          have p843 : 0 ≤ (x57_3 : Int) := of_decide_eq_true ψ2
          have q843 : x57_3 < (((rd_T35 l0 0).f2).length : Int) := of_decide_eq_true ψ2
          obtain ⟨ad843, e843, hx843_0, hx843_1⟩ := at_T77 HR842_2.out x57_3 p843 q843
          cases e843
          replace hx843_0 := (HB.out.cell (World.block_lt_of_cell? w _ hx843_0)).trans hx843_0
          replace hx843_1 := (HB.out.cell (World.block_lt_of_cell? w _ hx843_1)).trans hx843_1
          replace p843 := eq_true p843
          replace q843 := eq_true q843
          go_upto_region 14 with (first | ((with_reducible refine gate_dst (N := 7) rfl ?_); (try (refine gate_guard ψ16 ?_; dsimp only)); refine bE 7 #[.int .i64 0, .int .i64 0] 77 ?_; intro gb11 hg w24 hbox hb; have q := n4_ (below_step ψ61 hb) (hbox) ((ψ312 : w.heap.size ≤ gb11)) ((ψ312 : w.heap.size ≤ gb11)); clear HB; obtain ⟨HB, BK11, GW11, GE11⟩ := q; clear hb hbox hg; obtain ⟨y25_0, y25_1, u25_0, u25_1⟩ := cells2 BK11.out))
          repeat (go_quiet (first | ((with_reducible refine gate_dst (N := 7) rfl ?_); (try (refine gate_guard ψ16 ?_; dsimp only)); refine bE 7 #[.int .i64 0, .int .i64 0] 77 ?_; intro gb11 hg w24 hbox hb; have q := n4_ (below_step ψ61 hb) (hbox) ((ψ312 : w.heap.size ≤ gb11)) ((ψ312 : w.heap.size ≤ gb11)); clear HB; obtain ⟨HB, BK11, GW11, GE11⟩ := q; clear hb hbox hg; obtain ⟨y25_0, y25_1, u25_0, u25_1⟩ := cells2 BK11.out)); go_upto_region 14 with (first | ((with_reducible refine gate_dst (N := 7) rfl ?_); (try (refine gate_guard ψ16 ?_; dsimp only)); refine bE 7 #[.int .i64 0, .int .i64 0] 77 ?_; intro gb11 hg w24 hbox hb; have q := n4_ (below_step ψ61 hb) (hbox) ((ψ312 : w.heap.size ≤ gb11)) ((ψ312 : w.heap.size ≤ gb11)); clear HB; obtain ⟨HB, BK11, GW11, GE11⟩ := q; clear hb hbox hg; obtain ⟨y25_0, y25_1, u25_0, u25_1⟩ := cells2 BK11.out)))
          (try simp only [Act.put, List.setIfInBounds_toArray, List.set_cons_zero, List.set_cons_succ])
          go_cut [80] (fun v80 wc => ∃ (kq : Nat) (x80_22 : Bool), v80 = .bool x80_22 ∧ Aside0 (impl_inputRight.j4 kq l0 x3_3 ((rd_T35 l0 0).f2) (((rd_T35 l0 0).f2).length : Int) x57_3 x80_22 ((rd_T77 ((rd_T35 l0 0).f2) x57_3).f0) ((rd_T77 ((rd_T35 l0 0).f2) x57_3).f1) = some r) ∧ Aside0 (kq ≤ k3) ∧ Aside0 (wc.heap[gb11]? = some (.cells #[.int .i64 ((rd_T77 ((rd_T35 l0 0).f2) x57_3).f0), .int .i64 ((rd_T77 ((rd_T35 l0 0).f2) x57_3).f1)] 77 (0, 0))) ∧ Aside0 (Below w.heap.size w wc))
          case first =>
           have H := HC23.out
           clear HC23
           replace H := ifD H; rcases H with ⟨c26b0, H⟩ | ⟨c26b0, H⟩
           ·(first | rw [c26b0] | (simp only [i64_w, i32_w]; rw [c26b0]) | skip)
            exact τ49
           ·(first | rw [c26b0] | (simp only [i64_w, i32_w]; rw [c26b0]) | skip)
            replace H := Option.bind_eq_some_iff.mp H
            obtain ⟨t847, A280, H⟩ := H
            have A28 := Aside0.mk A280
            clear A280
            replace H := ifG H; rcases H with ⟨c29b0, H⟩ | ⟨c29b0, H⟩
            ·exact τ49
            ·replace H := ifD H; rcases H with ⟨c31b0, H⟩ | ⟨c31b0, H⟩
             ·exact τ49
             ·exact τ49
          case rest =>
           clear HC23
           try clear c1
           try clear c2
           try clear p2
           try clear c3
           try clear c3b0
           try clear c3b1
           try clear c4
           try clear c5
           try clear c5b0
           try clear c6
           try clear c6b0
           try clear p6
           try clear c7
           try clear c7b0
           try clear c8
           try clear p8
           try clear q8
           try clear hx8
           try clear qi8
           try clear c11
           try clear c11b0
           try clear c14
           try clear c14b0
           try clear c17
           try clear c20
           try clear c20b0
           try clear c21
           try clear c21b0
           try clear c22
           try clear c22b0
           try clear c26
           try clear c26b0
           try clear c29
           try clear c29b0
           try clear c31
           try clear c31b0
           try clear y10_0 y10_1
           try clear y12_0 y12_1
           try clear y15_0 y15_1
           try clear y16_0 y16_1
           try clear y19_0 y19_1
           try clear y25_0 y25_1
           try clear y27_0 y27_1
           try clear y30_0 y30_1
           try clear y32_0 y32_1
           try clear y33_0 y33_1
           try clear u10_0 u10_1
           try clear u12_0 u12_1
           try clear u15_0 u15_1
           try clear u16_0 u16_1
           try clear u19_0 u19_1
           try clear u25_0 u25_1
           try clear u27_0 u27_1
           try clear u30_0 u30_1
           try clear u32_0 u32_1
           try clear u33_0 u33_1
           try clear hx831_0
           try clear hx831_1
           try clear hx831_2
           try clear hx831_3
           try clear hx831_4
           try clear hx831_5
           try clear hx832_0
           try clear hx832_1
           try clear hx832_2
           try clear hx832_3
           try clear hx832_4
           try clear hx832_5
           try clear hx833_0
           try clear hx833_1
           try clear hx833_2
           try clear hx833_3
           try clear hx833_4
           try clear hx833_5
           try clear hx834_0
           try clear hx834_1
           try clear hx842_0
           try clear hx842_1
           try clear hx842_2
           try clear hx842_3
           try clear hx842_4
           try clear hx842_5
           try clear hx843_0
           try clear hx843_1
           try clear p2
           try clear p6
           try clear p8
           try clear p831
           try clear p832
           try clear p833
           try clear p834
           try clear p842
           try clear p843
           try clear q8
           try clear q831
           try clear q832
           try clear q833
           try clear q834
           try clear q842
           try clear q843
           obtain ⟨kq, x80_22, rfl, HA, HJ22, BK11, HB⟩ := hcut
           cases kq with
           | zero => exact absurd HA.out (by simp [impl_inputRight.j4])
           | succ kj22 =>
            have H := HA.out
            clear HA
            simp only [impl_inputRight.j4] at H
            replace H := ifB H; rcases H with ⟨rfl, H⟩ | ⟨rfl, H⟩
            ·exact τ50
            ·replace H := Option.bind_eq_some_iff.mp H
             obtain ⟨t851, A350, H⟩ := H
             have A35 := Aside0.mk A350
             clear A350
             exact τ50
         ·obtain rfl := Option.some.inj H
          go_wp2_with (first | ((with_reducible refine qR_ ?_)) | ((with_reducible refine wpQuiet_step (fun K hK => ?_)); go_simp; first | (refine hK _ ?_; clear hK K) | (apply Exists.intro; refine ⟨fun _ => ?_, hK _ ?_⟩)) | ((with_reducible refine wpQuiet_nil ?_); rintro _ ⟨nq, rfl⟩))
          go_ret
          exact ⟨ψ9, ψ61⟩

/-! ### impl_roomRight: function 61 -/
mutual
def impl_roomRight.j0 : Nat → List (S35) → Bool → Option (Bool)
 | 0, _, _ => none
 | k + 1, x0, x32 => if x32 = true then (some false) else (impl_roomRight.l0 k ((rd_T35 x0 0).f4) (((rd_T35 x0 0).f4).length : Int) 0)
def impl_roomRight.l0 : Nat → List Int → Int → Int → Option (Bool)
 | 0, _, _, _ => none
 | k + 1, x36, x37, x38 => if x38 < x37 then (if 0 ≤ x38 then (if x38 < (x36.length : Int) then (if (rd x36 x38) < 1 then (some false) else (if (rd x36 x38) > 6 then (some false) else (impl_roomRight.l0 k x36 x37 (wrap64 (x38 + 1))))) else (none)) else (none)) else (some true)
end
def impl_roomRight.f (k : Nat) (l0 : List (S35)) : Option (Bool) := if ((rd_T35 l0 0).f3) < 0 then (impl_roomRight.j0 k l0 true) else (if ((rd_T35 l0 0).f3) > 6 then (impl_roomRight.j0 k l0 true) else (if (((rd_T35 l0 0).f4).length : Int) > 2 then (impl_roomRight.j0 k l0 true) else (impl_roomRight.j0 k l0 (decide ((((rd_T35 l0 0).f5).length : Int) > 40)))))
set_option maxRecDepth 100000 in
theorem τ51 {P : Prop} (h : P := by
 have H' := Aside0.mk H
 clear H
 have p852 : 0 ≤ (0 : Int) := ψ7
 have q852 : 0 < (l0.length : Int) := ψ330
 obtain ⟨ad852, A852_1, c852_1, A852_2, c852_2, A852_4, c852_4, A852_5, c852_5, e852, hx852_0, hx852_1, hx852_2, hx852_3, hx852_4, hx852_5, hl852_1, hi852_1, hl852_2, hi852_2, hl852_4, hi852_4, hl852_5, hi852_5⟩ := at_T35 HR0.out 0 p852 q852
 cases e852
 have qi852 : (0 < l0.length) = True := eq_true ψ7
 (try rw [show ((0 : Int)).toNat = 0 from rfl] at hx852_0)
 (try rw [show 0 * 6 = 0 from rfl] at hx852_0)
 (try rw [Addr.add_zero'] at hx852_0)
 (try rw [show ((0 : Int)).toNat = 0 from rfl] at hx852_1)
 (try rw [show 0 * 6 = 0 from rfl] at hx852_1)
 (try rw [Addr.add_zero'] at hx852_1)
 (try rw [show ((0 : Int)).toNat = 0 from rfl] at hx852_2)
 (try rw [show 0 * 6 = 0 from rfl] at hx852_2)
 (try rw [Addr.add_zero'] at hx852_2)
 (try rw [show ((0 : Int)).toNat = 0 from rfl] at hx852_3)
 (try rw [show 0 * 6 = 0 from rfl] at hx852_3)
 (try rw [Addr.add_zero'] at hx852_3)
 (try rw [show ((0 : Int)).toNat = 0 from rfl] at hx852_4)
 (try rw [show 0 * 6 = 0 from rfl] at hx852_4)
 (try rw [Addr.add_zero'] at hx852_4)
 (try rw [show ((0 : Int)).toNat = 0 from rfl] at hx852_5)
 (try rw [show 0 * 6 = 0 from rfl] at hx852_5)
 (try rw [Addr.add_zero'] at hx852_5)
 have HR852_1 := Aside0.mk hi852_1
 have HC852_1 := Aside0.mk hl852_1
 clear hi852_1 hl852_1
 have HR852_2 := Aside0.mk hi852_2
 have HC852_2 := Aside0.mk hl852_2
 clear hi852_2 hl852_2
 have HR852_4 := Aside0.mk hi852_4
 have HC852_4 := Aside0.mk hl852_4
 clear hi852_4 hl852_4
 have HR852_5 := Aside0.mk hi852_5
 have HC852_5 := Aside0.mk hl852_5
 clear hi852_5 hl852_5
 replace p852 := eq_true p852
 replace q852 := eq_true q852
 try (have p853 : 0 ≤ (0 : Int) := ψ7; have q853 : 0 < (l0.length : Int) := ψ330; obtain ⟨ad853, A853_1, c853_1, A853_2, c853_2, A853_4, c853_4, A853_5, c853_5, e853, hx853_0, hx853_1, hx853_2, hx853_3, hx853_4, hx853_5, hl853_1, hi853_1, hl853_2, hi853_2, hl853_4, hi853_4, hl853_5, hi853_5⟩ := at_T35 HR0.out 0 p853 q853; obtain rfl : ad852 = ad853 := (by injection e853); have qi853 : (0 < l0.length) = True := eq_true ψ7; (try rw [show ((0 : Int)).toNat = 0 from rfl] at hx853_0); (try rw [show 0 * 6 = 0 from rfl] at hx853_0); (try rw [Addr.add_zero'] at hx853_0); (try rw [show ((0 : Int)).toNat = 0 from rfl] at hx853_1); (try rw [show 0 * 6 = 0 from rfl] at hx853_1); (try rw [Addr.add_zero'] at hx853_1); (try rw [show ((0 : Int)).toNat = 0 from rfl] at hx853_2); (try rw [show 0 * 6 = 0 from rfl] at hx853_2); (try rw [Addr.add_zero'] at hx853_2); (try rw [show ((0 : Int)).toNat = 0 from rfl] at hx853_3); (try rw [show 0 * 6 = 0 from rfl] at hx853_3); (try rw [Addr.add_zero'] at hx853_3); (try rw [show ((0 : Int)).toNat = 0 from rfl] at hx853_4); (try rw [show 0 * 6 = 0 from rfl] at hx853_4); (try rw [Addr.add_zero'] at hx853_4); (try rw [show ((0 : Int)).toNat = 0 from rfl] at hx853_5); (try rw [show 0 * 6 = 0 from rfl] at hx853_5); (try rw [Addr.add_zero'] at hx853_5); have HR853_1 := Aside0.mk hi853_1; have HC853_1 := Aside0.mk hl853_1; clear hi853_1 hl853_1; have HR853_2 := Aside0.mk hi853_2; have HC853_2 := Aside0.mk hl853_2; clear hi853_2 hl853_2; have HR853_4 := Aside0.mk hi853_4; have HC853_4 := Aside0.mk hl853_4; clear hi853_4 hl853_4; have HR853_5 := Aside0.mk hi853_5; have HC853_5 := Aside0.mk hl853_5; clear hi853_5 hl853_5; replace p853 := eq_true p853; replace q853 := eq_true q853)
 try (have ea_ := Option.some.inj (hx852_1.symm.trans hx853_1))
 try (injection ea_ with ea_ en_ ec_)
 try (subst ea_)
 try (subst ec_)
 try (clear en_)
 try (have ea_ := Option.some.inj (hx852_2.symm.trans hx853_2))
 try (have ea_ := Option.some.inj (hx852_4.symm.trans hx853_4))
 try (have ea_ := Option.some.inj (hx852_5.symm.trans hx853_5))
 try (have p854 : 0 ≤ (0 : Int) := ψ7; have q854 : 0 < (l0.length : Int) := ψ330; obtain ⟨ad854, A854_1, c854_1, A854_2, c854_2, A854_4, c854_4, A854_5, c854_5, e854, hx854_0, hx854_1, hx854_2, hx854_3, hx854_4, hx854_5, hl854_1, hi854_1, hl854_2, hi854_2, hl854_4, hi854_4, hl854_5, hi854_5⟩ := at_T35 HR0.out 0 p854 q854; obtain rfl : ad852 = ad854 := (by injection e854); have qi854 : (0 < l0.length) = True := eq_true ψ7; (try rw [show ((0 : Int)).toNat = 0 from rfl] at hx854_0); (try rw [show 0 * 6 = 0 from rfl] at hx854_0); (try rw [Addr.add_zero'] at hx854_0); (try rw [show ((0 : Int)).toNat = 0 from rfl] at hx854_1); (try rw [show 0 * 6 = 0 from rfl] at hx854_1); (try rw [Addr.add_zero'] at hx854_1); (try rw [show ((0 : Int)).toNat = 0 from rfl] at hx854_2); (try rw [show 0 * 6 = 0 from rfl] at hx854_2); (try rw [Addr.add_zero'] at hx854_2); (try rw [show ((0 : Int)).toNat = 0 from rfl] at hx854_3); (try rw [show 0 * 6 = 0 from rfl] at hx854_3); (try rw [Addr.add_zero'] at hx854_3); (try rw [show ((0 : Int)).toNat = 0 from rfl] at hx854_4); (try rw [show 0 * 6 = 0 from rfl] at hx854_4); (try rw [Addr.add_zero'] at hx854_4); (try rw [show ((0 : Int)).toNat = 0 from rfl] at hx854_5); (try rw [show 0 * 6 = 0 from rfl] at hx854_5); (try rw [Addr.add_zero'] at hx854_5); have HR854_1 := Aside0.mk hi854_1; have HC854_1 := Aside0.mk hl854_1; clear hi854_1 hl854_1; have HR854_2 := Aside0.mk hi854_2; have HC854_2 := Aside0.mk hl854_2; clear hi854_2 hl854_2; have HR854_4 := Aside0.mk hi854_4; have HC854_4 := Aside0.mk hl854_4; clear hi854_4 hl854_4; have HR854_5 := Aside0.mk hi854_5; have HC854_5 := Aside0.mk hl854_5; clear hi854_5 hl854_5; replace p854 := eq_true p854; replace q854 := eq_true q854)
 try (have ea_ := Option.some.inj (hx852_1.symm.trans hx854_1))
 try (have ea_ := Option.some.inj (hx852_2.symm.trans hx854_2))
 try (have ea_ := Option.some.inj (hx852_4.symm.trans hx854_4))
 try (have ea_ := Option.some.inj (hx852_5.symm.trans hx854_5))
 try (have p855 : 0 ≤ (0 : Int) := ψ7; have q855 : 0 < (l0.length : Int) := ψ330; obtain ⟨ad855, A855_1, c855_1, A855_2, c855_2, A855_4, c855_4, A855_5, c855_5, e855, hx855_0, hx855_1, hx855_2, hx855_3, hx855_4, hx855_5, hl855_1, hi855_1, hl855_2, hi855_2, hl855_4, hi855_4, hl855_5, hi855_5⟩ := at_T35 HR0.out 0 p855 q855; obtain rfl : ad852 = ad855 := (by injection e855); have qi855 : (0 < l0.length) = True := eq_true ψ7; (try rw [show ((0 : Int)).toNat = 0 from rfl] at hx855_0); (try rw [show 0 * 6 = 0 from rfl] at hx855_0); (try rw [Addr.add_zero'] at hx855_0); (try rw [show ((0 : Int)).toNat = 0 from rfl] at hx855_1); (try rw [show 0 * 6 = 0 from rfl] at hx855_1); (try rw [Addr.add_zero'] at hx855_1); (try rw [show ((0 : Int)).toNat = 0 from rfl] at hx855_2); (try rw [show 0 * 6 = 0 from rfl] at hx855_2); (try rw [Addr.add_zero'] at hx855_2); (try rw [show ((0 : Int)).toNat = 0 from rfl] at hx855_3); (try rw [show 0 * 6 = 0 from rfl] at hx855_3); (try rw [Addr.add_zero'] at hx855_3); (try rw [show ((0 : Int)).toNat = 0 from rfl] at hx855_4); (try rw [show 0 * 6 = 0 from rfl] at hx855_4); (try rw [Addr.add_zero'] at hx855_4); (try rw [show ((0 : Int)).toNat = 0 from rfl] at hx855_5); (try rw [show 0 * 6 = 0 from rfl] at hx855_5); (try rw [Addr.add_zero'] at hx855_5); have HR855_1 := Aside0.mk hi855_1; have HC855_1 := Aside0.mk hl855_1; clear hi855_1 hl855_1; have HR855_2 := Aside0.mk hi855_2; have HC855_2 := Aside0.mk hl855_2; clear hi855_2 hl855_2; have HR855_4 := Aside0.mk hi855_4; have HC855_4 := Aside0.mk hl855_4; clear hi855_4 hl855_4; have HR855_5 := Aside0.mk hi855_5; have HC855_5 := Aside0.mk hl855_5; clear hi855_5 hl855_5; replace p855 := eq_true p855; replace q855 := eq_true q855)
 try (have ea_ := Option.some.inj (hx852_1.symm.trans hx855_1))
 try (have ea_ := Option.some.inj (hx852_2.symm.trans hx855_2))
 try (have ea_ := Option.some.inj (hx852_4.symm.trans hx855_4))
 try (have ea_ := Option.some.inj (hx852_5.symm.trans hx855_5))
 go_wp2
 first | (go_meet; (case rel => exact ⟨_, (true), ψ0, H', ⟨ψ25⟩, ψ1⟩)) | (go_meet; (case rel => exact ⟨_, (decide ((((rd_T35 l0 0).f5).length : Int) > 40)), ψ0, H', ⟨ψ25⟩, ψ1⟩))) : P := h
set_option maxRecDepth 100000 in
theorem τ52 {P : Prop} (h : P := by
 first | obtain rfl := Option.some.inj H | (have H' := Aside0.mk H; clear H)
 try (have p857 : 0 ≤ (x38_2 : Int) := of_decide_eq_true ψ2; have q857 : x38_2 < (((rd_T35 l0 0).f4).length : Int) := of_decide_eq_true ψ2; obtain ⟨ad857, e857, hx857_0⟩ := Kd.at_int HR856_4.out x38_2 p857 q857; cases e857; replace p857 := eq_true p857; replace q857 := eq_true q857)
 go_wp2
 first | (go_ret; exact ⟨ψ128, ψ1⟩) | (go_roundg k2; (case measure => have := HJ1.out; have := HK2.out; omega); (case rel => exact ⟨(wrap64 (x38_2 + 1)), ψ0, H', ⟨ψ58⟩, ψ1⟩))) : P := h
set_option maxHeartbeats 8000000 in
set_option maxRecDepth 100000 in
theorem impl_roomRight.calls (k : Nat) (A0 : Option Addr) (c0 : Nat) (l0 : List (S35)) (r : Bool) (w : World) (hn0 : l0.length = 1) (hr0 : Kd.C k35 w A0 l0.length l0) (hc0 : l0.length ≤ c0) (h : impl_roomRight.f k l0 = some r) :
 Calls Try.prog 61 #[.pointer A0] w fun e w' => e = .returned (.bool r) ∧ Drawn0 w w' := by
 have HR0 := Aside0.mk hr0
 have HC0 := Aside0.mk hc0
 clear hr0 hc0
 have H : (if ((rd_T35 l0 0).f3) < 0 then (impl_roomRight.j0 k l0 true) else (if ((rd_T35 l0 0).f3) > 6 then (impl_roomRight.j0 k l0 true) else (if (((rd_T35 l0 0).f4).length : Int) > 2 then (impl_roomRight.j0 k l0 true) else (impl_roomRight.j0 k l0 (decide ((((rd_T35 l0 0).f5).length : Int) > 40)))))) = some r := h
 clear h
 have HC2 := Aside0.mk H
 clear H
 go_enter Try.func61, Try.ntmps61
 go_upto_region 1 with (fail)
 go_cut [32] (fun v32 wc => ∃ (kq : Nat) (x32_1 : Bool), v32 = .bool x32_1 ∧ Aside0 (impl_roomRight.j0 kq l0 x32_1 = some r) ∧ Aside0 (kq ≤ k) ∧ Drawn0 w wc)
 case first =>
  have H := HC2.out
  clear HC2
  replace H := ifD H; rcases H with ⟨c3b0, H⟩ | ⟨c3b0, H⟩
  ·(first | rw [c3b0] | (simp only [i64_w, i32_w]; rw [c3b0]) | skip)
   exact τ51
  ·(first | rw [c3b0] | (simp only [i64_w, i32_w]; rw [c3b0]) | skip)
   replace H := ifG H; rcases H with ⟨c4b0, H⟩ | ⟨c4b0, H⟩
   ·exact τ51
   ·by_cases c5 : (((rd_T35 l0 0).f4).length : Int) > 2
    ·rw [if_pos c5] at H
     have c5b0 : decide (2 < (((rd_T35 l0 0).f4).length : Int)) = true := decide_eq_true c5
     have c5b1 : decide (2 < ((rd_T35 l0 0).f4).length) = true := decide_eq_true ψ7
     clear c5
     exact τ51
    ·rw [if_neg c5] at H
     have c5b0 : decide (2 < (((rd_T35 l0 0).f4).length : Int)) = false := decide_eq_false c5
     have c5b1 : decide (2 < ((rd_T35 l0 0).f4).length) = false := decide_eq_false ψ7
     clear c5
     exact τ51
 case rest =>
  clear HC2
  try clear p2
  try clear c3
  try clear c3b0
  try clear c4
  try clear c4b0
  try clear c5
  try clear c5b0
  try clear c5b1
  try clear hx852_0
  try clear hx852_1
  try clear hx852_2
  try clear hx852_3
  try clear hx852_4
  try clear hx852_5
  try clear hx853_0
  try clear hx853_1
  try clear hx853_2
  try clear hx853_3
  try clear hx853_4
  try clear hx853_5
  try clear hx854_0
  try clear hx854_1
  try clear hx854_2
  try clear hx854_3
  try clear hx854_4
  try clear hx854_5
  try clear hx855_0
  try clear hx855_1
  try clear hx855_2
  try clear hx855_3
  try clear hx855_4
  try clear hx855_5
  try clear p852
  try clear p853
  try clear p854
  try clear p855
  try clear q852
  try clear q853
  try clear q854
  try clear q855
  obtain ⟨kq, x32_1, rfl, HA, HJ1, ⟨mc1, rfl⟩⟩ := hcut
  cases kq with
  | zero => exact absurd HA.out (by simp [impl_roomRight.j0])
  | succ kj1 =>
   have H := HA.out
   clear HA
   simp only [impl_roomRight.j0] at H
   replace H := ifB H; rcases H with ⟨rfl, H⟩ | ⟨rfl, H⟩
   ·obtain rfl := Option.some.inj H
    go_wp2
    go_ret
    exact ⟨ψ128, ψ1⟩
   ·have H' := Aside0.mk H
    clear H
    have p856 : 0 ≤ (0 : Int) := ψ7
    have q856 : 0 < (l0.length : Int) := ψ330
    obtain ⟨ad856, A856_1, c856_1, A856_2, c856_2, A856_4, c856_4, A856_5, c856_5, e856, hx856_0, hx856_1, hx856_2, hx856_3, hx856_4, hx856_5, hl856_1, hi856_1, hl856_2, hi856_2, hl856_4, hi856_4, hl856_5, hi856_5⟩ := at_T35 HR0.out 0 p856 q856
    cases e856
    have qi856 : (0 < l0.length) = True := eq_true ψ7
    (try rw [show ((0 : Int)).toNat = 0 from rfl] at hx856_0)
    (try rw [show 0 * 6 = 0 from rfl] at hx856_0)
    (try rw [Addr.add_zero'] at hx856_0)
    (try rw [show ((0 : Int)).toNat = 0 from rfl] at hx856_1)
    (try rw [show 0 * 6 = 0 from rfl] at hx856_1)
    (try rw [Addr.add_zero'] at hx856_1)
    (try rw [show ((0 : Int)).toNat = 0 from rfl] at hx856_2)
    (try rw [show 0 * 6 = 0 from rfl] at hx856_2)
    (try rw [Addr.add_zero'] at hx856_2)
    (try rw [show ((0 : Int)).toNat = 0 from rfl] at hx856_3)
    (try rw [show 0 * 6 = 0 from rfl] at hx856_3)
    (try rw [Addr.add_zero'] at hx856_3)
    (try rw [show ((0 : Int)).toNat = 0 from rfl] at hx856_4)
    (try rw [show 0 * 6 = 0 from rfl] at hx856_4)
    (try rw [Addr.add_zero'] at hx856_4)
    (try rw [show ((0 : Int)).toNat = 0 from rfl] at hx856_5)
    (try rw [show 0 * 6 = 0 from rfl] at hx856_5)
    (try rw [Addr.add_zero'] at hx856_5)
    have HR856_1 := Aside0.mk hi856_1
    have HC856_1 := Aside0.mk hl856_1
    clear hi856_1 hl856_1
    have HR856_2 := Aside0.mk hi856_2
    have HC856_2 := Aside0.mk hl856_2
    clear hi856_2 hl856_2
    have HR856_4 := Aside0.mk hi856_4
    have HC856_4 := Aside0.mk hl856_4
    clear hi856_4 hl856_4
    have HR856_5 := Aside0.mk hi856_5
    have HC856_5 := Aside0.mk hl856_5
    clear hi856_5 hl856_5
    replace p856 := eq_true p856
    replace q856 := eq_true q856
    go_wp2
    go_loopg [38] kj1 (fun kq v38 w' => ∃ (x38_2 : Int), v38 = .int .i64 x38_2 ∧ Aside0 (impl_roomRight.l0 kq ((rd_T35 l0 0).f4) (((rd_T35 l0 0).f4).length : Int) x38_2 = some r) ∧ Aside0 (kq ≤ kj1) ∧ Drawn0 w w')
    case atStart => exact ⟨(0), ψ0, H', ⟨Nat.le_refl _⟩, ψ1⟩
    case round =>
     clear H'
     try clear c1
     try clear p2
     try clear c3
     try clear c3b0
     try clear c4
     try clear c4b0
     try clear c5
     try clear c5b0
     try clear c5b1
     try clear c6
     try clear hx852_0
     try clear hx852_1
     try clear hx852_2
     try clear hx852_3
     try clear hx852_4
     try clear hx852_5
     try clear hx853_0
     try clear hx853_1
     try clear hx853_2
     try clear hx853_3
     try clear hx853_4
     try clear hx853_5
     try clear hx854_0
     try clear hx854_1
     try clear hx854_2
     try clear hx854_3
     try clear hx854_4
     try clear hx854_5
     try clear hx855_0
     try clear hx855_1
     try clear hx855_2
     try clear hx855_3
     try clear hx855_4
     try clear hx855_5
     try clear hx856_0
     try clear hx856_1
     try clear hx856_2
     try clear hx856_3
     try clear hx856_4
     try clear hx856_5
     try clear p2
     try clear p852
     try clear p853
     try clear p854
     try clear p855
     try clear p856
     try clear q852
     try clear q853
     try clear q854
     try clear q855
     try clear q856
     obtain ⟨x38_2, rfl, HA, HK2, ⟨m2, rfl⟩⟩ := hrel
     cases gk with
     | zero => exact absurd HA.out (by simp [impl_roomRight.l0])
     | succ k2 =>
      have H := HA.out
      clear HA
      simp only [impl_roomRight.l0] at H
      replace H := ifD H; rcases H with ⟨c7b0, H⟩ | ⟨c7b0, H⟩
      ·replace H := ifN H; obtain ⟨c8b0, H⟩ := H
       replace H := ifN H; obtain ⟨c9b0, H⟩ := H
       replace H := ifD H; rcases H with ⟨c10b0, H⟩ | ⟨c10b0, H⟩
       ·exact τ52
       ·by_cases c11 : (rd ((rd_T35 l0 0).f4) x38_2) > 6
        ·rw [if_pos c11] at H
         have c11b0 : decide (6 < (rd ((rd_T35 l0 0).f4) x38_2)) = true := decide_eq_true c11
         clear c11
         exact τ52
        ·rw [if_neg c11] at H
         have c11b0 : decide (6 < (rd ((rd_T35 l0 0).f4) x38_2)) = false := decide_eq_false c11
         clear c11
         exact τ52
      ·exact τ52

/-! ### impl_inputsOf: function 90 -/
def impl_inputsOf.f (l0 : List (S35)) : Option (Int) := some (wrap64 ((((rd_T35 l0 0).f1).length : Int) + (((rd_T35 l0 0).f2).length : Int)))
set_option maxHeartbeats 8000000 in
set_option maxRecDepth 100000 in
theorem impl_inputsOf.calls (A0 : Option Addr) (c0 : Nat) (l0 : List (S35)) (r : Int) (w : World) (hn0 : l0.length = 1) (hr0 : Kd.C k35 w A0 l0.length l0) (hc0 : l0.length ≤ c0) (h : impl_inputsOf.f l0 = some r) :
 Calls Try.prog 90 #[.pointer A0] w fun e w' => e = .returned (.int .i64 r) ∧ Drawn0 w w' := by
 have HR0 := Aside0.mk hr0
 have HC0 := Aside0.mk hc0
 clear hr0 hc0
 have H : (some (wrap64 ((((rd_T35 l0 0).f1).length : Int) + (((rd_T35 l0 0).f2).length : Int)))) = some r := h
 clear h
 obtain rfl := Option.some.inj H
 have p858 : 0 ≤ (0 : Int) := ψ7
 have q858 : 0 < (l0.length : Int) := ψ330
 obtain ⟨ad858, A858_1, c858_1, A858_2, c858_2, A858_4, c858_4, A858_5, c858_5, e858, hx858_0, hx858_1, hx858_2, hx858_3, hx858_4, hx858_5, hl858_1, hi858_1, hl858_2, hi858_2, hl858_4, hi858_4, hl858_5, hi858_5⟩ := at_T35 HR0.out 0 p858 q858
 cases e858
 have qi858 : (0 < l0.length) = True := eq_true ψ7
 (try rw [show ((0 : Int)).toNat = 0 from rfl] at hx858_0)
 (try rw [show 0 * 6 = 0 from rfl] at hx858_0)
 (try rw [Addr.add_zero'] at hx858_0)
 (try rw [show ((0 : Int)).toNat = 0 from rfl] at hx858_1)
 (try rw [show 0 * 6 = 0 from rfl] at hx858_1)
 (try rw [Addr.add_zero'] at hx858_1)
 (try rw [show ((0 : Int)).toNat = 0 from rfl] at hx858_2)
 (try rw [show 0 * 6 = 0 from rfl] at hx858_2)
 (try rw [Addr.add_zero'] at hx858_2)
 (try rw [show ((0 : Int)).toNat = 0 from rfl] at hx858_3)
 (try rw [show 0 * 6 = 0 from rfl] at hx858_3)
 (try rw [Addr.add_zero'] at hx858_3)
 (try rw [show ((0 : Int)).toNat = 0 from rfl] at hx858_4)
 (try rw [show 0 * 6 = 0 from rfl] at hx858_4)
 (try rw [Addr.add_zero'] at hx858_4)
 (try rw [show ((0 : Int)).toNat = 0 from rfl] at hx858_5)
 (try rw [show 0 * 6 = 0 from rfl] at hx858_5)
 (try rw [Addr.add_zero'] at hx858_5)
 have HR858_1 := Aside0.mk hi858_1
 have HC858_1 := Aside0.mk hl858_1
 clear hi858_1 hl858_1
 have HR858_2 := Aside0.mk hi858_2
 have HC858_2 := Aside0.mk hl858_2
 clear hi858_2 hl858_2
 have HR858_4 := Aside0.mk hi858_4
 have HC858_4 := Aside0.mk hl858_4
 clear hi858_4 hl858_4
 have HR858_5 := Aside0.mk hi858_5
 have HC858_5 := Aside0.mk hl858_5
 clear hi858_5 hl858_5
 replace p858 := eq_true p858
 replace q858 := eq_true q858
 have p859 : 0 ≤ (0 : Int) := ψ7
 have q859 : 0 < (l0.length : Int) := ψ330
 obtain ⟨ad859, A859_1, c859_1, A859_2, c859_2, A859_4, c859_4, A859_5, c859_5, e859, hx859_0, hx859_1, hx859_2, hx859_3, hx859_4, hx859_5, hl859_1, hi859_1, hl859_2, hi859_2, hl859_4, hi859_4, hl859_5, hi859_5⟩ := at_T35 HR0.out 0 p859 q859
 obtain rfl : ad858 = ad859 := (by injection e859)
 have qi859 : (0 < l0.length) = True := eq_true ψ7
 (try rw [show ((0 : Int)).toNat = 0 from rfl] at hx859_0)
 (try rw [show 0 * 6 = 0 from rfl] at hx859_0)
 (try rw [Addr.add_zero'] at hx859_0)
 (try rw [show ((0 : Int)).toNat = 0 from rfl] at hx859_1)
 (try rw [show 0 * 6 = 0 from rfl] at hx859_1)
 (try rw [Addr.add_zero'] at hx859_1)
 (try rw [show ((0 : Int)).toNat = 0 from rfl] at hx859_2)
 (try rw [show 0 * 6 = 0 from rfl] at hx859_2)
 (try rw [Addr.add_zero'] at hx859_2)
 (try rw [show ((0 : Int)).toNat = 0 from rfl] at hx859_3)
 (try rw [show 0 * 6 = 0 from rfl] at hx859_3)
 (try rw [Addr.add_zero'] at hx859_3)
 (try rw [show ((0 : Int)).toNat = 0 from rfl] at hx859_4)
 (try rw [show 0 * 6 = 0 from rfl] at hx859_4)
 (try rw [Addr.add_zero'] at hx859_4)
 (try rw [show ((0 : Int)).toNat = 0 from rfl] at hx859_5)
 (try rw [show 0 * 6 = 0 from rfl] at hx859_5)
 (try rw [Addr.add_zero'] at hx859_5)
 have HR859_1 := Aside0.mk hi859_1
 have HC859_1 := Aside0.mk hl859_1
 clear hi859_1 hl859_1
 have HR859_2 := Aside0.mk hi859_2
 have HC859_2 := Aside0.mk hl859_2
 clear hi859_2 hl859_2
 have HR859_4 := Aside0.mk hi859_4
 have HC859_4 := Aside0.mk hl859_4
 clear hi859_4 hl859_4
 have HR859_5 := Aside0.mk hi859_5
 have HC859_5 := Aside0.mk hl859_5
 clear hi859_5 hl859_5
 replace p859 := eq_true p859
 replace q859 := eq_true q859
 have ea_ := Option.some.inj (hx858_1.symm.trans hx859_1)
 injection ea_ with ea_ en_ ec_
 subst ea_
 subst ec_
 clear en_
 have ea_ := Option.some.inj (hx858_2.symm.trans hx859_2)
 injection ea_ with ea_ en_ ec_
 subst ea_
 subst ec_
 clear en_
 have ea_ := Option.some.inj (hx858_4.symm.trans hx859_4)
 injection ea_ with ea_ en_ ec_
 subst ea_
 subst ec_
 clear en_
 have ea_ := Option.some.inj (hx858_5.symm.trans hx859_5)
 injection ea_ with ea_ en_ ec_
 subst ea_
 subst ec_
 clear en_
 go_enter Try.func90, Try.ntmps90
 go_wp2_with (first | ((with_reducible refine qR_ ?_)) | ((with_reducible refine wpQuiet_step (fun K hK => ?_)); go_simp; first | (refine hK _ ?_; clear hK K) | (apply Exists.intro; refine ⟨fun _ => ?_, hK _ ?_⟩)) | ((with_reducible refine wpQuiet_nil ?_); rintro _ ⟨nq, rfl⟩))
 go_ret
 exact ⟨ψ128, ψ1⟩

/-! ### impl_varsOf: function 91 -/
def impl_varsOf.f (l0 : List (S35)) : Option (Int) := (impl_inputsOf.f l0).bind fun t860 => (some (wrap64 (t860 + ((rd_T35 l0 0).f3))))
set_option maxHeartbeats 8000000 in
set_option maxRecDepth 100000 in
theorem impl_varsOf.calls (A0 : Option Addr) (c0 : Nat) (l0 : List (S35)) (r : Int) (w : World) (hn0 : l0.length = 1) (hr0 : Kd.C k35 w A0 l0.length l0) (hc0 : l0.length ≤ c0) (h : impl_varsOf.f l0 = some r) :
 Calls Try.prog 91 #[.pointer A0] w fun e w' => e = .returned (.int .i64 r) ∧ Drawn0 w w' := by
 have HR0 := Aside0.mk hr0
 have HC0 := Aside0.mk hc0
 clear hr0 hc0
 have H : ((impl_inputsOf.f l0).bind fun t860 => (some (wrap64 (t860 + ((rd_T35 l0 0).f3))))) = some r := h
 clear h
 replace H := Option.bind_eq_some_iff.mp H
 obtain ⟨t860, A20, H⟩ := H
 have A2 := Aside0.mk A20
 clear A20
 obtain rfl := Option.some.inj H
 go_enter Try.func91, Try.ntmps91
 go_wp2_with (first | (go_at_call 90; (with_reducible refine (impl_inputsOf.calls _ c0 l0 _ _ ?_ ?_ ?_ A2.out).mono ?_); exact hn0; exact ψ6; exact HC0.out; rintro e w' ⟨rfl, ⟨nd, rfl⟩⟩; (try first | exact ⟨rfl, _, World.drewN_drewN _ _ _⟩ | exact ⟨rfl, _, Eq.trans (World.drewN_drewN _ _ _) (congrArg (World.drewN _) (Nat.add_assoc _ _ _))⟩); have p861 : 0 ≤ (0 : Int) := ψ7; have q861 : 0 < (l0.length : Int) := ψ330; obtain ⟨ad861, A861_1, c861_1, A861_2, c861_2, A861_4, c861_4, A861_5, c861_5, e861, hx861_0, hx861_1, hx861_2, hx861_3, hx861_4, hx861_5, hl861_1, hi861_1, hl861_2, hi861_2, hl861_4, hi861_4, hl861_5, hi861_5⟩ := at_T35 HR0.out 0 p861 q861; cases e861; have qi861 : (0 < l0.length) = True := eq_true ψ7; (try rw [show ((0 : Int)).toNat = 0 from rfl] at hx861_0); (try rw [show 0 * 6 = 0 from rfl] at hx861_0); (try rw [Addr.add_zero'] at hx861_0); (try rw [show ((0 : Int)).toNat = 0 from rfl] at hx861_1); (try rw [show 0 * 6 = 0 from rfl] at hx861_1); (try rw [Addr.add_zero'] at hx861_1); (try rw [show ((0 : Int)).toNat = 0 from rfl] at hx861_2); (try rw [show 0 * 6 = 0 from rfl] at hx861_2); (try rw [Addr.add_zero'] at hx861_2); (try rw [show ((0 : Int)).toNat = 0 from rfl] at hx861_3); (try rw [show 0 * 6 = 0 from rfl] at hx861_3); (try rw [Addr.add_zero'] at hx861_3); (try rw [show ((0 : Int)).toNat = 0 from rfl] at hx861_4); (try rw [show 0 * 6 = 0 from rfl] at hx861_4); (try rw [Addr.add_zero'] at hx861_4); (try rw [show ((0 : Int)).toNat = 0 from rfl] at hx861_5); (try rw [show 0 * 6 = 0 from rfl] at hx861_5); (try rw [Addr.add_zero'] at hx861_5); have HR861_1 := Aside0.mk hi861_1; have HC861_1 := Aside0.mk hl861_1; clear hi861_1 hl861_1; have HR861_2 := Aside0.mk hi861_2; have HC861_2 := Aside0.mk hl861_2; clear hi861_2 hl861_2; have HR861_4 := Aside0.mk hi861_4; have HC861_4 := Aside0.mk hl861_4; clear hi861_4 hl861_4; have HR861_5 := Aside0.mk hi861_5; have HC861_5 := Aside0.mk hl861_5; clear hi861_5 hl861_5; replace p861 := eq_true p861; replace q861 := eq_true q861) | ((with_reducible refine qR_ ?_)) | ((with_reducible refine wpQuiet_step (fun K hK => ?_)); go_simp; first | (refine hK _ ?_; clear hK K) | (apply Exists.intro; refine ⟨fun _ => ?_, hK _ ?_⟩; (first | (go_at_call 90; (with_reducible refine (impl_inputsOf.calls _ c0 l0 _ _ ?_ ?_ ?_ A2.out).mono ?_); exact hn0; exact ψ6; exact HC0.out; rintro e w' ⟨rfl, ⟨nd, rfl⟩⟩; (try first | exact ⟨rfl, _, World.drewN_drewN _ _ _⟩ | exact ⟨rfl, _, Eq.trans (World.drewN_drewN _ _ _) (congrArg (World.drewN _) (Nat.add_assoc _ _ _))⟩); have p861 : 0 ≤ (0 : Int) := ψ7; have q861 : 0 < (l0.length : Int) := ψ330; obtain ⟨ad861, A861_1, c861_1, A861_2, c861_2, A861_4, c861_4, A861_5, c861_5, e861, hx861_0, hx861_1, hx861_2, hx861_3, hx861_4, hx861_5, hl861_1, hi861_1, hl861_2, hi861_2, hl861_4, hi861_4, hl861_5, hi861_5⟩ := at_T35 HR0.out 0 p861 q861; cases e861; have qi861 : (0 < l0.length) = True := eq_true ψ7; (try rw [show ((0 : Int)).toNat = 0 from rfl] at hx861_0); (try rw [show 0 * 6 = 0 from rfl] at hx861_0); (try rw [Addr.add_zero'] at hx861_0); (try rw [show ((0 : Int)).toNat = 0 from rfl] at hx861_1); (try rw [show 0 * 6 = 0 from rfl] at hx861_1); (try rw [Addr.add_zero'] at hx861_1); (try rw [show ((0 : Int)).toNat = 0 from rfl] at hx861_2); (try rw [show 0 * 6 = 0 from rfl] at hx861_2); (try rw [Addr.add_zero'] at hx861_2); (try rw [show ((0 : Int)).toNat = 0 from rfl] at hx861_3); (try rw [show 0 * 6 = 0 from rfl] at hx861_3); (try rw [Addr.add_zero'] at hx861_3); (try rw [show ((0 : Int)).toNat = 0 from rfl] at hx861_4); (try rw [show 0 * 6 = 0 from rfl] at hx861_4); (try rw [Addr.add_zero'] at hx861_4); (try rw [show ((0 : Int)).toNat = 0 from rfl] at hx861_5); (try rw [show 0 * 6 = 0 from rfl] at hx861_5); (try rw [Addr.add_zero'] at hx861_5); have HR861_1 := Aside0.mk hi861_1; have HC861_1 := Aside0.mk hl861_1; clear hi861_1 hl861_1; have HR861_2 := Aside0.mk hi861_2; have HC861_2 := Aside0.mk hl861_2; clear hi861_2 hl861_2; have HR861_4 := Aside0.mk hi861_4; have HC861_4 := Aside0.mk hl861_4; clear hi861_4 hl861_4; have HR861_5 := Aside0.mk hi861_5; have HC861_5 := Aside0.mk hl861_5; clear hi861_5 hl861_5; replace p861 := eq_true p861; replace q861 := eq_true q861)); clear hK K)) | ((with_reducible refine wpQuiet_nil ?_); rintro _ ⟨nq, rfl⟩))
 go_ret
 exact ⟨ψ128, ψ1⟩

/-! ### impl_TakesOf: function 109 -/
mutual
def impl_TakesOf.j0 : Nat → Int → Bool → Option (Int)
 | 0, _, _ => none
 | k + 1, x0, x3 => if x3 = true then (some 0) else (if x0 = 2 then (impl_TakesOf.j1 k x0 true) else (if x0 = 3 then (impl_TakesOf.j1 k x0 true) else (impl_TakesOf.j1 k x0 (x0 == 4))))
def impl_TakesOf.j1 : Nat → Int → Bool → Option (Int)
 | 0, _, _ => none
 | k + 1, x0, x10 => if x10 = true then (some 1) else (if x0 ≥ 5 then (impl_TakesOf.j2 k x0 (decide (x0 ≤ 16))) else (impl_TakesOf.j2 k x0 false))
def impl_TakesOf.j2 : Nat → Int → Bool → Option (Int)
 | 0, _, _ => none
 | k + 1, x0, x21 => if x21 = true then (some 2) else (if x0 = 17 then (some 3) else (some (-1)))
end
def impl_TakesOf.f (k : Nat) (a0 : Int) : Option (Int) := if a0 = 0 then (impl_TakesOf.j0 k a0 true) else (impl_TakesOf.j0 k a0 (a0 == 1))
set_option maxRecDepth 100000 in
theorem τ53 {P : Prop} (h : P := by
 have H' := Aside0.mk H
 clear H
 go_wp2
 first | (go_meet; (case rel => exact ⟨_, (true), ψ0, H', ⟨by have := HJ1.out; first | omega | exact Nat.le_refl _⟩, ψ1⟩)) | (go_meet; (case rel => exact ⟨_, ((a0 == 4)), ψ0, H', ⟨by have := HJ1.out; first | omega | exact Nat.le_refl _⟩, ψ1⟩))) : P := h
set_option maxRecDepth 100000 in
theorem τ54 {P : Prop} (h : P := by
 have H' := Aside0.mk H
 clear H
 go_wp2
 first | (go_meet; (case rel => exact ⟨_, (decide (a0 ≤ 16)), ψ0, H', ⟨ψ129⟩, ψ1⟩)) | (go_meet; (case rel => exact ⟨_, (false), ψ0, H', ⟨ψ129⟩, ψ1⟩))) : P := h
set_option maxRecDepth 100000 in
theorem τ55 {P : Prop} (h : P := by
 obtain rfl := Option.some.inj H
 go_wp2
 go_ret
 exact ⟨ψ0, ψ1⟩) : P := h
set_option maxHeartbeats 8000000 in
set_option maxRecDepth 100000 in
theorem impl_TakesOf.calls (k : Nat) (a0 : Int) (r : Int) (w : World) (h : impl_TakesOf.f k a0 = some r) :
 Calls Try.prog 109 #[.int .i64 a0] w fun e w' => e = .returned (.int .i64 r) ∧ Drawn0 w w' := by
 have H : (if a0 = 0 then (impl_TakesOf.j0 k a0 true) else (impl_TakesOf.j0 k a0 (a0 == 1))) = some r := h
 clear h
 have HC2 := Aside0.mk H
 clear H
 go_enter Try.func109, Try.ntmps109
 go_upto_region 1 with (fail)
 go_cut [3] (fun v3 wc => ∃ (kq : Nat) (x3_1 : Bool), v3 = .bool x3_1 ∧ Aside0 (impl_TakesOf.j0 kq a0 x3_1 = some r) ∧ Aside0 (kq ≤ k) ∧ Drawn0 w wc)
 case first =>
  have H := HC2.out
  clear HC2
  replace H := ifF H; rcases H with ⟨c3b0, c3b1, H⟩ | ⟨c3b0, c3b1, c3, H⟩
  ·(first | rw [c3b0] | rw [c3b1] | (simp only [i64_w, i32_w]; rw [c3b0]) | skip)
   have H' := Aside0.mk H
   clear H
   go_wp2
   go_meet
   case rel => exact ⟨_, (true), ψ0, H', ⟨ψ25⟩, ψ1⟩
  ·(first | rw [c3b0] | rw [c3b1] | (simp only [i64_w, i32_w]; rw [c3b0]) | skip)
   have H' := Aside0.mk H
   clear H
   go_wp2
   go_meet
   case rel => exact ⟨_, ((a0 == 1)), ψ0, H', ⟨ψ25⟩, ψ1⟩
 case rest =>
  clear HC2
  try clear c1
  try clear p2
  try clear c3
  try clear c3b0
  try clear c3b1
  obtain ⟨kq, x3_1, rfl, HA, HJ1, ⟨mc1, rfl⟩⟩ := hcut
  cases kq with
  | zero => exact absurd HA.out (by simp [impl_TakesOf.j0])
  | succ kj1 =>
   have H := HA.out
   clear HA
   simp only [impl_TakesOf.j0] at H
   replace H := ifB H; rcases H with ⟨rfl, H⟩ | ⟨rfl, H⟩
   ·obtain rfl := Option.some.inj H
    go_wp2
    go_ret
    exact ⟨ψ0, ψ1⟩
   ·have HC5 := Aside0.mk H
    clear H
    go_upto_region 3 with (fail)
    go_cut [10] (fun v10 wc => ∃ (kq : Nat) (x10_4 : Bool), v10 = .bool x10_4 ∧ Aside0 (impl_TakesOf.j1 kq a0 x10_4 = some r) ∧ Aside0 (kq ≤ kj1) ∧ Drawn0 w wc)
    case first =>
     have H := HC5.out
     clear HC5
     replace H := ifF H; rcases H with ⟨c6b0, c6b1, H⟩ | ⟨c6b0, c6b1, c6, H⟩
     ·(first | rw [c6b0] | rw [c6b1] | (simp only [i64_w, i32_w]; rw [c6b0]) | skip)
      exact τ53
     ·(first | rw [c6b0] | rw [c6b1] | (simp only [i64_w, i32_w]; rw [c6b0]) | skip)
      replace H := ifF H; rcases H with ⟨c7b0, c7b1, H⟩ | ⟨c7b0, c7b1, c7, H⟩
      ·exact τ53
      ·exact τ53
    case rest =>
     clear HC5
     try clear c1
     try clear p2
     try clear c3
     try clear c3b0
     try clear c3b1
     try clear c4
     try clear c6
     try clear c6b0
     try clear c6b1
     try clear c7
     try clear c7b0
     try clear c7b1
     try clear p2
     obtain ⟨kq, x10_4, rfl, HA, HJ4, ⟨mc4, rfl⟩⟩ := hcut
     cases kq with
     | zero => exact absurd HA.out (by simp [impl_TakesOf.j1])
     | succ kj4 =>
      have H := HA.out
      clear HA
      simp only [impl_TakesOf.j1] at H
      replace H := ifB H; rcases H with ⟨rfl, H⟩ | ⟨rfl, H⟩
      ·obtain rfl := Option.some.inj H
       go_wp2
       go_ret
       exact ⟨ψ0, ψ1⟩
      ·have HC9 := Aside0.mk H
       clear H
       go_upto_region 5 with (fail)
       go_cut [21] (fun v21 wc => ∃ (kq : Nat) (x21_8 : Bool), v21 = .bool x21_8 ∧ Aside0 (impl_TakesOf.j2 kq a0 x21_8 = some r) ∧ Aside0 (kq ≤ kj4) ∧ Drawn0 w wc)
       case first =>
        have H := HC9.out
        clear HC9
        replace H := ifL H; rcases H with ⟨c10b0, H⟩ | ⟨c10b0, H⟩
        ·(first | rw [c10b0] | (simp only [i64_w, i32_w]; rw [c10b0]) | skip)
         exact τ54
        ·(first | rw [c10b0] | (simp only [i64_w, i32_w]; rw [c10b0]) | skip)
         exact τ54
       case rest =>
        clear HC9
        try clear c1
        try clear p2
        try clear c3
        try clear c3b0
        try clear c3b1
        try clear c4
        try clear c6
        try clear c6b0
        try clear c6b1
        try clear c7
        try clear c7b0
        try clear c7b1
        try clear c8
        try clear c10
        try clear c10b0
        try clear p2
        obtain ⟨kq, x21_8, rfl, HA, HJ8, ⟨mc8, rfl⟩⟩ := hcut
        cases kq with
        | zero => exact absurd HA.out (by simp [impl_TakesOf.j2])
        | succ kj8 =>
         have H := HA.out
         clear HA
         simp only [impl_TakesOf.j2] at H
         replace H := ifB H; rcases H with ⟨rfl, H⟩ | ⟨rfl, H⟩
         ·exact τ55
         ·by_cases c12 : a0 = 17
          ·rw [if_pos c12] at H
           have c12b0 : (a0 == 17) = true := beq_iff_eq.mpr c12
           have c12b1 : (a0 != 17) = false := bne_eq_false_iff_eq.mpr c12
           clear c12
           exact τ55
          ·rw [if_neg c12] at H
           have c12b0 : (a0 == 17) = false := beq_eq_false_iff_ne.mpr c12
           have c12b1 : (a0 != 17) = true := bne_iff_ne.mpr c12
           exact τ55

/-! ### impl_ExpOk: function 108 -/
mutual
def impl_ExpOk.j0 : Nat → List (S100) → Bool → Option (Bool)
 | 0, _, _ => none
 | k + 1, x0, x14 => if x14 = true then (some false) else (impl_ExpOk.l0 k 0 x0 (x0.length : Int) 0)
def impl_ExpOk.l0 : Nat → Int → List (S100) → Int → Int → Option (Bool)
 | 0, _, _, _, _ => none
 | k + 1, x3, x15, x16, x17 => if x17 < x16 then (if 0 ≤ x17 then (if x17 < (x15.length : Int) then ((impl_TakesOf.f k ((rd_T100 x15 x17).f0)).bind fun t865 => (if t865 < 0 then (some false) else (if t865 > x3 then (some false) else (if ((rd_T100 x15 x17).f1) < 0 then (some false) else (if ((rd_T100 x15 x17).f1) > 255 then (some false) else (if ((rd_T100 x15 x17).f0) > 2 then (if ((rd_T100 x15 x17).f1) = 0 then (impl_ExpOk.l0 k (wrap64 (x3 + (wrap64 (1 - t865)))) x15 x16 (wrap64 (x17 + 1))) else (some false)) else (impl_ExpOk.l0 k (wrap64 (x3 + (wrap64 (1 - t865)))) x15 x16 (wrap64 (x17 + 1))))))))) else (none)) else (none)) else (some (x3 == 1))
end
def impl_ExpOk.f (k : Nat) (l0 : List (S100)) : Option (Bool) := if (l0.length : Int) = 0 then (impl_ExpOk.j0 k l0 true) else (impl_ExpOk.j0 k l0 (decide ((l0.length : Int) > 3000)))
set_option maxRecDepth 100000 in
theorem τ56 {P : Prop} (h : P := by
 first | obtain rfl := Option.some.inj H | (have H' := Aside0.mk H; clear H)
 try (have p862 : 0 ≤ (x17_2 : Int) := of_decide_eq_true ψ2; have q862 : x17_2 < (l0.length : Int) := of_decide_eq_true ψ2; obtain ⟨ad862, e862, hx862_0, hx862_1⟩ := at_T100 HR0.out x17_2 p862 q862; cases e862; replace hx862_0 := (HB.out.cell (World.block_lt_of_cell? w _ hx862_0)).trans hx862_0; replace hx862_1 := (HB.out.cell (World.block_lt_of_cell? w _ hx862_1)).trans hx862_1; replace p862 := eq_true p862; replace q862 := eq_true q862)
 go_wp2_with (first | ((with_reducible refine gate_dst (N := 5) rfl ?_); (try (refine gate_guard ψ16 ?_; dsimp only)); refine bE 5 #[.int .i64 0, .int .i64 0] 100 ?_; intro gb10 hg w1_ hbox hb; have q := n4_ (below_step ψ52 hb) (hbox) ((ψ311 : w.heap.size ≤ gb10)) ((ψ311 : w.heap.size ≤ gb10)); clear HB; obtain ⟨HB, BK10, GW10, GE10⟩ := q; clear hb hbox hg; obtain ⟨hczB10_0, hczB10_1, hfzB10_0, hfzB10_1⟩ := cells2 BK10.out) | ((with_reducible refine gate_callee (f := 109) rfl ?_); refine gL 23 Try.func109 #[.int .i64 ((rd_T100 l0 x17_2).f0)] ?_; (with_reducible refine (impl_TakesOf.calls k2 ((rd_T100 l0 x17_2).f0) _ _ A8.out).mono ?_); rintro e w' ⟨rfl, ⟨nd, rfl⟩⟩; refine ⟨_, rfl, ?_⟩))
 first | (go_ret; exact ⟨ψ9, ψ52⟩) | (go_roundg k2; (case measure => have := HJ1.out; have := HK2.out; omega); (case rel => exact ⟨(wrap64 (x3_2 + (wrap64 (1 - t865)))), (wrap64 (x17_2 + 1)), ψ0, ψ0, H', ⟨ψ58⟩, ⟨ψ52⟩⟩))) : P := h
set_option maxHeartbeats 8000000 in
set_option maxRecDepth 100000 in
theorem impl_ExpOk.calls (k : Nat) (A0 : Option Addr) (c0 : Nat) (l0 : List (S100)) (r : Bool) (w : World) (hr0 : Kd.C k100 w A0 l0.length l0) (hc0 : l0.length ≤ c0) (h : impl_ExpOk.f k l0 = some r) :
 Calls Try.prog 108 #[.slice A0 l0.length c0] w fun e w' => e = .returned (.bool r) ∧ Below w.heap.size w w' := by
 have hu100 := Try.underlying100
 have HR0 := Aside0.mk hr0
 have HC0 := Aside0.mk hc0
 clear hr0 hc0
 have HB := Aside0.mk (Below.refl w.heap.size w)
 have H : (if (l0.length : Int) = 0 then (impl_ExpOk.j0 k l0 true) else (impl_ExpOk.j0 k l0 (decide ((l0.length : Int) > 3000)))) = some r := h
 clear h
 have HC2 := Aside0.mk H
 clear H
 go_enter Try.func108, Try.ntmps108
 go_upto_region 1 with (fail)
 go_cut [14] (fun v14 wc => ∃ (kq : Nat) (x14_1 : Bool), v14 = .bool x14_1 ∧ Aside0 (impl_ExpOk.j0 kq l0 x14_1 = some r) ∧ Aside0 (kq ≤ k) ∧ Aside0 (Below w.heap.size w wc))
 case first =>
  have H := HC2.out
  clear HC2
  replace H := ifF H; rcases H with ⟨c3b0, c3b1, H⟩ | ⟨c3b0, c3b1, c3, H⟩
  ·(first | rw [c3b0] | rw [c3b1] | (simp only [i64_w, i32_w]; rw [c3b0]) | skip)
   have H' := Aside0.mk H
   clear H
   go_wp2
   go_meet
   case rel => exact ⟨_, (true), ψ0, H', ⟨ψ25⟩, ⟨ψ52⟩⟩
  ·have c3b2 : ¬ (l0 = []) := fun h_ => c3 (by rw [h_]; rfl)
   (first | rw [c3b0] | rw [c3b1] | (simp only [i64_w, i32_w]; rw [c3b0]) | skip)
   have H' := Aside0.mk H
   clear H
   go_wp2
   go_meet
   case rel => exact ⟨_, (decide ((l0.length : Int) > 3000)), ψ0, H', ⟨ψ25⟩, ⟨ψ52⟩⟩
 case rest =>
  clear HC2
  try clear c1
  try clear p2
  try clear c3
  try clear c3b0
  try clear c3b1
  try clear c3b2
  obtain ⟨kq, x14_1, rfl, HA, HJ1, HB⟩ := hcut
  cases kq with
  | zero => exact absurd HA.out (by simp [impl_ExpOk.j0])
  | succ kj1 =>
   have H := HA.out
   clear HA
   simp only [impl_ExpOk.j0] at H
   replace H := ifB H; rcases H with ⟨rfl, H⟩ | ⟨rfl, H⟩
   ·obtain rfl := Option.some.inj H
    go_wp2
    go_ret
    exact ⟨ψ9, ψ52⟩
   ·have H' := Aside0.mk H
    clear H
    go_wp2
    go_loopg [3, 17] kj1 (fun kq v3 v17 w' => ∃ (x3_2 : Int) (x17_2 : Int), v3 = .int .i64 x3_2 ∧ v17 = .int .i64 x17_2 ∧ Aside0 (impl_ExpOk.l0 kq x3_2 l0 (l0.length : Int) x17_2 = some r) ∧ Aside0 (kq ≤ kj1) ∧ Aside0 (Below w.heap.size w w'))
    case atStart => exact ⟨(0), (0), ψ0, ψ0, H', ⟨Nat.le_refl _⟩, ⟨ψ52⟩⟩
    case round =>
     clear H'
     try clear c1
     try clear p2
     try clear c3
     try clear c3b0
     try clear c3b1
     try clear c3b2
     try clear c4
     try clear p2
     obtain ⟨x3_2, x17_2, rfl, rfl, HA, HK2, HB⟩ := hrel
     cases gk with
     | zero => exact absurd HA.out (by simp [impl_ExpOk.l0])
     | succ k2 =>
      have H := HA.out
      clear HA
      simp only [impl_ExpOk.l0] at H
      replace H := ifD H; rcases H with ⟨c5b0, H⟩ | ⟨c5b0, H⟩
      ·replace H := ifN H; obtain ⟨c6b0, H⟩ := H
       replace H := ifN H; obtain ⟨c7b0, H⟩ := H
       replace H := Option.bind_eq_some_iff.mp H
       obtain ⟨t865, A80, H⟩ := H
       have A8 := Aside0.mk A80
       clear A80
       replace H := ifD H; rcases H with ⟨c9b0, H⟩ | ⟨c9b0, H⟩
       ·exact τ56
       ·by_cases c12 : t865 > x3_2
        ·rw [if_pos c12] at H
         have c12b0 : decide (x3_2 < t865) = true := decide_eq_true c12
         clear c12
         exact τ56
        ·rw [if_neg c12] at H
         have c12b0 : decide (x3_2 < t865) = false := decide_eq_false c12
         clear c12
         replace H := ifD H; rcases H with ⟨c15b0, H⟩ | ⟨c15b0, H⟩
         ·exact τ56
         ·by_cases c18 : ((rd_T100 l0 x17_2).f1) > 255
          ·rw [if_pos c18] at H
           have c18b0 : decide (255 < ((rd_T100 l0 x17_2).f1)) = true := decide_eq_true c18
           clear c18
           exact τ56
          ·rw [if_neg c18] at H
           have c18b0 : decide (255 < ((rd_T100 l0 x17_2).f1)) = false := decide_eq_false c18
           clear c18
           replace H := ifG H; rcases H with ⟨c21b0, H⟩ | ⟨c21b0, H⟩
           ·by_cases c22 : ((rd_T100 l0 x17_2).f1) = 0
            ·rw [if_pos c22] at H
             have c22b0 : (((rd_T100 l0 x17_2).f1) == 0) = true := beq_iff_eq.mpr c22
             have c22b1 : (((rd_T100 l0 x17_2).f1) != 0) = false := bne_eq_false_iff_eq.mpr c22
             clear c22
             exact τ56
            ·rw [if_neg c22] at H
             have c22b0 : (((rd_T100 l0 x17_2).f1) == 0) = false := beq_eq_false_iff_ne.mpr c22
             have c22b1 : (((rd_T100 l0 x17_2).f1) != 0) = true := bne_iff_ne.mpr c22
             exact τ56
           ·exact τ56
      ·exact τ56

/-! ### impl_reckonable: function 98 -/
def impl_reckonable.l0 : Nat → List (S35) → List (S100) → Int → Int → Option (Bool)
 | 0, _, _, _, _ => none
 | k + 1, x0, x10, x11, x12 => if x12 < x11 then (if 0 ≤ x12 then (if x12 < (x10.length : Int) then (if ((rd_T100 x10 x12).f0) = 0 then ((impl_greatest.f x0).bind fun t875 => (if ((rd_T100 x10 x12).f1) > t875 then (some false) else (impl_reckonable.l0 k x0 x10 x11 (wrap64 (x12 + 1))))) else (if ((rd_T100 x10 x12).f0) = 1 then ((impl_varsOf.f x0).bind fun t877 => (if ((rd_T100 x10 x12).f1) ≥ t877 then (some false) else (impl_reckonable.l0 k x0 x10 x11 (wrap64 (x12 + 1))))) else (if ((rd_T100 x10 x12).f0) = 2 then (if ((rd_T100 x10 x12).f1) ≥ (((rd_T35 x0 0).f4).length : Int) then (some false) else (impl_reckonable.l0 k x0 x10 x11 (wrap64 (x12 + 1)))) else (impl_reckonable.l0 k x0 x10 x11 (wrap64 (x12 + 1)))))) else (none)) else (none)) else (some true)
def impl_reckonable.f (k : Nat) (l0 : List (S35)) (l1 : List (S100)) : Option (Bool) := (impl_ExpOk.f k l1).bind fun t870 => (if t870 = true then (impl_reckonable.l0 k l0 l1 (l1.length : Int) 0) else (some false))
set_option maxRecDepth 100000 in
theorem τ57 {P : Prop} (h : P := by
 first | obtain rfl := Option.some.inj H | (have H' := Aside0.mk H; clear H)
 try (have p871 : 0 ≤ (x12_1 : Int) := of_decide_eq_true ψ2; have q871 : x12_1 < (l1.length : Int) := of_decide_eq_true ψ2; obtain ⟨ad871, e871, hx871_0, hx871_1⟩ := at_T100 HR1.out x12_1 p871 q871; cases e871; replace hx871_0 := (HB.out.cell (World.block_lt_of_cell? w _ hx871_0)).trans hx871_0; replace hx871_1 := (HB.out.cell (World.block_lt_of_cell? w _ hx871_1)).trans hx871_1; replace p871 := eq_true p871; replace q871 := eq_true q871)
 go_wp2_with (first | ((with_reducible refine gate_dst (N := 6) rfl ?_); refine bE 6 #[.int .i64 0, .int .i64 0] 100 ?_; intro gb10 hg w1_ hbox hb; have q := n4_ (below_step ψ52 hb) (hbox) ((ψ311 : w.heap.size ≤ gb10)) ((ψ311 : w.heap.size ≤ gb10)); clear HB; obtain ⟨HB, BK10, GW10, GE10⟩ := q; clear hb hbox hg; obtain ⟨hczB10_0, hczB10_1, hfzB10_0, hfzB10_1⟩ := cells2 BK10.out; (try (have p879 : 0 ≤ (0 : Int) := ψ7; have q879 : 0 < (l0.length : Int) := ψ330; obtain ⟨ad879, A879_1, c879_1, A879_2, c879_2, A879_4, c879_4, A879_5, c879_5, e879, hx879_0, hx879_1, hx879_2, hx879_3, hx879_4, hx879_5, hl879_1, hi879_1, hl879_2, hi879_2, hl879_4, hi879_4, hl879_5, hi879_5⟩ := at_T35 HR0.out 0 p879 q879; cases e879; have qi879 : (0 < l0.length) = True := eq_true ψ7; (try rw [show ((0 : Int)).toNat = 0 from rfl] at hx879_0); (try rw [show 0 * 6 = 0 from rfl] at hx879_0); (try rw [Addr.add_zero'] at hx879_0); (try rw [show ((0 : Int)).toNat = 0 from rfl] at hx879_1); (try rw [show 0 * 6 = 0 from rfl] at hx879_1); (try rw [Addr.add_zero'] at hx879_1); (try rw [show ((0 : Int)).toNat = 0 from rfl] at hx879_2); (try rw [show 0 * 6 = 0 from rfl] at hx879_2); (try rw [Addr.add_zero'] at hx879_2); (try rw [show ((0 : Int)).toNat = 0 from rfl] at hx879_3); (try rw [show 0 * 6 = 0 from rfl] at hx879_3); (try rw [Addr.add_zero'] at hx879_3); (try rw [show ((0 : Int)).toNat = 0 from rfl] at hx879_4); (try rw [show 0 * 6 = 0 from rfl] at hx879_4); (try rw [Addr.add_zero'] at hx879_4); (try rw [show ((0 : Int)).toNat = 0 from rfl] at hx879_5); (try rw [show 0 * 6 = 0 from rfl] at hx879_5); (try rw [Addr.add_zero'] at hx879_5); have hn879_0 : ad879.block ≠ gb10 := ψ331; have hn879_1 : ad879.block ≠ gb10 := ψ331; replace hx879_0 := (HB.out.cell (World.block_lt_of_cell? w _ hx879_0)).trans hx879_0; replace hx879_1 := (HB.out.cell (World.block_lt_of_cell? w _ hx879_1)).trans hx879_1; replace hx879_2 := (HB.out.cell (World.block_lt_of_cell? w _ hx879_2)).trans hx879_2; replace hx879_3 := (HB.out.cell (World.block_lt_of_cell? w _ hx879_3)).trans hx879_3; replace hx879_4 := (HB.out.cell (World.block_lt_of_cell? w _ hx879_4)).trans hx879_4; replace hx879_5 := (HB.out.cell (World.block_lt_of_cell? w _ hx879_5)).trans hx879_5; have HR879_1 := Aside0.mk hi879_1; have HC879_1 := Aside0.mk hl879_1; clear hi879_1 hl879_1; have HR879_2 := Aside0.mk hi879_2; have HC879_2 := Aside0.mk hl879_2; clear hi879_2 hl879_2; have HR879_4 := Aside0.mk hi879_4; have HC879_4 := Aside0.mk hl879_4; clear hi879_4 hl879_4; have HR879_5 := Aside0.mk hi879_5; have HC879_5 := Aside0.mk hl879_5; clear hi879_5 hl879_5; replace hx879_0 := (cell_far (p := ⟨gb10, 0, none⟩) ψ131 (.int .i64 ((rd_T100 l1 x12_1).f0))).trans hx879_0; replace hx879_1 := (cell_far (p := ⟨gb10, 0, none⟩) ψ131 (.int .i64 ((rd_T100 l1 x12_1).f0))).trans hx879_1; replace hx879_2 := (cell_far (p := ⟨gb10, 0, none⟩) ψ131 (.int .i64 ((rd_T100 l1 x12_1).f0))).trans hx879_2; replace hx879_3 := (cell_far (p := ⟨gb10, 0, none⟩) ψ131 (.int .i64 ((rd_T100 l1 x12_1).f0))).trans hx879_3; replace hx879_4 := (cell_far (p := ⟨gb10, 0, none⟩) ψ131 (.int .i64 ((rd_T100 l1 x12_1).f0))).trans hx879_4; replace hx879_5 := (cell_far (p := ⟨gb10, 0, none⟩) ψ131 (.int .i64 ((rd_T100 l1 x12_1).f0))).trans hx879_5; replace hx879_0 := (cell_far (p := ⟨gb10, 1, none⟩) ψ132 (.int .i64 ((rd_T100 l1 x12_1).f1))).trans hx879_0; replace hx879_1 := (cell_far (p := ⟨gb10, 1, none⟩) ψ132 (.int .i64 ((rd_T100 l1 x12_1).f1))).trans hx879_1; replace hx879_2 := (cell_far (p := ⟨gb10, 1, none⟩) ψ132 (.int .i64 ((rd_T100 l1 x12_1).f1))).trans hx879_2; replace hx879_3 := (cell_far (p := ⟨gb10, 1, none⟩) ψ132 (.int .i64 ((rd_T100 l1 x12_1).f1))).trans hx879_3; replace hx879_4 := (cell_far (p := ⟨gb10, 1, none⟩) ψ132 (.int .i64 ((rd_T100 l1 x12_1).f1))).trans hx879_4; replace hx879_5 := (cell_far (p := ⟨gb10, 1, none⟩) ψ132 (.int .i64 ((rd_T100 l1 x12_1).f1))).trans hx879_5; (try have hy879_0 := fun (n_ : Nat) => (show ((((w1_.drewN n_).setCell ⟨gb10, 0, none⟩ (.int .i64 ((rd_T100 l1 x12_1).f0))).setCell ⟨gb10, 1, none⟩ (.int .i64 ((rd_T100 l1 x12_1).f1)))).cell? _ = some _ from hx879_0)); (try have hy879_1 := fun (n_ : Nat) => (show ((((w1_.drewN n_).setCell ⟨gb10, 0, none⟩ (.int .i64 ((rd_T100 l1 x12_1).f0))).setCell ⟨gb10, 1, none⟩ (.int .i64 ((rd_T100 l1 x12_1).f1)))).cell? _ = some _ from hx879_1)); (try have hy879_2 := fun (n_ : Nat) => (show ((((w1_.drewN n_).setCell ⟨gb10, 0, none⟩ (.int .i64 ((rd_T100 l1 x12_1).f0))).setCell ⟨gb10, 1, none⟩ (.int .i64 ((rd_T100 l1 x12_1).f1)))).cell? _ = some _ from hx879_2)); (try have hy879_3 := fun (n_ : Nat) => (show ((((w1_.drewN n_).setCell ⟨gb10, 0, none⟩ (.int .i64 ((rd_T100 l1 x12_1).f0))).setCell ⟨gb10, 1, none⟩ (.int .i64 ((rd_T100 l1 x12_1).f1)))).cell? _ = some _ from hx879_3)); (try have hy879_4 := fun (n_ : Nat) => (show ((((w1_.drewN n_).setCell ⟨gb10, 0, none⟩ (.int .i64 ((rd_T100 l1 x12_1).f0))).setCell ⟨gb10, 1, none⟩ (.int .i64 ((rd_T100 l1 x12_1).f1)))).cell? _ = some _ from hx879_4)); (try have hy879_5 := fun (n_ : Nat) => (show ((((w1_.drewN n_).setCell ⟨gb10, 0, none⟩ (.int .i64 ((rd_T100 l1 x12_1).f0))).setCell ⟨gb10, 1, none⟩ (.int .i64 ((rd_T100 l1 x12_1).f1)))).cell? _ = some _ from hx879_5)); clear hn879_0; clear hn879_1; replace p879 := eq_true p879; replace q879 := eq_true q879))) | (go_at_call 88; (with_reducible refine (impl_greatest.calls _ c0 l0 _ _ ?_ ?_ ?_ A10.out).mono ?_); exact hn0; exact Kd.C_below HR0.out ψ52; exact HC0.out; rintro e w' ⟨rfl, ⟨nd, rfl⟩⟩; (try first | exact ⟨rfl, _, World.drewN_drewN _ _ _⟩ | exact ⟨rfl, _, Eq.trans (World.drewN_drewN _ _ _) (congrArg (World.drewN _) (Nat.add_assoc _ _ _))⟩)) | (go_at_call 91; (with_reducible refine (impl_varsOf.calls _ c0 l0 _ _ ?_ ?_ ?_ A17.out).mono ?_); exact hn0; exact Kd.C_below HR0.out ψ52; exact HC0.out; rintro e w' ⟨rfl, ⟨nd, rfl⟩⟩; (try first | exact ⟨rfl, _, World.drewN_drewN _ _ _⟩ | exact ⟨rfl, _, Eq.trans (World.drewN_drewN _ _ _) (congrArg (World.drewN _) (Nat.add_assoc _ _ _))⟩)) | ((with_reducible refine qR_ ?_)) | ((with_reducible refine wpQuiet_step (fun K hK => ?_)); go_simp; first | (refine hK _ ?_; clear hK K) | (apply Exists.intro; refine ⟨fun _ => ?_, hK _ ?_⟩)) | ((with_reducible refine wpQuiet_nil ?_); rintro _ ⟨nq, rfl⟩))
 first | (go_ret; exact ⟨ψ9, ψ52⟩) | (go_roundg k1; (case measure => have := HK1.out; omega); (case rel => exact ⟨(wrap64 (x12_1 + 1)), ψ0, H', ⟨ψ53⟩, ⟨ψ52⟩⟩))) : P := h
set_option maxHeartbeats 8000000 in
set_option maxRecDepth 100000 in
theorem impl_reckonable.calls (k : Nat) (A0 : Option Addr) (c0 : Nat) (l0 : List (S35)) (A1 : Option Addr) (c1 : Nat) (l1 : List (S100)) (r : Bool) (w : World) (hn0 : l0.length = 1) (hr0 : Kd.C k35 w A0 l0.length l0) (hc0 : l0.length ≤ c0) (hr1 : Kd.C k100 w A1 l1.length l1) (hc1 : l1.length ≤ c1) (h : impl_reckonable.f k l0 l1 = some r) :
 Calls Try.prog 98 #[.pointer A0, .slice A1 l1.length c1] w fun e w' => e = .returned (.bool r) ∧ Below w.heap.size w w' := by
 have hu100 := Try.underlying100
 have HR0 := Aside0.mk hr0
 have HC0 := Aside0.mk hc0
 clear hr0 hc0
 have HR1 := Aside0.mk hr1
 have HC1 := Aside0.mk hc1
 clear hr1 hc1
 have HB := Aside0.mk (Below.refl w.heap.size w)
 have H : ((impl_ExpOk.f k l1).bind fun t870 => (if t870 = true then (impl_reckonable.l0 k l0 l1 (l1.length : Int) 0) else (some false))) = some r := h
 clear h
 replace H := Option.bind_eq_some_iff.mp H
 obtain ⟨t870, A30, H⟩ := H
 have A3 := Aside0.mk A30
 clear A30
 replace H := ifB H; rcases H with ⟨rfl, H⟩ | ⟨rfl, H⟩
 ·have H' := Aside0.mk H
  clear H
  go_enter Try.func98, Try.ntmps98
  go_wp2_with (first | (go_at_call 108; (with_reducible refine (impl_ExpOk.calls k _ _ l1 _ _ ?_ ?_ A3.out).mono ?_); exact ψ133; exact HC1.out; rintro e w5 ⟨rfl, hb⟩; replace HB := Aside0.mk (below_step ψ52 hb); (try clear hb)) | ((with_reducible refine qR_ ?_)) | ((with_reducible refine wpQuiet_step (fun K hK => ?_)); go_simp; first | (refine hK _ ?_; clear hK K) | (apply Exists.intro; refine ⟨fun _ => ?_, hK _ ?_⟩)) | ((with_reducible refine wpQuiet_nil ?_); rintro _ ⟨nq, rfl⟩))
  go_loopg [12] k (fun kq v12 w' => ∃ (x12_1 : Int), v12 = .int .i64 x12_1 ∧ Aside0 (impl_reckonable.l0 kq l0 l1 (l1.length : Int) x12_1 = some r) ∧ Aside0 (kq ≤ k) ∧ Aside0 (Below w.heap.size w w'))
  case atStart => exact ⟨(0), ψ0, H', ⟨Nat.le_refl _⟩, ⟨ψ52⟩⟩
  case round =>
   clear H'
   try clear c1
   try clear p2
   try clear c4
   obtain ⟨x12_1, rfl, HA, HK1, HB⟩ := hrel
   cases gk with
   | zero => exact absurd HA.out (by simp [impl_reckonable.l0])
   | succ k1 =>
    have H := HA.out
    clear HA
    simp only [impl_reckonable.l0] at H
    replace H := ifD H; rcases H with ⟨c6b0, H⟩ | ⟨c6b0, H⟩
    ·replace H := ifN H; obtain ⟨c7b0, H⟩ := H
     replace H := ifN H; obtain ⟨c8b0, H⟩ := H
     replace H := ifF H; rcases H with ⟨c9b0, c9b1, H⟩ | ⟨c9b0, c9b1, c9, H⟩
     ·replace H := Option.bind_eq_some_iff.mp H
      obtain ⟨t875, A100, H⟩ := H
      have A10 := Aside0.mk A100
      clear A100
      replace H := ifG H; rcases H with ⟨c11b0, H⟩ | ⟨c11b0, H⟩
      ·exact τ57
      ·exact τ57
     ·by_cases c16 : ((rd_T100 l1 x12_1).f0) = 1
      ·rw [if_pos c16] at H
       have c16b0 : (((rd_T100 l1 x12_1).f0) == 1) = true := beq_iff_eq.mpr c16
       have c16b1 : (((rd_T100 l1 x12_1).f0) != 1) = false := bne_eq_false_iff_eq.mpr c16
       clear c16
       replace H := Option.bind_eq_some_iff.mp H
       obtain ⟨t877, A170, H⟩ := H
       have A17 := Aside0.mk A170
       clear A170
       replace H := ifL H; rcases H with ⟨c18b0, H⟩ | ⟨c18b0, H⟩
       ·exact τ57
       ·exact τ57
      ·rw [if_neg c16] at H
       have c16b0 : (((rd_T100 l1 x12_1).f0) == 1) = false := beq_eq_false_iff_ne.mpr c16
       have c16b1 : (((rd_T100 l1 x12_1).f0) != 1) = true := bne_iff_ne.mpr c16
       replace H := ifF H; rcases H with ⟨c23b0, c23b1, H⟩ | ⟨c23b0, c23b1, c23, H⟩
       ·by_cases c24 : ((rd_T100 l1 x12_1).f1) ≥ (((rd_T35 l0 0).f4).length : Int)
        ·rw [if_pos c24] at H
         have c24b0 : decide ((((rd_T35 l0 0).f4).length : Int) ≤ ((rd_T100 l1 x12_1).f1)) = true := decide_eq_true c24
         clear c24
         exact τ57
        ·rw [if_neg c24] at H
         have c24b0 : decide ((((rd_T35 l0 0).f4).length : Int) ≤ ((rd_T100 l1 x12_1).f1)) = false := decide_eq_false c24
         clear c24
         exact τ57
       ·exact τ57
    ·exact τ57
 ·obtain rfl := Option.some.inj H
  go_enter Try.func98, Try.ntmps98
  go_wp2_with (first | (go_at_call 108; (with_reducible refine (impl_ExpOk.calls k _ _ l1 _ _ ?_ ?_ A3.out).mono ?_); exact ψ133; exact HC1.out; rintro e w31 ⟨rfl, hb⟩; replace HB := Aside0.mk (below_step ψ52 hb); (try clear hb)) | ((with_reducible refine qR_ ?_)) | ((with_reducible refine wpQuiet_step (fun K hK => ?_)); go_simp; first | (refine hK _ ?_; clear hK K) | (apply Exists.intro; refine ⟨fun _ => ?_, hK _ ?_⟩)) | ((with_reducible refine wpQuiet_nil ?_); rintro _ ⟨nq, rfl⟩))
  go_ret
  exact ⟨ψ9, ψ52⟩

/-! ### impl_mayStand: function 73 -/
mutual
def impl_mayStand.j0 : Nat → List (S100) → Bool → Option (Bool)
 | 0, _, _ => none
 | k + 1, x1, x15 => if x15 = true then (some false) else (impl_mayStand.l0 k x1 (x1.length : Int) 0)
def impl_mayStand.l0 : Nat → List (S100) → Int → Int → Option (Bool)
 | 0, _, _, _ => none
 | k + 1, x16, x17, x18 => if x18 < x17 then (if 0 ≤ x18 then (if x18 < (x16.length : Int) then (if ((rd_T100 x16 x18).f0) = 17 then (some false) else (impl_mayStand.l0 k x16 x17 (wrap64 (x18 + 1)))) else (none)) else (none)) else (some true)
end
def impl_mayStand.f (k : Nat) (l0 : List (S35)) (l1 : List (S100)) : Option (Bool) := if (l1.length : Int) > 40 then (impl_mayStand.j0 k l1 true) else ((impl_reckonable.f k l0 l1).bind fun t880 => (impl_mayStand.j0 k l1 (!t880)))
set_option maxRecDepth 100000 in
theorem τ58 {P : Prop} (h : P := by
 first | obtain rfl := Option.some.inj H | (have H' := Aside0.mk H; clear H)
 try (have p881 : 0 ≤ (x18_2 : Int) := of_decide_eq_true ψ2; have q881 : x18_2 < (l1.length : Int) := of_decide_eq_true ψ2; obtain ⟨ad881, e881, hx881_0, hx881_1⟩ := at_T100 HR1.out x18_2 p881 q881; cases e881; replace hx881_0 := (HB.out.cell (World.block_lt_of_cell? w _ hx881_0)).trans hx881_0; replace hx881_1 := (HB.out.cell (World.block_lt_of_cell? w _ hx881_1)).trans hx881_1; replace p881 := eq_true p881; replace q881 := eq_true q881)
 go_wp2_with (first | ((with_reducible refine gate_dst (N := 6) rfl ?_); refine bE 6 #[.int .i64 0, .int .i64 0] 100 ?_; intro gb10 hg w1_ hbox hb; have q := n4_ (below_step ψ52 hb) (hbox) ((ψ311 : w.heap.size ≤ gb10)) ((ψ311 : w.heap.size ≤ gb10)); clear HB; obtain ⟨HB, BK10, GW10, GE10⟩ := q; clear hb hbox hg; obtain ⟨hczB10_0, hczB10_1, hfzB10_0, hfzB10_1⟩ := cells2 BK10.out))
 first | (go_ret; exact ⟨ψ9, ψ52⟩) | (go_roundg k2; (case measure => have := HJ2.out; have := HK2.out; omega); (case rel => exact ⟨(wrap64 (x18_2 + 1)), ψ0, H', ⟨by have := HJ2.out; have := HK2.out; omega⟩, ⟨ψ52⟩⟩))) : P := h
set_option maxHeartbeats 8000000 in
set_option maxRecDepth 100000 in
theorem impl_mayStand.calls (k : Nat) (A0 : Option Addr) (c0 : Nat) (l0 : List (S35)) (A1 : Option Addr) (c1 : Nat) (l1 : List (S100)) (r : Bool) (w : World) (hn0 : l0.length = 1) (hr0 : Kd.C k35 w A0 l0.length l0) (hc0 : l0.length ≤ c0) (hr1 : Kd.C k100 w A1 l1.length l1) (hc1 : l1.length ≤ c1) (h : impl_mayStand.f k l0 l1 = some r) :
 Calls Try.prog 73 #[.pointer A0, .slice A1 l1.length c1] w fun e w' => e = .returned (.bool r) ∧ Below w.heap.size w w' := by
 have hu100 := Try.underlying100
 have HR0 := Aside0.mk hr0
 have HC0 := Aside0.mk hc0
 clear hr0 hc0
 have HR1 := Aside0.mk hr1
 have HC1 := Aside0.mk hc1
 clear hr1 hc1
 have HB := Aside0.mk (Below.refl w.heap.size w)
 have H : (if (l1.length : Int) > 40 then (impl_mayStand.j0 k l1 true) else ((impl_reckonable.f k l0 l1).bind fun t880 => (impl_mayStand.j0 k l1 (!t880)))) = some r := h
 clear h
 have HC3 := Aside0.mk H
 clear H
 go_enter Try.func73, Try.ntmps73
 go_upto_region 1 with (fail)
 go_cut [15] (fun v15 wc => ∃ (kq : Nat) (x15_2 : Bool), v15 = .bool x15_2 ∧ Aside0 (impl_mayStand.j0 kq l1 x15_2 = some r) ∧ Aside0 (kq ≤ k) ∧ Aside0 (Below w.heap.size w wc))
 case first =>
  have H := HC3.out
  clear HC3
  by_cases c4 : (l1.length : Int) > 40
  ·rw [if_pos c4] at H
   have c4b0 : decide (40 < (l1.length : Int)) = true := decide_eq_true c4
   have c4b1 : decide (40 < l1.length) = true := decide_eq_true ψ7
   clear c4
   (first | rw [c4b0] | rw [c4b1] | (simp only [i64_w, i32_w]; rw [c4b0]) | skip)
   have H' := Aside0.mk H
   clear H
   go_wp2
   go_meet
   case rel => exact ⟨_, (true), ψ0, H', ⟨ψ25⟩, ⟨ψ52⟩⟩
  ·rw [if_neg c4] at H
   have c4b0 : decide (40 < (l1.length : Int)) = false := decide_eq_false c4
   have c4b1 : decide (40 < l1.length) = false := decide_eq_false ψ7
   clear c4
   (first | rw [c4b0] | rw [c4b1] | (simp only [i64_w, i32_w]; rw [c4b0]) | skip)
   replace H := Option.bind_eq_some_iff.mp H
   obtain ⟨t880, A50, H⟩ := H
   have A5 := Aside0.mk A50
   clear A50
   have H' := Aside0.mk H
   clear H
   go_wp2_with (first | (go_at_call 98; (with_reducible refine (impl_reckonable.calls k _ c0 l0 _ _ l1 _ _ ?_ ?_ ?_ ?_ ?_ A5.out).mono ?_); exact hn0; exact ψ65; exact HC0.out; exact ψ60; exact HC1.out; rintro e w6 ⟨rfl, hb⟩; replace HB := Aside0.mk (below_step ψ52 hb); (try clear hb)))
   go_meet
   case rel => exact ⟨_, (!t880), ψ0, H', ⟨ψ25⟩, ⟨ψ52⟩⟩
 case rest =>
  clear HC3
  try clear c1
  try clear p2
  try clear c4
  try clear c4b0
  try clear c4b1
  obtain ⟨kq, x15_2, rfl, HA, HJ2, HB⟩ := hcut
  cases kq with
  | zero => exact absurd HA.out (by simp [impl_mayStand.j0])
  | succ kj2 =>
   have H := HA.out
   clear HA
   simp only [impl_mayStand.j0] at H
   replace H := ifB H; rcases H with ⟨rfl, H⟩ | ⟨rfl, H⟩
   ·obtain rfl := Option.some.inj H
    go_wp2
    go_ret
    exact ⟨ψ9, ψ52⟩
   ·have H' := Aside0.mk H
    clear H
    go_wp2
    go_loopg [18] kj2 (fun kq v18 w' => ∃ (x18_2 : Int), v18 = .int .i64 x18_2 ∧ Aside0 (impl_mayStand.l0 kq l1 (l1.length : Int) x18_2 = some r) ∧ Aside0 (kq ≤ kj2) ∧ Aside0 (Below w.heap.size w w'))
    case atStart => exact ⟨(0), ψ0, H', ⟨Nat.le_refl _⟩, ⟨ψ52⟩⟩
    case round =>
     clear H'
     try clear c1
     try clear p2
     try clear c4
     try clear c4b0
     try clear c4b1
     try clear c7
     try clear p2
     obtain ⟨x18_2, rfl, HA, HK2, HB⟩ := hrel
     cases gk with
     | zero => exact absurd HA.out (by simp [impl_mayStand.l0])
     | succ k2 =>
      have H := HA.out
      clear HA
      simp only [impl_mayStand.l0] at H
      replace H := ifD H; rcases H with ⟨c8b0, H⟩ | ⟨c8b0, H⟩
      ·replace H := ifN H; obtain ⟨c9b0, H⟩ := H
       replace H := ifN H; obtain ⟨c10b0, H⟩ := H
       replace H := ifF H; rcases H with ⟨c11b0, c11b1, H⟩ | ⟨c11b0, c11b1, c11, H⟩
       ·exact τ58
       ·exact τ58
      ·exact τ58

/-! ### impl_holdsPlace: function 92 -/
def impl_holdsPlace.f (k : Nat) (l0 : List (S35)) (l1 : List (S100)) (a2 : Bool) : Option (Bool) := if a2 = true then ((impl_mayStand.f k l0 l1).bind fun t884 => (some t884)) else (some ((l1.length : Int) == 0))
set_option maxRecDepth 100000 in
theorem τ59 {P : Prop} (h : P := by
 obtain rfl := Option.some.inj H
 go_enter Try.func92, Try.ntmps92
 go_wp2_with (first | ((with_reducible refine gate_callee (f := 73) rfl ?_); refine gL 14 Try.func73 #[.pointer A0, .slice A1 l1.length c1] ?_; (with_reducible refine (impl_mayStand.calls k _ c0 l0 _ _ l1 _ _ ?_ ?_ ?_ ?_ ?_ A5.out).mono ?_); exact hn0; exact ψ6; exact HC0.out; exact ψ133; exact HC1.out; rintro e w1_ ⟨rfl, hb⟩; refine ⟨_, rfl, ?_⟩; replace HB := Aside0.mk (below_step ψ59 hb); (try clear hb)))
 go_ret
 exact ⟨ψ9, ψ59⟩) : P := h
set_option maxHeartbeats 8000000 in
set_option maxRecDepth 100000 in
theorem impl_holdsPlace.calls (k : Nat) (A0 : Option Addr) (c0 : Nat) (l0 : List (S35)) (A1 : Option Addr) (c1 : Nat) (l1 : List (S100)) (a2 : Bool) (r : Bool) (w : World) (hn0 : l0.length = 1) (hr0 : Kd.C k35 w A0 l0.length l0) (hc0 : l0.length ≤ c0) (hr1 : Kd.C k100 w A1 l1.length l1) (hc1 : l1.length ≤ c1) (h : impl_holdsPlace.f k l0 l1 a2 = some r) :
 Calls Try.prog 92 #[.pointer A0, .slice A1 l1.length c1, .bool a2] w fun e w' => e = .returned (.bool r) ∧ Below w.heap.size w w' := by
 have HR0 := Aside0.mk hr0
 have HC0 := Aside0.mk hc0
 clear hr0 hc0
 have HR1 := Aside0.mk hr1
 have HC1 := Aside0.mk hc1
 clear hr1 hc1
 have HB := Aside0.mk (Below.refl w.heap.size w)
 have H : (if a2 = true then ((impl_mayStand.f k l0 l1).bind fun t884 => (some t884)) else (some ((l1.length : Int) == 0))) = some r := h
 clear h
 replace H := ifB H; rcases H with ⟨rfl, H⟩ | ⟨rfl, H⟩
 ·replace H := Option.bind_eq_some_iff.mp H
  obtain ⟨t884, A50, H⟩ := H
  have A5 := Aside0.mk A50
  clear A50
  exact τ59
 ·exact τ59

end Go.Proofs.Ytbjmhdoagjmmcaa.PCore

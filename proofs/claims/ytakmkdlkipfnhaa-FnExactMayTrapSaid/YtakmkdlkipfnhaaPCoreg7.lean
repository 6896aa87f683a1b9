/- The walks of the functions that the laws come to, part 7: turned out of the kit's print, and mended where that fell. -/
import Derived.Test.YtakmkdlkipfnhaaPCoreg
import Derived.Test.YtakmkdlkipfnhaaPCoreg6
namespace Go.Proofs.Ytakmkdlkipfnhaa.PCore
open Go.RowKit Go.Proofs.YtakmkdlkipfnhaaW.PrintWords Go.Proofs.YtakmkdlkipfnhaaW.PrintLast Go.Proofs.YtakmkdlkipfnhaaW.PrintMore
attribute [local go_sem] max2_int min2_int max_two min_two max_three min_three max_four min_four   -- for this text's walks alone
set_option linter.unusedVariables false
set_option maxHeartbeats 8000000
set_option maxRecDepth 100000
set_option linter.unusedSimpArgs false

theorem ψ55 {P : Prop} (h : P := by have := HJ7.out; have := HJ11.out; first | omega | exact Nat.le_refl _) : P := h
theorem ψ56 {P : Prop} (h : P := by have := HJ7.out; first | omega | exact Nat.le_refl _) : P := h
/-! ### impl_stmtRight: function 137 -/
mutual
def impl_stmtRight.j2 : Nat → List (S36) → List (S114) → Bool → Bool → Int → Int → Option (Bool)
 | 0, _, _, _, _, _, _ => none
 | k + 1, x0, x1, x5, x6, x7, x8 => if ((rd_T114 x1 0).f1) < x7 then (impl_stmtRight.j3 k x0 x1 x5 x6 true) else (impl_stmtRight.j3 k x0 x1 x5 x6 (decide (((rd_T114 x1 0).f1) > x8)))
def impl_stmtRight.j3 : Nat → List (S36) → List (S114) → Bool → Bool → Bool → Option (Bool)
 | 0, _, _, _, _, _ => none
 | k + 1, x0, x1, x5, x6, x53 => if x53 = true then (some false) else ((impl_holdsPlace.f k x0 ((rd_T114 x1 0).f2) x5).bind fun t472 => (if t472 = true then ((impl_holdsPlace.f k x0 ((rd_T114 x1 0).f3) x6).bind fun t474 => (some t474)) else (some false)))
def impl_stmtRight.j0 : Nat → List (S36) → List (S114) → Bool → Bool → Int → Int → Int → Bool → Option (Bool)
 | 0, _, _, _, _, _, _, _, _ => none
 | k + 1, x0, x1, x5, x6, x7, x8, x12, x28 => if x28 = true then (impl_stmtRight.j2 k x0 x1 x5 true x7 x8) else (if x12 = 5 then (impl_stmtRight.j2 k x0 x1 x5 x6 x7 4) else (if x12 = 7 then (impl_stmtRight.j1 k x0 x1 x5 x6 x7 x8 x12 (x12 == 7)) else (impl_stmtRight.j1 k x0 x1 x5 x6 x7 x8 x12 (x12 == 9))))
def impl_stmtRight.j1 : Nat → List (S36) → List (S114) → Bool → Bool → Int → Int → Int → Bool → Option (Bool)
 | 0, _, _, _, _, _, _, _, _ => none
 | k + 1, x0, x1, x5, x6, x7, x8, x12, x33 => if x33 = true then (impl_stmtRight.j2 k x0 x1 x5 x6 x7 9) else (if x12 = 3 then (impl_stmtRight.j2 k x0 x1 x5 x6 x7 x8) else (if x12 = 4 then (impl_stmtRight.j2 k x0 x1 x5 x6 x7 x8) else (if x12 = 8 then (impl_stmtRight.j2 k x0 x1 x5 x6 x7 x8) else (some false))))
end
def impl_stmtRight.f (k : Nat) (l0 : List (S36)) (l1 : List (S114)) : Option (Bool) := if ((rd_T114 l1 0).f0) = 0 then ((impl_inputsOf.f l0).bind fun t466 => ((impl_varsOf.f l0).bind fun t467 => (impl_stmtRight.j2 k l0 l1 false true t466 (wrap64 (t467 - 1))))) else (if ((rd_T114 l1 0).f0) = 1 then (impl_stmtRight.j2 k l0 l1 true true 0 (wrap64 ((((rd_T36 l0 0).f4).length : Int) - 1))) else (if ((rd_T114 l1 0).f0) = 2 then (impl_stmtRight.j0 k l0 l1 false false 0 0 ((rd_T114 l1 0).f0) (((rd_T114 l1 0).f0) == 2)) else (impl_stmtRight.j0 k l0 l1 false false 0 0 ((rd_T114 l1 0).f0) (((rd_T114 l1 0).f0) == 6))))
theorem τ48 {P : Prop} (h : P := by
 first | obtain rfl := Option.some.inj H | (have H' := Aside0.mk H; clear H)
 go_wp2
 first | (go_meet; (case rel => exact ⟨_, (false), (false), (0), (9), ψ7, ψ7, ψ7, ψ7, H', ⟨ψ55⟩, ⟨ψ6⟩⟩)) | (go_meet; (case rel => exact ⟨_, (false), (false), (0), (0), ψ7, ψ7, ψ7, ψ7, H', ⟨ψ55⟩, ⟨ψ6⟩⟩)) | (go_ret; exact ⟨ψ4, ψ6⟩)) : P := h
theorem τ49 {P : Prop} (h : P := by
 have H' := Aside0.mk H
 clear H
 have p469 : 0 ≤ (0 : Int) := ψ21
 have q469 : 0 < (l1.length : Int) := ψ125
 obtain ⟨ad469, A469_2, c469_2, A469_3, c469_3, e469, hx469_0, hx469_1, hx469_2, hx469_3, hl469_2, hi469_2, hl469_3, hi469_3⟩ := at_T114 HR1.out 0 p469 q469
 obtain rfl : ad465 = ad469 := (by injection e469)
 have qi469 : (0 < l1.length) = True := eq_true ψ21
 (try rw [show ((0 : Int)).toNat = 0 from rfl] at hx469_0)
 (try rw [show 0 * 4 = 0 from rfl] at hx469_0)
 (try rw [Addr.add_zero'] at hx469_0)
 (try rw [show ((0 : Int)).toNat = 0 from rfl] at hx469_1)
 (try rw [show 0 * 4 = 0 from rfl] at hx469_1)
 (try rw [Addr.add_zero'] at hx469_1)
 (try rw [show ((0 : Int)).toNat = 0 from rfl] at hx469_2)
 (try rw [show 0 * 4 = 0 from rfl] at hx469_2)
 (try rw [Addr.add_zero'] at hx469_2)
 (try rw [show ((0 : Int)).toNat = 0 from rfl] at hx469_3)
 (try rw [show 0 * 4 = 0 from rfl] at hx469_3)
 (try rw [Addr.add_zero'] at hx469_3)
 replace hx469_0 := cB HB hx469_0
 replace hx469_1 := cB HB hx469_1
 replace hx469_2 := cB HB hx469_2
 replace hx469_3 := cB HB hx469_3
 have q := n4_ hi469_2 hl469_2 hi469_3 hl469_3
 clear hi469_2 hl469_2 hi469_3 hl469_3
 obtain ⟨HR469_2, HC469_2, HR469_3, HC469_3⟩ := q
 replace p469 := eq_true p469
 replace q469 := eq_true q469
 try (have p470 : 0 ≤ (0 : Int) := ψ21; have q470 : 0 < (l1.length : Int) := ψ125; obtain ⟨ad470, A470_2, c470_2, A470_3, c470_3, e470, hx470_0, hx470_1, hx470_2, hx470_3, hl470_2, hi470_2, hl470_3, hi470_3⟩ := at_T114 HR1.out 0 p470 q470; obtain rfl : ad465 = ad470 := (by injection e470); have qi470 : (0 < l1.length) = True := eq_true ψ21; (try rw [show ((0 : Int)).toNat = 0 from rfl] at hx470_0); (try rw [show 0 * 4 = 0 from rfl] at hx470_0); (try rw [Addr.add_zero'] at hx470_0); (try rw [show ((0 : Int)).toNat = 0 from rfl] at hx470_1); (try rw [show 0 * 4 = 0 from rfl] at hx470_1); (try rw [Addr.add_zero'] at hx470_1); (try rw [show ((0 : Int)).toNat = 0 from rfl] at hx470_2); (try rw [show 0 * 4 = 0 from rfl] at hx470_2); (try rw [Addr.add_zero'] at hx470_2); (try rw [show ((0 : Int)).toNat = 0 from rfl] at hx470_3); (try rw [show 0 * 4 = 0 from rfl] at hx470_3); (try rw [Addr.add_zero'] at hx470_3); replace hx470_0 := cB HB hx470_0; replace hx470_1 := cB HB hx470_1; replace hx470_2 := cB HB hx470_2; replace hx470_3 := cB HB hx470_3; have q := n4_ hi470_2 hl470_2 hi470_3 hl470_3; clear hi470_2 hl470_2 hi470_3 hl470_3; obtain ⟨HR470_2, HC470_2, HR470_3, HC470_3⟩ := q; replace p470 := eq_true p470; replace q470 := eq_true q470)
 try (have ea_ := Option.some.inj (hx469_2.symm.trans hx470_2))
 injection ea_ with ea_ en_ ec_
 subst ea_
 subst ec_
 clear en_
 try (have ea_ := Option.some.inj (hx469_3.symm.trans hx470_3))
 go_wp2
 first | (go_meet; (case rel => exact ⟨_, (true), ψ7, H', ⟨ψ26⟩, ⟨ψ6⟩⟩)) | (go_meet; (case rel => exact ⟨_, (decide (((rd_T114 l1 0).f1) > x8_2)), ψ7, H', ⟨ψ26⟩, ⟨ψ6⟩⟩))) : P := h
theorem τ50 {P : Prop} (h : P := by
 obtain rfl := Option.some.inj H
 try (have p471 : 0 ≤ (0 : Int) := ψ21; have q471 : 0 < (l1.length : Int) := ψ125; obtain ⟨ad471, A471_2, c471_2, A471_3, c471_3, e471, hx471_0, hx471_1, hx471_2, hx471_3, hl471_2, hi471_2, hl471_3, hi471_3⟩ := at_T114 HR1.out 0 p471 q471; obtain rfl : ad465 = ad471 := (by injection e471); have qi471 : (0 < l1.length) = True := eq_true ψ21; (try rw [show ((0 : Int)).toNat = 0 from rfl] at hx471_0); (try rw [show 0 * 4 = 0 from rfl] at hx471_0); (try rw [Addr.add_zero'] at hx471_0); (try rw [show ((0 : Int)).toNat = 0 from rfl] at hx471_1); (try rw [show 0 * 4 = 0 from rfl] at hx471_1); (try rw [Addr.add_zero'] at hx471_1); (try rw [show ((0 : Int)).toNat = 0 from rfl] at hx471_2); (try rw [show 0 * 4 = 0 from rfl] at hx471_2); (try rw [Addr.add_zero'] at hx471_2); (try rw [show ((0 : Int)).toNat = 0 from rfl] at hx471_3); (try rw [show 0 * 4 = 0 from rfl] at hx471_3); (try rw [Addr.add_zero'] at hx471_3); replace hx471_0 := cB HB hx471_0; replace hx471_1 := cB HB hx471_1; replace hx471_2 := cB HB hx471_2; replace hx471_3 := cB HB hx471_3; have q := n4_ hi471_2 hl471_2 hi471_3 hl471_3; clear hi471_2 hl471_2 hi471_3 hl471_3; obtain ⟨HR471_2, HC471_2, HR471_3, HC471_3⟩ := q; replace p471 := eq_true p471; replace q471 := eq_true q471)
 go_wp2_with (first | ((with_reducible refine gate_callee (f := 149) rfl ?_); refine gL 60 Try.func149 #[.pointer A0, .slice A471_2 ((rd_T114 l1 0).f2).length c471_2, .bool x5_2] ?_; (with_reducible refine (impl_holdsPlace.calls kj17 _ c0 l0 _ _ ((rd_T114 l1 0).f2) x5_2 _ _ ?_ ?_ ?_ ?_ ?_ A21.out).mono ?_); exact hn0; exact ψ32; exact HC0.out; exact (by repeat (first | exact (Kd.C_below HR471_2.out HB.out) | (with_reducible refine Kd.C_alloc ?_ _) | (with_reducible refine Kd.C_drewN ?_ _) | (with_reducible refine Kd.C_drew ?_))); exact HC471_2.out; rintro e w1_ ⟨rfl, hb⟩; refine ⟨_, rfl, ?_⟩; replace HB := Aside0.mk (below_step ψ6 hb); (try clear hb); (try (have p473 : 0 ≤ (0 : Int) := ψ21; have q473 : 0 < (l1.length : Int) := ψ125; obtain ⟨ad473, A473_2, c473_2, A473_3, c473_3, e473, hx473_0, hx473_1, hx473_2, hx473_3, hl473_2, hi473_2, hl473_3, hi473_3⟩ := at_T114 HR1.out 0 p473 q473; obtain rfl : ad465 = ad473 := (by injection e473); have qi473 : (0 < l1.length) = True := eq_true ψ21; (try rw [show ((0 : Int)).toNat = 0 from rfl] at hx473_0); (try rw [show 0 * 4 = 0 from rfl] at hx473_0); (try rw [Addr.add_zero'] at hx473_0); (try rw [show ((0 : Int)).toNat = 0 from rfl] at hx473_1); (try rw [show 0 * 4 = 0 from rfl] at hx473_1); (try rw [Addr.add_zero'] at hx473_1); (try rw [show ((0 : Int)).toNat = 0 from rfl] at hx473_2); (try rw [show 0 * 4 = 0 from rfl] at hx473_2); (try rw [Addr.add_zero'] at hx473_2); (try rw [show ((0 : Int)).toNat = 0 from rfl] at hx473_3); (try rw [show 0 * 4 = 0 from rfl] at hx473_3); (try rw [Addr.add_zero'] at hx473_3); replace hx473_0 := cB HB hx473_0; replace hx473_1 := cB HB hx473_1; replace hx473_2 := cB HB hx473_2; replace hx473_3 := cB HB hx473_3; have q := n4_ hi473_2 hl473_2 hi473_3 hl473_3; clear hi473_2 hl473_2 hi473_3 hl473_3; obtain ⟨HR473_2, HC473_2, HR473_3, HC473_3⟩ := q; replace p473 := eq_true p473; replace q473 := eq_true q473))) | (go_at_call 149; (with_reducible refine (impl_holdsPlace.calls kj17 _ c0 l0 _ _ ((rd_T114 l1 0).f3) x6_2 _ _ ?_ ?_ ?_ ?_ ?_ A23.out).mono ?_); exact hn0; exact ψ32; exact HC0.out; exact (by repeat (first | exact (Kd.C_below HR473_3.out HB.out) | (with_reducible refine Kd.C_alloc ?_ _) | (with_reducible refine Kd.C_drewN ?_ _) | (with_reducible refine Kd.C_drew ?_))); exact HC473_3.out; rintro e w2_ ⟨rfl, hb⟩; replace HB := Aside0.mk (below_step ψ6 hb); (try clear hb)))
 go_ret
 exact ⟨ψ4, ψ6⟩) : P := h
theorem impl_stmtRight.calls (k : Nat) (A0 : Option Addr) (c0 : Nat) (l0 : List (S36)) (A1 : Option Addr) (c1 : Nat) (l1 : List (S114)) (r : Bool) (w : World) (hn0 : l0.length = 1) (hr0 : Kd.C k36 w A0 l0.length l0) (hc0 : l0.length ≤ c0) (hn1 : l1.length = 1) (hr1 : Kd.C k114 w A1 l1.length l1) (hc1 : l1.length ≤ c1) (h : impl_stmtRight.f k l0 l1 = some r) :
 Calls Try.prog 137 #[.pointer A0, .pointer A1] w fun e w' => e = .returned (.bool r) ∧ Below w.heap.size w w' := by
 have q := n4_ hr0 hc0 hr1 hc1
 clear hr0 hc0 hr1 hc1
 obtain ⟨HR0, HC0, HR1, HC1⟩ := q
 have HB := Aside0.mk (Below.refl w.heap.size w)
 unfold impl_stmtRight.f at h
 have H := h
 clear h
 have HC3 := Aside0.mk H
 clear H
 have p465 : 0 ≤ (0 : Int) := ψ21
 have q465 : 0 < (l1.length : Int) := ψ125
 obtain ⟨ad465, A465_2, c465_2, A465_3, c465_3, e465, hx465_0, hx465_1, hx465_2, hx465_3, hl465_2, hi465_2, hl465_3, hi465_3⟩ := at_T114 HR1.out 0 p465 q465
 cases e465
 have qi465 : (0 < l1.length) = True := eq_true ψ21
 (try rw [show ((0 : Int)).toNat = 0 from rfl] at hx465_0)
 (try rw [show 0 * 4 = 0 from rfl] at hx465_0)
 (try rw [Addr.add_zero'] at hx465_0)
 (try rw [show ((0 : Int)).toNat = 0 from rfl] at hx465_1)
 (try rw [show 0 * 4 = 0 from rfl] at hx465_1)
 (try rw [Addr.add_zero'] at hx465_1)
 (try rw [show ((0 : Int)).toNat = 0 from rfl] at hx465_2)
 (try rw [show 0 * 4 = 0 from rfl] at hx465_2)
 (try rw [Addr.add_zero'] at hx465_2)
 (try rw [show ((0 : Int)).toNat = 0 from rfl] at hx465_3)
 (try rw [show 0 * 4 = 0 from rfl] at hx465_3)
 (try rw [Addr.add_zero'] at hx465_3)
 have q := n4_ hi465_2 hl465_2 hi465_3 hl465_3
 clear hi465_2 hl465_2 hi465_3 hl465_3
 obtain ⟨HR465_2, HC465_2, HR465_3, HC465_3⟩ := q
 replace p465 := eq_true p465
 replace q465 := eq_true q465
 go_enter Try.func137, Try.ntmps137
 go_upto_block 0 with (fail)
 go_cut [5, 6, 7, 8] (fun v5 v6 v7 v8 wc => ∃ (kq : Nat) (x5_2 : Bool) (x6_2 : Bool) (x7_2 : Int) (x8_2 : Int), v5 = .bool x5_2 ∧ v6 = .bool x6_2 ∧ v7 = .int .i64 x7_2 ∧ v8 = .int .i64 x8_2 ∧ Aside0 (impl_stmtRight.j2 kq l0 l1 x5_2 x6_2 x7_2 x8_2 = some r) ∧ Aside0 (kq ≤ k) ∧ Aside0 (Below w.heap.size w wc))
 case first =>
  have H := HC3.out
  clear HC3
  replace H := ifF H; rcases H with ⟨c4b0, c4b1, H⟩ | ⟨c4b0, c4b1, c4, H⟩
  ·(first | rw [c4b0] | rw [c4b1] | (simp only [i64_w, i32_w]; rw [c4b0]) | skip)
   replace H := bS H; obtain ⟨t466, A5, H⟩ := H
   replace H := bS H; obtain ⟨t467, A6, H⟩ := H
   have H' := Aside0.mk H
   clear H
   go_wp2_with (first | ((with_reducible refine gate_callee (f := 140) rfl ?_); refine gL 16 Try.func140 #[.pointer A0] ?_; (with_reducible refine (impl_inputsOf.calls _ c0 l0 _ _ ?_ ?_ ?_ A5.out).mono ?_); exact hn0; exact ψ32; exact HC0.out; rintro e w' ⟨rfl, ⟨nd, rfl⟩⟩; refine ⟨_, rfl, ?_⟩) | ((with_reducible refine gate_callee (f := 112) rfl ?_); refine gL 18 Try.func112 #[.pointer A0] ?_; (with_reducible refine (impl_varsOf.calls _ c0 l0 _ _ ?_ ?_ ?_ A6.out).mono ?_); exact hn0; exact ψ118; exact HC0.out; rintro e w' ⟨rfl, ⟨nd, rfl⟩⟩; refine ⟨_, rfl, ?_⟩))
   go_meet
   case rel => exact ⟨_, (false), (true), (t466), (wrap64 (t467 - 1)), ψ7, ψ7, ψ7, ψ7, H', ⟨ψ19⟩, ⟨ψ6⟩⟩
  ·(first | rw [c4b0] | rw [c4b1] | (simp only [i64_w, i32_w]; rw [c4b0]) | skip)
   replace H := ifF H; rcases H with ⟨c7b0, c7b1, H⟩ | ⟨c7b0, c7b1, c7, H⟩
   ·have H' := Aside0.mk H
    clear H
    have p468 : 0 ≤ (0 : Int) := ψ21
    have q468 : 0 < (l0.length : Int) := ψ125
    obtain ⟨ad468, A468_1, c468_1, A468_2, c468_2, A468_4, c468_4, A468_5, c468_5, e468, hx468_0, hx468_1, hx468_2, hx468_3, hx468_4, hx468_5, hl468_1, hi468_1, hl468_2, hi468_2, hl468_4, hi468_4, hl468_5, hi468_5⟩ := at_T36 HR0.out 0 p468 q468
    cases e468
    have qi468 : (0 < l0.length) = True := eq_true ψ21
    (try rw [show ((0 : Int)).toNat = 0 from rfl] at hx468_0)
    (try rw [show 0 * 6 = 0 from rfl] at hx468_0)
    (try rw [Addr.add_zero'] at hx468_0)
    (try rw [show ((0 : Int)).toNat = 0 from rfl] at hx468_1)
    (try rw [show 0 * 6 = 0 from rfl] at hx468_1)
    (try rw [Addr.add_zero'] at hx468_1)
    (try rw [show ((0 : Int)).toNat = 0 from rfl] at hx468_2)
    (try rw [show 0 * 6 = 0 from rfl] at hx468_2)
    (try rw [Addr.add_zero'] at hx468_2)
    (try rw [show ((0 : Int)).toNat = 0 from rfl] at hx468_3)
    (try rw [show 0 * 6 = 0 from rfl] at hx468_3)
    (try rw [Addr.add_zero'] at hx468_3)
    (try rw [show ((0 : Int)).toNat = 0 from rfl] at hx468_4)
    (try rw [show 0 * 6 = 0 from rfl] at hx468_4)
    (try rw [Addr.add_zero'] at hx468_4)
    (try rw [show ((0 : Int)).toNat = 0 from rfl] at hx468_5)
    (try rw [show 0 * 6 = 0 from rfl] at hx468_5)
    (try rw [Addr.add_zero'] at hx468_5)
    replace hx468_0 := cB HB hx468_0
    replace hx468_1 := cB HB hx468_1
    replace hx468_2 := cB HB hx468_2
    replace hx468_3 := cB HB hx468_3
    replace hx468_4 := cB HB hx468_4
    replace hx468_5 := cB HB hx468_5
    have q := n8_ hi468_1 hl468_1 hi468_2 hl468_2 hi468_4 hl468_4 hi468_5 hl468_5
    clear hi468_1 hl468_1 hi468_2 hl468_2 hi468_4 hl468_4 hi468_5 hl468_5
    obtain ⟨HR468_1, HC468_1, HR468_2, HC468_2, HR468_4, HC468_4, HR468_5, HC468_5⟩ := q
    replace p468 := eq_true p468
    replace q468 := eq_true q468
    go_wp2
    go_meet
    case rel => exact ⟨_, (true), (true), (0), (wrap64 ((((rd_T36 l0 0).f4).length : Int) - 1)), ψ7, ψ7, ψ7, ψ7, H', ⟨ψ19⟩, ⟨ψ6⟩⟩
   ·have HC8 := Aside0.mk H
    clear H
    go_upto_if 28 with (fail)
    go_cut [28] (fun v28 wc => ∃ (kq : Nat) (x28_7 : Bool), v28 = .bool x28_7 ∧ Aside0 (impl_stmtRight.j0 kq l0 l1 false false 0 0 ((rd_T114 l1 0).f0) x28_7 = some r) ∧ Aside0 (kq ≤ k) ∧ Aside0 (Below w.heap.size w wc))
    case first =>
     have H := HC8.out
     clear HC8
     replace H := ifF H; rcases H with ⟨c9b0, c9b1, H⟩ | ⟨c9b0, c9b1, c9, H⟩
     ·(first | rw [c9b0] | rw [c9b1] | (simp only [i64_w, i32_w]; rw [c9b0]) | skip)
      have H' := Aside0.mk H
      clear H
      go_wp2
      go_meet
      case rel => exact ⟨_, ((((rd_T114 l1 0).f0) == 2)), ψ7, H', ⟨ψ19⟩, ⟨ψ6⟩⟩
     ·(first | rw [c9b0] | rw [c9b1] | (simp only [i64_w, i32_w]; rw [c9b0]) | skip)
      have H' := Aside0.mk H
      clear H
      go_wp2
      go_meet
      case rel => exact ⟨_, ((((rd_T114 l1 0).f0) == 6)), ψ7, H', ⟨ψ19⟩, ⟨ψ6⟩⟩
    case rest =>
     clear HC8
     try clear c1
     try clear c4
     try clear c4b0
     try clear c4b1
     try clear c7
     try clear c7b0
     try clear c7b1
     try clear c9
     try clear c9b0
     try clear c9b1
     try clear hx465_0
     try clear hx465_1
     try clear hx465_2
     try clear hx465_3
     try clear hx468_0
     try clear hx468_1
     try clear hx468_2
     try clear hx468_3
     try clear hx468_4
     try clear hx468_5
     try clear p465
     try clear p468
     try clear q465
     try clear q468
     obtain ⟨kq, x28_7, rfl, HA, HJ7, HB⟩ := hcut
     cases kq with
     | zero => exact absurd HA.out (by simp [impl_stmtRight.j0])
     | succ kj7 =>
      have H := HA.out
      clear HA
      simp only [impl_stmtRight.j0] at H
      replace H := ifB H; rcases H with ⟨rfl, H⟩ | ⟨rfl, H⟩
      ·have H' := Aside0.mk H
       clear H
       go_wp2
       go_meet
       case rel => exact ⟨_, (false), (true), (0), (0), ψ7, ψ7, ψ7, ψ7, H', ⟨ψ56⟩, ⟨ψ6⟩⟩
      ·by_cases c11 : ((rd_T114 l1 0).f0) = 5
       ·rw [if_pos c11] at H
        have c11b0 : (((rd_T114 l1 0).f0) == 5) = true := beq_iff_eq.mpr c11
        have c11b1 : (((rd_T114 l1 0).f0) != 5) = false := bne_eq_false_iff_eq.mpr c11
        clear c11
        have H' := Aside0.mk H
        clear H
        go_wp2
        go_meet
        case rel => exact ⟨_, (false), (false), (0), (4), ψ7, ψ7, ψ7, ψ7, H', ⟨ψ56⟩, ⟨ψ6⟩⟩
       ·rw [if_neg c11] at H
        have c11b0 : (((rd_T114 l1 0).f0) == 5) = false := beq_eq_false_iff_ne.mpr c11
        have c11b1 : (((rd_T114 l1 0).f0) != 5) = true := bne_iff_ne.mpr c11
        have HC12 := Aside0.mk H
        clear H
        go_upto_if 33 with (fail)
        go_cut [33] (fun v33 wc => ∃ (kq : Nat) (x33_11 : Bool), v33 = .bool x33_11 ∧ Aside0 (impl_stmtRight.j1 kq l0 l1 false false 0 0 ((rd_T114 l1 0).f0) x33_11 = some r) ∧ Aside0 (kq ≤ kj7) ∧ Aside0 (Below w.heap.size w wc))
        case first =>
         have H := HC12.out
         clear HC12
         replace H := ifF H; rcases H with ⟨c13b0, c13b1, H⟩ | ⟨c13b0, c13b1, c13, H⟩
         ·(first | rw [c13b0] | rw [c13b1] | (simp only [i64_w, i32_w]; rw [c13b0]) | skip)
          have H' := Aside0.mk H
          clear H
          go_wp2
          go_meet
          case rel => exact ⟨_, ((((rd_T114 l1 0).f0) == 7)), ψ7, H', ⟨ψ56⟩, ⟨ψ6⟩⟩
         ·(first | rw [c13b0] | rw [c13b1] | (simp only [i64_w, i32_w]; rw [c13b0]) | skip)
          have H' := Aside0.mk H
          clear H
          go_wp2
          go_meet
          case rel => exact ⟨_, ((((rd_T114 l1 0).f0) == 9)), ψ7, H', ⟨ψ56⟩, ⟨ψ6⟩⟩
        case rest =>
         clear HC12
         try clear c1
         try clear c4
         try clear c4b0
         try clear c4b1
         try clear c7
         try clear c7b0
         try clear c7b1
         try clear c9
         try clear c9b0
         try clear c9b1
         try clear c10
         try clear c11
         try clear c11b0
         try clear c11b1
         try clear c13
         try clear c13b0
         try clear c13b1
         try clear hx465_0
         try clear hx465_1
         try clear hx465_2
         try clear hx465_3
         try clear hx468_0
         try clear hx468_1
         try clear hx468_2
         try clear hx468_3
         try clear hx468_4
         try clear hx468_5
         try clear p465
         try clear p468
         try clear q465
         try clear q468
         obtain ⟨kq, x33_11, rfl, HA, HJ11, HB⟩ := hcut
         cases kq with
         | zero => exact absurd HA.out (by simp [impl_stmtRight.j1])
         | succ kj11 =>
          have H := HA.out
          clear HA
          simp only [impl_stmtRight.j1] at H
          replace H := ifB H; rcases H with ⟨rfl, H⟩ | ⟨rfl, H⟩
          ·exact τ48
          ·by_cases c15 : ((rd_T114 l1 0).f0) = 3
           ·rw [if_pos c15] at H
            have c15b0 : (((rd_T114 l1 0).f0) == 3) = true := beq_iff_eq.mpr c15
            have c15b1 : (((rd_T114 l1 0).f0) != 3) = false := bne_eq_false_iff_eq.mpr c15
            clear c15
            exact τ48
           ·rw [if_neg c15] at H
            have c15b0 : (((rd_T114 l1 0).f0) == 3) = false := beq_eq_false_iff_ne.mpr c15
            have c15b1 : (((rd_T114 l1 0).f0) != 3) = true := bne_iff_ne.mpr c15
            replace H := ifF H; rcases H with ⟨c16b0, c16b1, H⟩ | ⟨c16b0, c16b1, c16, H⟩
            ·exact τ48
            ·by_cases c17 : ((rd_T114 l1 0).f0) = 8
             ·rw [if_pos c17] at H
              have c17b0 : (((rd_T114 l1 0).f0) == 8) = true := beq_iff_eq.mpr c17
              have c17b1 : (((rd_T114 l1 0).f0) != 8) = false := bne_eq_false_iff_eq.mpr c17
              clear c17
              exact τ48
             ·rw [if_neg c17] at H
              have c17b0 : (((rd_T114 l1 0).f0) == 8) = false := beq_eq_false_iff_ne.mpr c17
              have c17b1 : (((rd_T114 l1 0).f0) != 8) = true := bne_iff_ne.mpr c17
              exact τ48
 case rest =>
  clear HC3
  try clear c1
  try clear c4
  try clear c4b0
  try clear c4b1
  try clear c7
  try clear c7b0
  try clear c7b1
  try clear c9
  try clear c9b0
  try clear c9b1
  try clear c10
  try clear c11
  try clear c11b0
  try clear c11b1
  try clear c13
  try clear c13b0
  try clear c13b1
  try clear c14
  try clear c15
  try clear c15b0
  try clear c15b1
  try clear c16
  try clear c16b0
  try clear c16b1
  try clear c17
  try clear c17b0
  try clear c17b1
  try clear hx465_0
  try clear hx465_1
  try clear hx465_2
  try clear hx465_3
  try clear hx468_0
  try clear hx468_1
  try clear hx468_2
  try clear hx468_3
  try clear hx468_4
  try clear hx468_5
  try clear p465
  try clear p468
  try clear q465
  try clear q468
  obtain ⟨kq, x5_2, x6_2, x7_2, x8_2, rfl, rfl, rfl, rfl, HA, HJ2, HB⟩ := hcut
  cases kq with
  | zero => exact absurd HA.out (by simp [impl_stmtRight.j2])
  | succ kj2 =>
   have H := HA.out
   clear HA
   simp only [impl_stmtRight.j2] at H
   have HC18 := Aside0.mk H
   clear H
   go_upto_region 24 with (fail)
   go_cut [53] (fun v53 wc => ∃ (kq : Nat) (x53_17 : Bool), v53 = .bool x53_17 ∧ Aside0 (impl_stmtRight.j3 kq l0 l1 x5_2 x6_2 x53_17 = some r) ∧ Aside0 (kq ≤ kj2) ∧ Aside0 (Below w.heap.size w wc))
   case first =>
    have H := HC18.out
    clear HC18
    replace H := ifD H; rcases H with ⟨c19b0, H⟩ | ⟨c19b0, H⟩
    ·(first | rw [c19b0] | (simp only [i64_w, i32_w]; rw [c19b0]) | skip)
     exact τ49
    ·(first | rw [c19b0] | (simp only [i64_w, i32_w]; rw [c19b0]) | skip)
     exact τ49
   case rest =>
    clear HC18
    try clear c1
    try clear c4
    try clear c4b0
    try clear c4b1
    try clear c7
    try clear c7b0
    try clear c7b1
    try clear c9
    try clear c9b0
    try clear c9b1
    try clear c10
    try clear c11
    try clear c11b0
    try clear c11b1
    try clear c13
    try clear c13b0
    try clear c13b1
    try clear c14
    try clear c15
    try clear c15b0
    try clear c15b1
    try clear c16
    try clear c16b0
    try clear c16b1
    try clear c17
    try clear c17b0
    try clear c17b1
    try clear c19
    try clear c19b0
    try clear hx465_0
    try clear hx465_1
    try clear hx465_2
    try clear hx465_3
    try clear hx468_0
    try clear hx468_1
    try clear hx468_2
    try clear hx468_3
    try clear hx468_4
    try clear hx468_5
    try clear hx469_0
    try clear hx469_1
    try clear hx469_2
    try clear hx469_3
    try clear hx470_0
    try clear hx470_1
    try clear hx470_2
    try clear hx470_3
    try clear p465
    try clear p468
    try clear p469
    try clear p470
    try clear q465
    try clear q468
    try clear q469
    try clear q470
    obtain ⟨kq, x53_17, rfl, HA, HJ17, HB⟩ := hcut
    cases kq with
    | zero => exact absurd HA.out (by simp [impl_stmtRight.j3])
    | succ kj17 =>
     have H := HA.out
     clear HA
     simp only [impl_stmtRight.j3] at H
     replace H := ifB H; rcases H with ⟨rfl, H⟩ | ⟨rfl, H⟩
     ·exact τ50
     ·replace H := bS H; obtain ⟨t472, A21, H⟩ := H
      replace H := ifB H; rcases H with ⟨rfl, H⟩ | ⟨rfl, H⟩
      ·replace H := bS H; obtain ⟨t474, A23, H⟩ := H
       exact τ50
      ·exact τ50

/-- A state of type 160 at block g of W; what its slices lead to came in by w0. -/
def IsS160 (w0 W : World) (g : Nat) (f0 : List (S114)) (f1 : Int) (f2 : Int) (f3 : Int) : Prop := ∃ A0 c0, W.heap[g]? = some (.cells #[.slice A0 f0.length c0, .int .i64 f1, .int .i64 f2, .int .i64 f3] 160 (0, 0)) ∧ w0.heap.size ≤ g ∧ Kd.C k114 w0 A0 f0.length f0
theorem IsS160.grown {w0 W : World} {g : Nat} {f0 : List (S114)} {f1 : Int} {f2 : Int} {f3 : Int} {W1 : World} {row : Option Nat} (h : IsS160 w0 W g f0 f1 f2 f3) (hw : W.grownBy W1 row) (hne : some g ≠ row) : IsS160 w0 W1 g f0 f1 f2 f3 := by
 obtain ⟨A0, c0, hb, hg, hr0⟩ := h
 exact ⟨A0, c0, blk_grown hb hw hne, hg, hr0⟩
theorem IsS160.own_neN {w0 W : World} {g : Nat} {f0 : List (S114)} {f1 : Int} {f2 : Int} {f3 : Int} {α : Type} {d : Kd α} {e : Nat} {base : Nat} {ok : Nat → Prop} {v : Value} {xs : List α} (h : IsS160 w0 W g f0 f1 f2 f3) (ho : Kd.N d e W base ok v xs) (ht : e ≠ 160) : some g ≠ v.ownBlock := by
 obtain ⟨A0, c0, hb, hg, hr0⟩ := h
 exact Kd.N_ne ho hb ht
theorem IsS160.fresh {w0 W : World} {g : Nat} {f0 : List (S114)} {f1 : Int} {f2 : Int} {f3 : Int} (h : IsS160 w0 W g f0 f1 f2 f3) : ∀ k, W.heap.size ≤ k → k ≠ g := by
 obtain ⟨A0, c0, hb, hg, hr0⟩ := h
 exact Kd.freshB hb
theorem IsS160.kept {w0 W : World} {g : Nat} {f0 : List (S114)} {f1 : Int} {f2 : Int} {f3 : Int} {W1 : World} {S : Nat → Prop} (h : IsS160 w0 W g f0 f1 f2 f3) (hk : Kept W W1 S) (hne : ¬ S g) : IsS160 w0 W1 g f0 f1 f2 f3 := by
 obtain ⟨A0, c0, hb, hg, hr0⟩ := h
 exact ⟨A0, c0, blk_kept hb hk hne, hg, hr0⟩
theorem IsS160.below {w0 W : World} {g : Nat} {f0 : List (S114)} {f1 : Int} {f2 : Int} {f3 : Int} {W1 : World} (h : IsS160 w0 W g f0 f1 f2 f3) (hw : Below W.heap.size W W1) : IsS160 w0 W1 g f0 f1 f2 f3 := h.grown (grown_of_below hw none) ψ22
theorem IsS160.alloc {w0 W : World} {g : Nat} {f0 : List (S114)} {f1 : Int} {f2 : Int} {f3 : Int} (h : IsS160 w0 W g f0 f1 f2 f3) (o : Obj) : IsS160 w0 (W.alloc o) g f0 f1 f2 f3 := h.below (below_alloc (Below.refl _ _) o)
theorem IsS160.drewN {w0 W : World} {g : Nat} {f0 : List (S114)} {f1 : Int} {f2 : Int} {f3 : Int} (h : IsS160 w0 W g f0 f1 f2 f3) (m : Nat) : IsS160 w0 (W.drewN m) g f0 f1 f2 f3 := h
theorem IsS160.drew {w0 W : World} {g : Nat} {f0 : List (S114)} {f1 : Int} {f2 : Int} {f3 : Int} (h : IsS160 w0 W g f0 f1 f2 f3) : IsS160 w0 W.drew g f0 f1 f2 f3 := h
theorem IsS160.at_ {w0 W : World} {g : Nat} {f0 : List (S114)} {f1 : Int} {f2 : Int} {f3 : Int} {w' : World} {m : Nat} (hq : W.drewN m = w') (h : IsS160 w0 W g f0 f1 f2 f3) : IsS160 w0 w' g f0 f1 f2 f3 := by subst hq; exact IsS160.drewN h m
theorem IsS160.apart {w0 W : World} {g : Nat} {f0 : List (S114)} {f1 : Int} {f2 : Int} {f3 : Int} {α : Type} {d : Kd α} {e : Nat} {base : Nat} {ok : Nat → Prop} {v : Value} {xs : List α} (h : IsS160 w0 W g f0 f1 f2 f3) (ho : d.R e W base ok v xs) (ht : ∀ q, q ∈ e :: d.E → q ≠ 160) : d.R e W base (fun k => ok k ∧ k ≠ g) v xs := by
 obtain ⟨A0, c0, hb, hg, hr0⟩ := h
 exact Kd.R_types ho hb ht
theorem IsS160.own_ne {w0 W : World} {g : Nat} {f0 : List (S114)} {f1 : Int} {f2 : Int} {f3 : Int} {α : Type} {d : Kd α} {e : Nat} {base : Nat} {ok : Nat → Prop} {v : Value} {xs : List α} (h : IsS160 w0 W g f0 f1 f2 f3) (ho : d.R e W base ok v xs) (ht : e ≠ 160) : some g ≠ v.ownBlock := by
 obtain ⟨A0, c0, hb, hg, hr0⟩ := h
 exact Kd.R_ne ho hb ht
theorem IsS160.apartQ {w0 W : World} {g : Nat} {f0 : List (S114)} {f1 : Int} {f2 : Int} {f3 : Int} {α : Type} {d : Kd α} {e : Nat} {base : Nat} {ok : Nat → Prop} {v : Value} {xs : List α} (h : IsS160 w0 W g f0 f1 f2 f3) (ho : d.Q e W base ok v xs) (ht : ∀ q, q ∈ e :: d.E → q ≠ 160) : d.Q e W base (fun k => ok k ∧ k ≠ g) v xs := by
 obtain ⟨A0, c0, hb, hg, hr0⟩ := h
 exact Kd.Q_types ho hb ht
theorem IsS160.own_neQ {w0 W : World} {g : Nat} {f0 : List (S114)} {f1 : Int} {f2 : Int} {f3 : Int} {α : Type} {d : Kd α} {e : Nat} {base : Nat} {ok : Nat → Prop} {v : Value} {xs : List α} (h : IsS160 w0 W g f0 f1 f2 f3) (ho : d.Q e W base ok v xs) (ht : e ≠ 160) : some g ≠ v.ownBlock := by
 obtain ⟨A0, c0, hb, hg, hr0⟩ := h
 exact Kd.Q_ne ho hb ht
theorem IsS160.apartS {w0 W : World} {g : Nat} {f0 : List (S114)} {f1 : Int} {f2 : Int} {f3 : Int} {α : Type} {d : Kd α} {e : Nat} {base : Nat} {ok : Nat → Prop} {v : Value} {xs : List α} (h : IsS160 w0 W g f0 f1 f2 f3) (ho : d.S e W base ok v xs) (ht : ∀ q, q ∈ e :: d.E → q ≠ 160) : d.S e W base (fun k => ok k ∧ k ≠ g) v xs := by
 obtain ⟨A0, c0, hb, hg, hr0⟩ := h
 exact Kd.S_types ho hb ht
theorem IsS160.own_neS {w0 W : World} {g : Nat} {f0 : List (S114)} {f1 : Int} {f2 : Int} {f3 : Int} {α : Type} {d : Kd α} {e : Nat} {base : Nat} {ok : Nat → Prop} {v : Value} {xs : List α} (h : IsS160 w0 W g f0 f1 f2 f3) (ho : d.S e W base ok v xs) (ht : e ≠ 160) : some g ≠ v.ownBlock := by
 obtain ⟨A0, c0, hb, hg, hr0⟩ := h
 exact Kd.S_ne ho hb ht
theorem IsS160.lt {w0 W : World} {g : Nat} {f0 : List (S114)} {f1 : Int} {f2 : Int} {f3 : Int} (h : IsS160 w0 W g f0 f1 f2 f3) : g < W.heap.size := by
 obtain ⟨A0, c0, hb, hg, hr0⟩ := h
 exact blk_lt hb
theorem IsS160.ge {w0 W : World} {g : Nat} {f0 : List (S114)} {f1 : Int} {f2 : Int} {f3 : Int} (h : IsS160 w0 W g f0 f1 f2 f3) : w0.heap.size ≤ g := by
 obtain ⟨A0, c0, hb, hg, hr0⟩ := h
 exact hg
theorem IsS160.ne_blk {w0 W : World} {g : Nat} {f0 : List (S114)} {f1 : Int} {f2 : Int} {f3 : Int} {a : Nat} {cs : Array Value} {t : TypeId} {fr : Nat × Nat} (h : IsS160 w0 W g f0 f1 f2 f3) (hb2 : W.heap[a]? = some (.cells cs t fr)) (ht : t ≠ 160) : g ≠ a := by
 obtain ⟨A0, c0, hb, hg, hr0⟩ := h
 rintro rfl
 rw [hb] at hb2
 injection hb2 with hb2
 injection hb2 with _ ht2
 exact ht ht2.symm
theorem IsS160.far {w0 W : World} {g : Nat} {f0 : List (S114)} {f1 : Int} {f2 : Int} {f3 : Int} {p : Addr} (h : IsS160 w0 W g f0 f1 f2 f3) (hne : g ≠ p.block) (u : Value) : IsS160 w0 (W.setCell p u) g f0 f1 f2 f3 := by
 obtain ⟨A0, c0, hb, hg, hr0⟩ := h
 exact ⟨A0, c0, blk_far hb hne u, hg, hr0⟩
theorem cellS160_0 {W : World} {g : Nat} {A0 : Option Addr} {c0 : Nat} {f0 : List (S114)} {f1 : Int} {f2 : Int} {f3 : Int} (h : W.heap[g]? = some (.cells #[.slice A0 f0.length c0, .int .i64 f1, .int .i64 f2, .int .i64 f3] 160 (0, 0))) : W.cell? ⟨g, 0, none⟩ = some (.slice A0 f0.length c0) := (blk_cell h 0).trans rfl
theorem cellS160_1 {W : World} {g : Nat} {A0 : Option Addr} {c0 : Nat} {f0 : List (S114)} {f1 : Int} {f2 : Int} {f3 : Int} (h : W.heap[g]? = some (.cells #[.slice A0 f0.length c0, .int .i64 f1, .int .i64 f2, .int .i64 f3] 160 (0, 0))) : W.cell? ⟨g, 1, none⟩ = some (.int .i64 f1) := (blk_cell h 1).trans rfl
theorem IsS160.cell_1 {w0 W : World} {g : Nat} {f0 : List (S114)} {f1 : Int} {f2 : Int} {f3 : Int} (h : IsS160 w0 W g f0 f1 f2 f3) : W.cell? ⟨g, 1, none⟩ = some (.int .i64 f1) := by
 obtain ⟨A0, c0, hb, hg, hr0⟩ := h
 exact cellS160_1 hb
theorem IsS160.set_1 {w0 W : World} {g : Nat} {f0 : List (S114)} {f1 : Int} {f2 : Int} {f3 : Int} (h : IsS160 w0 W g f0 f1 f2 f3) (x : Int) : IsS160 w0 (W.setCell ⟨g, 1, none⟩ (.int .i64 x)) g f0 x f2 f3 := by
 obtain ⟨A0, c0, hb, hg, hr0⟩ := h
 exact ⟨A0, c0, by simpa using blk_set hb 1 (.int .i64 x), hg, hr0⟩
theorem cellS160_2 {W : World} {g : Nat} {A0 : Option Addr} {c0 : Nat} {f0 : List (S114)} {f1 : Int} {f2 : Int} {f3 : Int} (h : W.heap[g]? = some (.cells #[.slice A0 f0.length c0, .int .i64 f1, .int .i64 f2, .int .i64 f3] 160 (0, 0))) : W.cell? ⟨g, 2, none⟩ = some (.int .i64 f2) := (blk_cell h 2).trans rfl
theorem IsS160.cell_2 {w0 W : World} {g : Nat} {f0 : List (S114)} {f1 : Int} {f2 : Int} {f3 : Int} (h : IsS160 w0 W g f0 f1 f2 f3) : W.cell? ⟨g, 2, none⟩ = some (.int .i64 f2) := by
 obtain ⟨A0, c0, hb, hg, hr0⟩ := h
 exact cellS160_2 hb
theorem IsS160.set_2 {w0 W : World} {g : Nat} {f0 : List (S114)} {f1 : Int} {f2 : Int} {f3 : Int} (h : IsS160 w0 W g f0 f1 f2 f3) (x : Int) : IsS160 w0 (W.setCell ⟨g, 2, none⟩ (.int .i64 x)) g f0 f1 x f3 := by
 obtain ⟨A0, c0, hb, hg, hr0⟩ := h
 exact ⟨A0, c0, by simpa using blk_set hb 2 (.int .i64 x), hg, hr0⟩
theorem cellS160_3 {W : World} {g : Nat} {A0 : Option Addr} {c0 : Nat} {f0 : List (S114)} {f1 : Int} {f2 : Int} {f3 : Int} (h : W.heap[g]? = some (.cells #[.slice A0 f0.length c0, .int .i64 f1, .int .i64 f2, .int .i64 f3] 160 (0, 0))) : W.cell? ⟨g, 3, none⟩ = some (.int .i64 f3) := (blk_cell h 3).trans rfl
theorem IsS160.cell_3 {w0 W : World} {g : Nat} {f0 : List (S114)} {f1 : Int} {f2 : Int} {f3 : Int} (h : IsS160 w0 W g f0 f1 f2 f3) : W.cell? ⟨g, 3, none⟩ = some (.int .i64 f3) := by
 obtain ⟨A0, c0, hb, hg, hr0⟩ := h
 exact cellS160_3 hb
theorem IsS160.set_3 {w0 W : World} {g : Nat} {f0 : List (S114)} {f1 : Int} {f2 : Int} {f3 : Int} (h : IsS160 w0 W g f0 f1 f2 f3) (x : Int) : IsS160 w0 (W.setCell ⟨g, 3, none⟩ (.int .i64 x)) g f0 f1 f2 x := by
 obtain ⟨A0, c0, hb, hg, hr0⟩ := h
 exact ⟨A0, c0, by simpa using blk_set hb 3 (.int .i64 x), hg, hr0⟩
theorem IsS160.new (w0 W : World) (A0 : Option Addr) (c0 : Nat) (f0 : List (S114)) (f1 : Int) (f2 : Int) (f3 : Int) (hB : Below w0.heap.size w0 W) (hr0 : Kd.C k114 w0 A0 f0.length f0) : IsS160 w0 (W.alloc (.cells #[.slice A0 f0.length c0, .int .i64 f1, .int .i64 f2, .int .i64 f3] 160)) W.heap.size f0 f1 f2 f3 := ⟨A0, c0, by simpa using heap_alloc_new W _, hB.size, hr0⟩
/-! ### impl_nester_is: function 152 -/
def impl_nester_is.f (s0_0 : List (S114)) (s0_1 : Int) (s0_2 : Int) (s0_3 : Int) (a1 : Int) : Option (Bool) := if s0_1 < (s0_0.length : Int) then (if 0 ≤ s0_1 then (some (((rd_T114 s0_0 s0_1).f0) == a1)) else (none)) else (some false)
theorem τ51 {P : Prop} (h : P := by
 obtain rfl := Option.some.inj H
 obtain ⟨ASzS0_0, cSzS0_0, HGzS0, hgzS0, HSzS0_0⟩ := HI0.out
 have hczS0_0 := cellS160_0 HGzS0
 have hczS0_1 := cellS160_1 HGzS0
 have hczS0_2 := cellS160_2 HGzS0
 have hczS0_3 := cellS160_3 HGzS0
 have hfzS0_1 := blk_frozen HGzS0 1
 have hfzS0_2 := blk_frozen HGzS0 2
 have hfzS0_3 := blk_frozen HGzS0 3
 clear HGzS0 hgzS0
 try (have p479 : 0 ≤ (s0_1 : Int) := of_decide_eq_true ψ5; have q479 : s0_1 < (s0_0.length : Int) := of_decide_eq_true ψ5; obtain ⟨ad479, A479_2, c479_2, A479_3, c479_3, e479, hx479_0, hx479_1, hx479_2, hx479_3, hl479_2, hi479_2, hl479_3, hi479_3⟩ := at_T114 HSzS0_0 s0_1 p479 q479; cases e479; replace hx479_0 := pw_cell_below HB.out hx479_0; replace hx479_1 := pw_cell_below HB.out hx479_1; replace hx479_2 := pw_cell_below HB.out hx479_2; replace hx479_3 := pw_cell_below HB.out hx479_3; have q := n4_ hi479_2 hl479_2 hi479_3 hl479_3; clear hi479_2 hl479_2 hi479_3 hl479_3; obtain ⟨HR479_2, HC479_2, HR479_3, HC479_3⟩ := q; replace p479 := eq_true p479; replace q479 := eq_true q479)
 go_enter Try.func152, Try.ntmps152
 go_wp2_with (first | ((with_reducible refine qR_ ?_)) | ((with_reducible refine wpQuiet_step (fun K hK => ?_)); go_simp; first | (refine hK _ ?_; clear hK K) | (apply Exists.intro; refine ⟨fun _ => ?_, hK _ ?_⟩)) | ((with_reducible refine wpQuiet_nil ?_); rintro _ ⟨nq, rfl⟩))
 go_ret
 exact ⟨ψ4, ψ57, by repeat (first | (with_reducible first | exact HB.out | apply below_alloc | apply pw_below_drewN | apply below_drew1 | refine below_set ?_ (IsS160.ge HI0.out)) | exact HB.out), by repeat (first | (with_reducible first | exact HK.out | apply KeepBut.set_ | apply keep_drewN | apply keep_drew | apply keep_alloc) | exact HK.out)⟩) : P := h
theorem impl_nester_is.calls (g : Nat) (s0_0 : List (S114)) (s0_1 : Int) (s0_2 : Int) (s0_3 : Int) (a1 : Int) (r : Bool) (w0 w : World) (hI : IsS160 w0 w g s0_0 s0_1 s0_2 s0_3) (hB : Below w0.heap.size w0 w) (h : impl_nester_is.f s0_0 s0_1 s0_2 s0_3 a1 = some r) :
 Calls Try.prog 152 #[.pointer (some ⟨g, 0, none⟩), .int .i64 a1] w fun e w' => e = .returned (.bool r) ∧ IsS160 w0 w' g s0_0 s0_1 s0_2 s0_3 ∧ Below w0.heap.size w0 w' ∧ KeepBut w w' g none := by
 have HI0 := Aside0.mk hI
 have HK := Aside0.mk (KeepBut.refl w g none)
 have HL := Aside0.mk hB.size
 clear hI
 have HW0 := Aside0.mk hB.size
 have HB := Aside0.mk hB
 clear hB
 unfold impl_nester_is.f at h
 have H := h
 clear h
 replace H := ifD H; rcases H with ⟨c3b0, H⟩ | ⟨c3b0, H⟩
 ·replace H := ifN H; obtain ⟨c4b0, H⟩ := H
  exact τ51
 ·exact τ51

/-! ### impl_nester_one: function 153 -/

end Go.Proofs.Ytakmkdlkipfnhaa.PCore

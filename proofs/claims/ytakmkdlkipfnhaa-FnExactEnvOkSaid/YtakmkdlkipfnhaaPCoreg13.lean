/- The walks of the functions that the laws come to, part 13: turned out of the kit's print, and mended where that fell. -/
import Derived.Test.YtakmkdlkipfnhaaPCoreg
import Derived.Test.YtakmkdlkipfnhaaPCoreg5
import Derived.Test.YtakmkdlkipfnhaaPCoreg6
import Derived.Test.YtakmkdlkipfnhaaPCoreg10
namespace Go.Proofs.Ytakmkdlkipfnhaa.PCore
open Go.RowKit Go.Proofs.YtakmkdlkipfnhaaW.PrintWords Go.Proofs.YtakmkdlkipfnhaaW.PrintLast Go.Proofs.YtakmkdlkipfnhaaW.PrintMore
attribute [local go_sem] max2_int min2_int max_two min_two max_three min_three max_four min_four   -- for this text's walks alone
set_option linter.unusedVariables false
set_option maxHeartbeats 8000000
set_option maxRecDepth 100000
set_option linter.unusedSimpArgs false

theorem ψ141 {P : Prop} (h : P := by repeat (first | exact (Kd.C_below HR639_0.out (ψ6)) | (with_reducible refine Kd.C_alloc ?_ _) | (with_reducible refine Kd.C_drewN ?_ _) | (with_reducible refine Kd.C_drew ?_))) : P := h
/-! ### impl_allValues: function 113 -/
def impl_allValues.l0 : Nat → List (S36) → List Int → Int → Int → Option (Bool)
 | 0, _, _, _, _ => none
 | k + 1, x0, x7, x8, x9 => if x9 < x8 then (if 0 ≤ x9 then (if x9 < (x7.length : Int) then (if (rd x7 x9) < 0 then (some false) else ((impl_greatest.f x0).bind fun t636 => (if (rd x7 x9) > t636 then (some false) else (impl_allValues.l0 k x0 x7 x8 (wrap64 (x9 + 1)))))) else (none)) else (none)) else (some true)
def impl_allValues.f (k : Nat) (l0 : List (S36)) (l1 : List Int) : Option (Bool) := impl_allValues.l0 k l0 l1 (l1.length : Int) 0
theorem τ59 {P : Prop} (h : P := by
 first | obtain rfl := Option.some.inj H | (have H' := Aside0.mk H; clear H)
 try (have p635 : 0 ≤ (x9_1 : Int) := of_decide_eq_true ψ5; have q635 : x9_1 < (l1.length : Int) := of_decide_eq_true ψ5; obtain ⟨ad635, e635, hx635_0⟩ := Kd.at_int HR1.out x9_1 p635 q635; cases e635; replace p635 := eq_true p635; replace q635 := eq_true q635)
 go_wp2_with (first | (go_at_call 119; (with_reducible refine (impl_greatest.calls _ c0 l0 _ _ ?_ ?_ ?_ A7.out).mono ?_); exact hn0; exact ψ30; exact HC0.out; rintro e w' ⟨rfl, ⟨nd, rfl⟩⟩))
 first | (go_ret; exact ⟨ψ7, ψ1⟩) | (go_roundg k1; (case measure => have := HK1.out; omega); (case rel => exact ⟨(wrap64 (x9_1 + 1)), ψ7, H', ⟨ψ8⟩, ψ1⟩))) : P := h
theorem impl_allValues.calls (k : Nat) (A0 : Option Addr) (c0 : Nat) (l0 : List (S36)) (A1 : Option Addr) (c1 : Nat) (l1 : List Int) (r : Bool) (w : World) (hn0 : l0.length = 1) (hr0 : Kd.C k36 w A0 l0.length l0) (hc0 : l0.length ≤ c0) (hr1 : Kd.C (Kd.int .i64) w A1 l1.length l1) (hc1 : l1.length ≤ c1) (h : impl_allValues.f k l0 l1 = some r) :
 Calls Try.prog 113 #[.pointer A0, .slice A1 l1.length c1] w fun e w' => e = .returned (.bool r) ∧ Drawn0 w w' := by
 have q := n4_ hr0 hc0 hr1 hc1
 clear hr0 hc0 hr1 hc1
 obtain ⟨HR0, HC0, HR1, HC1⟩ := q
 unfold impl_allValues.f at h
 have H := h
 clear h
 have H' := Aside0.mk H
 clear H
 go_enter Try.func113, Try.ntmps113
 go_wp2
 go_loopg [9] k (fun kq v9 w' => ∃ (x9_1 : Int), v9 = .int .i64 x9_1 ∧ Aside0 (impl_allValues.l0 kq l0 l1 (l1.length : Int) x9_1 = some r) ∧ Aside0 (kq ≤ k) ∧ Drawn0 w w')
 case atStart => exact ⟨(0), ψ7, H', ⟨Nat.le_refl _⟩, ψ1⟩
 case round =>
  clear H'
  try clear c1
  obtain ⟨x9_1, rfl, HA, HK1, ⟨m1, rfl⟩⟩ := hrel
  cases gk with
  | zero => exact absurd HA.out (by simp [impl_allValues.l0])
  | succ k1 =>
   have H := HA.out
   clear HA
   simp only [impl_allValues.l0] at H
   replace H := ifD H; rcases H with ⟨c3b0, H⟩ | ⟨c3b0, H⟩
   ·replace H := ifN H; obtain ⟨c4b0, H⟩ := H
    replace H := ifN H; obtain ⟨c5b0, H⟩ := H
    replace H := ifD H; rcases H with ⟨c6b0, H⟩ | ⟨c6b0, H⟩
    ·exact τ59
    ·replace H := bS H; obtain ⟨t636, A7, H⟩ := H
     replace H := ifG H; rcases H with ⟨c8b0, H⟩ | ⟨c8b0, H⟩
     ·exact τ59
     ·exact τ59
   ·exact τ59

/-! ### impl_envRight: function 75 -/
mutual
def impl_envRight.j0 : Nat → List (S36) → List (S38) → Bool → Option (Bool)
 | 0, _, _, _ => none
 | k + 1, x0, x1, x36 => if x36 = true then (some false) else (impl_envRight.l0 k x0 ((rd_T38 x1 0).f1) (((rd_T38 x1 0).f1).length : Int) 0)
def impl_envRight.l0 : Nat → List (S36) → List (List Int) → Int → Int → Option (Bool)
 | 0, _, _, _, _ => none
 | k + 1, x0, x40, x41, x42 => if x42 < x41 then (if 0 ≤ x42 then (if x42 < (x40.length : Int) then (if x42 < (((rd_T36 x0 0).f4).length : Int) then (if ((rd_L5 x40 x42).length : Int) = (rd ((rd_T36 x0 0).f4) x42) then ((impl_allValues.f k x0 (rd_L5 x40 x42)).bind fun t647 => (if t647 = true then (impl_envRight.l0 k x0 x40 x41 (wrap64 (x42 + 1))) else (some false))) else (some false)) else (none)) else (none)) else (none)) else (some true)
end
def impl_envRight.f (k : Nat) (l0 : List (S36)) (l1 : List (S38)) : Option (Bool) := (impl_varsOf.f l0).bind fun t638 => (if (((rd_T38 l1 0).f0).length : Int) = t638 then ((impl_allValues.f k l0 ((rd_T38 l1 0).f0)).bind fun t640 => (if t640 = true then (impl_envRight.j0 k l0 l1 ((((rd_T38 l1 0).f1).length : Int) != (((rd_T36 l0 0).f4).length : Int))) else (impl_envRight.j0 k l0 l1 true))) else (impl_envRight.j0 k l0 l1 true))
def impl_envRight.T1 : Bool × List (List Nat × List Nat) := (true, [([], []), ([0], [0]), ([1], [1]), ([2], [2]), ([3], [3]), ([], []), ([5], [5]), ([4, 6], [4, 6]), ([7, 6], [7]), ([8], [8]), ([8], [8]), ([10, 8], [8, 10]), ([11, 8], [8, 11]), ([12, 8], [8, 12]), ([9, 13, 8, 8], [8, 9, 13]), ([14, 8], [8, 14]), ([8, 15], [8, 15]), ([16, 14], [16]), ([17], [17]), ([18, 17], [17, 18]), ([19, 17], [17, 19]), ([20, 17], [17, 20]), ([21, 17], [17, 21]), ([17], [17]), ([23, 17], [17, 23]), ([24, 17], [17, 24]), ([25, 17], [17, 25]), ([26, 17], [17, 26]), ([22, 27, 17], [17, 22, 27]), ([17, 28], [17, 28])])
def impl_envRight.B1 : List Nat := [0, 1, 3, 7, 15, 0, 32, 127, 255, 511, 511, 1535, 3583, 7679, 16383, 32767, 65535, 131071, 262143, 524287, 1048575, 2097151, 4194303, 262143, 8650751, 25427967, 58982399, 126091263, 268435455, 536870911]
theorem impl_envRight.tab1 : rtab .any (opsOf Try.f75 1) = impl_envRight.T1 := by kernel_rfl
theorem impl_envRight.bits1 : waitsOk impl_envRight.T1.2 impl_envRight.B1 = true := by kernel_rfl
theorem τ60 {P : Prop} (h : P := by
 first | obtain rfl := Option.some.inj H | (have H' := Aside0.mk H; clear H)
 try (have p644 : 0 ≤ (x42_2 : Int) := of_decide_eq_true ψ5; have q644 : x42_2 < (((rd_T38 l1 0).f1).length : Int) := of_decide_eq_true ψ5; obtain ⟨ad644, A644_0, c644_0, e644, hx644_0, hl644_0, hi644_0⟩ := at_L5 HR643_1.out x42_2 p644 q644; cases e644; replace hx644_0 := cB HB hx644_0; have q := n2_ hi644_0 hl644_0; clear hi644_0 hl644_0; obtain ⟨HR644_0, HC644_0⟩ := q; replace p644 := eq_true p644; replace q644 := eq_true q644)
 try (have p645 : 0 ≤ (0 : Int) := ψ21; have q645 : 0 < (l0.length : Int) := ψ125; obtain ⟨ad645, A645_1, c645_1, A645_2, c645_2, A645_4, c645_4, A645_5, c645_5, e645, hx645_0, hx645_1, hx645_2, hx645_3, hx645_4, hx645_5, hl645_1, hi645_1, hl645_2, hi645_2, hl645_4, hi645_4, hl645_5, hi645_5⟩ := at_T36 HR0.out 0 p645 q645; cases e645; have qi645 : (0 < l0.length) = True := eq_true ψ21; (try rw [show ((0 : Int)).toNat = 0 from rfl] at hx645_0); (try rw [show 0 * 6 = 0 from rfl] at hx645_0); (try rw [Addr.add_zero'] at hx645_0); (try rw [show ((0 : Int)).toNat = 0 from rfl] at hx645_1); (try rw [show 0 * 6 = 0 from rfl] at hx645_1); (try rw [Addr.add_zero'] at hx645_1); (try rw [show ((0 : Int)).toNat = 0 from rfl] at hx645_2); (try rw [show 0 * 6 = 0 from rfl] at hx645_2); (try rw [Addr.add_zero'] at hx645_2); (try rw [show ((0 : Int)).toNat = 0 from rfl] at hx645_3); (try rw [show 0 * 6 = 0 from rfl] at hx645_3); (try rw [Addr.add_zero'] at hx645_3); (try rw [show ((0 : Int)).toNat = 0 from rfl] at hx645_4); (try rw [show 0 * 6 = 0 from rfl] at hx645_4); (try rw [Addr.add_zero'] at hx645_4); (try rw [show ((0 : Int)).toNat = 0 from rfl] at hx645_5); (try rw [show 0 * 6 = 0 from rfl] at hx645_5); (try rw [Addr.add_zero'] at hx645_5); replace hx645_0 := cB HB hx645_0; replace hx645_1 := cB HB hx645_1; replace hx645_2 := cB HB hx645_2; replace hx645_3 := cB HB hx645_3; replace hx645_4 := cB HB hx645_4; replace hx645_5 := cB HB hx645_5; have q := n8_ hi645_1 hl645_1 hi645_2 hl645_2 hi645_4 hl645_4 hi645_5 hl645_5; clear hi645_1 hl645_1 hi645_2 hl645_2 hi645_4 hl645_4 hi645_5 hl645_5; obtain ⟨HR645_1, HC645_1, HR645_2, HC645_2, HR645_4, HC645_4, HR645_5, HC645_5⟩ := q; replace p645 := eq_true p645; replace q645 := eq_true q645)
 try (have p646 : 0 ≤ (x42_2 : Int) := of_decide_eq_true ψ5; have q646 : x42_2 < (((rd_T36 l0 0).f4).length : Int) := of_decide_eq_true ψ5; obtain ⟨ad646, e646, hx646_0⟩ := Kd.at_int HR645_4.out x42_2 p646 q646; cases e646; replace hx646_0 := cB HB hx646_0; replace p646 := eq_true p646; replace q646 := eq_true q646)
 go_wp2_with (first | (go_at_call 113; (with_reducible refine (impl_allValues.calls k2 _ c0 l0 _ _ (rd_L5 ((rd_T38 l1 0).f1) x42_2) _ _ ?_ ?_ ?_ ?_ ?_ A17.out).mono ?_); exact hn0; exact ψ32; exact HC0.out; exact (by repeat (first | exact (Kd.C_below HR644_0.out HB.out) | (with_reducible refine Kd.C_alloc ?_ _) | (with_reducible refine Kd.C_drewN ?_ _) | (with_reducible refine Kd.C_drew ?_))); exact HC644_0.out; rintro e w' ⟨rfl, ⟨nd, rfl⟩⟩))
 first | (go_roundg k2; (case measure => have := HJ2.out; have := HK2.out; omega); (case rel => exact ⟨(wrap64 (x42_2 + 1)), ψ7, H', ⟨ψ33⟩, ⟨ψ6⟩⟩)) | (go_ret; exact ⟨ψ4, ψ6⟩)) : P := h
theorem impl_envRight.calls (k : Nat) (A0 : Option Addr) (c0 : Nat) (l0 : List (S36)) (A1 : Option Addr) (c1 : Nat) (l1 : List (S38)) (r : Bool) (w : World) (hn0 : l0.length = 1) (hr0 : Kd.C k36 w A0 l0.length l0) (hc0 : l0.length ≤ c0) (hn1 : l1.length = 1) (hr1 : Kd.C k38 w A1 l1.length l1) (hc1 : l1.length ≤ c1) (h : impl_envRight.f k l0 l1 = some r) :
 Calls Try.prog 75 #[.pointer A0, .pointer A1] w fun e w' => e = .returned (.bool r) ∧ Below w.heap.size w w' := by
 have q := n4_ hr0 hc0 hr1 hc1
 clear hr0 hc0 hr1 hc1
 obtain ⟨HR0, HC0, HR1, HC1⟩ := q
 have HB := Aside0.mk (Below.refl w.heap.size w)
 unfold impl_envRight.f at h
 have H := h
 clear h
 have HC3 := Aside0.mk H
 clear H
 go_enter Try.func75, Try.ntmps75
 go_upto_region 1 with (fail)
 go_cut [36] (fun v36 wc => ∃ (kq : Nat) (x36_2 : Bool), v36 = .bool x36_2 ∧ Aside0 (impl_envRight.j0 kq l0 l1 x36_2 = some r) ∧ Aside0 (kq ≤ k) ∧ Aside0 (Below w.heap.size w wc))
 case first =>
  have H := HC3.out
  clear HC3
  replace H := bS H; obtain ⟨t638, A4, H⟩ := H
  replace H := ifF H; rcases H with ⟨c5b0, c5b1, H⟩ | ⟨c5b0, c5b1, c5, H⟩
  ·(first | rw [c5b0] | rw [c5b1] | (simp only [i64_w, i32_w]; rw [c5b0]) | skip)
   replace H := bS H; obtain ⟨t640, A6, H⟩ := H
   replace H := ifB H; rcases H with ⟨rfl, H⟩ | ⟨rfl, H⟩
   ·have H' := Aside0.mk H
    clear H
    try go_wp2
    replace HB := Aside0.mk (below_drew1 HB.out)
    have p637 : 0 ≤ (0 : Int) := ψ21
    have q637 : 0 < (l1.length : Int) := ψ125
    obtain ⟨ad637, A637_0, c637_0, A637_1, c637_1, e637, hx637_0, hx637_1, hl637_0, hi637_0, hl637_1, hi637_1⟩ := at_T38 HR1.out 0 p637 q637
    have hw637_1 := hx637_1
    (try rw [show ((0 : Int)).toNat = 0 from rfl] at hw637_1)
    (try rw [show 0 * 2 = 0 from rfl] at hw637_1)
    (try rw [Addr.add_zero'] at hw637_1)
    have hw637_0 := hx637_0
    (try rw [show ((0 : Int)).toNat = 0 from rfl] at hw637_0)
    (try rw [show 0 * 2 = 0 from rfl] at hw637_0)
    (try rw [Addr.add_zero'] at hw637_0)
    cases e637
    have qi637 : (0 < l1.length) = True := eq_true ψ21
    (try rw [show ((0 : Int)).toNat = 0 from rfl] at hx637_0)
    (try rw [show 0 * 2 = 0 from rfl] at hx637_0)
    (try rw [Addr.add_zero'] at hx637_0)
    (try rw [show ((0 : Int)).toNat = 0 from rfl] at hx637_1)
    (try rw [show 0 * 2 = 0 from rfl] at hx637_1)
    (try rw [Addr.add_zero'] at hx637_1)
    replace hx637_0 := cB HB hx637_0
    replace hx637_1 := cB HB hx637_1
    have q := n4_ hi637_0 hl637_0 hi637_1 hl637_1
    clear hi637_0 hl637_0 hi637_1 hl637_1
    obtain ⟨HR637_0, HC637_0, HR637_1, HC637_1⟩ := q
    replace p637 := eq_true p637
    replace q637 := eq_true q637
    have p639 : 0 ≤ (0 : Int) := ψ21
    have q639 : 0 < (l1.length : Int) := ψ125
    obtain ⟨ad639, A639_0, c639_0, A639_1, c639_1, e639, hx639_0, hx639_1, hl639_0, hi639_0, hl639_1, hi639_1⟩ := at_T38 HR1.out 0 p639 q639
    have hw639_1 := hx639_1
    (try rw [show ((0 : Int)).toNat = 0 from rfl] at hw639_1)
    (try rw [show 0 * 2 = 0 from rfl] at hw639_1)
    (try rw [Addr.add_zero'] at hw639_1)
    have hw639_0 := hx639_0
    (try rw [show ((0 : Int)).toNat = 0 from rfl] at hw639_0)
    (try rw [show 0 * 2 = 0 from rfl] at hw639_0)
    (try rw [Addr.add_zero'] at hw639_0)
    obtain rfl : ad637 = ad639 := (by injection e639)
    have qi639 : (0 < l1.length) = True := eq_true ψ21
    (try rw [show ((0 : Int)).toNat = 0 from rfl] at hx639_0)
    (try rw [show 0 * 2 = 0 from rfl] at hx639_0)
    (try rw [Addr.add_zero'] at hx639_0)
    (try rw [show ((0 : Int)).toNat = 0 from rfl] at hx639_1)
    (try rw [show 0 * 2 = 0 from rfl] at hx639_1)
    (try rw [Addr.add_zero'] at hx639_1)
    replace hx639_0 := cB HB hx639_0
    replace hx639_1 := cB HB hx639_1
    have q := n4_ hi639_0 hl639_0 hi639_1 hl639_1
    clear hi639_0 hl639_0 hi639_1 hl639_1
    obtain ⟨HR639_0, HC639_0, HR639_1, HC639_1⟩ := q
    replace p639 := eq_true p639
    replace q639 := eq_true q639
    have ea_ := Option.some.inj (hx637_0.symm.trans hx639_0)
    injection ea_ with ea_ en_ ec_
    subst ea_
    subst ec_
    clear en_
    have ea_ := Option.some.inj (hx637_1.symm.trans hx639_1)
    injection ea_ with ea_ en_ ec_
    subst ea_
    subst ec_
    clear en_
    have p641 : 0 ≤ (0 : Int) := ψ21
    have q641 : 0 < (l1.length : Int) := ψ125
    obtain ⟨ad641, A641_0, c641_0, A641_1, c641_1, e641, hx641_0, hx641_1, hl641_0, hi641_0, hl641_1, hi641_1⟩ := at_T38 HR1.out 0 p641 q641
    have hw641_1 := hx641_1
    (try rw [show ((0 : Int)).toNat = 0 from rfl] at hw641_1)
    (try rw [show 0 * 2 = 0 from rfl] at hw641_1)
    (try rw [Addr.add_zero'] at hw641_1)
    have hw641_0 := hx641_0
    (try rw [show ((0 : Int)).toNat = 0 from rfl] at hw641_0)
    (try rw [show 0 * 2 = 0 from rfl] at hw641_0)
    (try rw [Addr.add_zero'] at hw641_0)
    obtain rfl : ad637 = ad641 := (by injection e641)
    have qi641 : (0 < l1.length) = True := eq_true ψ21
    (try rw [show ((0 : Int)).toNat = 0 from rfl] at hx641_0)
    (try rw [show 0 * 2 = 0 from rfl] at hx641_0)
    (try rw [Addr.add_zero'] at hx641_0)
    (try rw [show ((0 : Int)).toNat = 0 from rfl] at hx641_1)
    (try rw [show 0 * 2 = 0 from rfl] at hx641_1)
    (try rw [Addr.add_zero'] at hx641_1)
    replace hx641_0 := cB HB hx641_0
    replace hx641_1 := cB HB hx641_1
    have q := n4_ hi641_0 hl641_0 hi641_1 hl641_1
    clear hi641_0 hl641_0 hi641_1 hl641_1
    obtain ⟨HR641_0, HC641_0, HR641_1, HC641_1⟩ := q
    replace p641 := eq_true p641
    replace q641 := eq_true q641
    have ea_ := Option.some.inj (hx637_0.symm.trans hx641_0)
    injection ea_ with ea_ en_ ec_
    subst ea_
    subst ec_
    clear en_
    have ea_ := Option.some.inj (hx637_1.symm.trans hx641_1)
    injection ea_ with ea_ en_ ec_
    subst ea_
    subst ec_
    clear en_
    have p642 : 0 ≤ (0 : Int) := ψ21
    have q642 : 0 < (l0.length : Int) := ψ125
    obtain ⟨ad642, A642_1, c642_1, A642_2, c642_2, A642_4, c642_4, A642_5, c642_5, e642, hx642_0, hx642_1, hx642_2, hx642_3, hx642_4, hx642_5, hl642_1, hi642_1, hl642_2, hi642_2, hl642_4, hi642_4, hl642_5, hi642_5⟩ := at_T36 HR0.out 0 p642 q642
    have hw642_5 := hx642_5
    (try rw [show ((0 : Int)).toNat = 0 from rfl] at hw642_5)
    (try rw [show 0 * 6 = 0 from rfl] at hw642_5)
    (try rw [Addr.add_zero'] at hw642_5)
    have hw642_4 := hx642_4
    (try rw [show ((0 : Int)).toNat = 0 from rfl] at hw642_4)
    (try rw [show 0 * 6 = 0 from rfl] at hw642_4)
    (try rw [Addr.add_zero'] at hw642_4)
    have hw642_3 := hx642_3
    (try rw [show ((0 : Int)).toNat = 0 from rfl] at hw642_3)
    (try rw [show 0 * 6 = 0 from rfl] at hw642_3)
    (try rw [Addr.add_zero'] at hw642_3)
    have hw642_2 := hx642_2
    (try rw [show ((0 : Int)).toNat = 0 from rfl] at hw642_2)
    (try rw [show 0 * 6 = 0 from rfl] at hw642_2)
    (try rw [Addr.add_zero'] at hw642_2)
    have hw642_1 := hx642_1
    (try rw [show ((0 : Int)).toNat = 0 from rfl] at hw642_1)
    (try rw [show 0 * 6 = 0 from rfl] at hw642_1)
    (try rw [Addr.add_zero'] at hw642_1)
    have hw642_0 := hx642_0
    (try rw [show ((0 : Int)).toNat = 0 from rfl] at hw642_0)
    (try rw [show 0 * 6 = 0 from rfl] at hw642_0)
    (try rw [Addr.add_zero'] at hw642_0)
    cases e642
    have qi642 : (0 < l0.length) = True := eq_true ψ21
    (try rw [show ((0 : Int)).toNat = 0 from rfl] at hx642_0)
    (try rw [show 0 * 6 = 0 from rfl] at hx642_0)
    (try rw [Addr.add_zero'] at hx642_0)
    (try rw [show ((0 : Int)).toNat = 0 from rfl] at hx642_1)
    (try rw [show 0 * 6 = 0 from rfl] at hx642_1)
    (try rw [Addr.add_zero'] at hx642_1)
    (try rw [show ((0 : Int)).toNat = 0 from rfl] at hx642_2)
    (try rw [show 0 * 6 = 0 from rfl] at hx642_2)
    (try rw [Addr.add_zero'] at hx642_2)
    (try rw [show ((0 : Int)).toNat = 0 from rfl] at hx642_3)
    (try rw [show 0 * 6 = 0 from rfl] at hx642_3)
    (try rw [Addr.add_zero'] at hx642_3)
    (try rw [show ((0 : Int)).toNat = 0 from rfl] at hx642_4)
    (try rw [show 0 * 6 = 0 from rfl] at hx642_4)
    (try rw [Addr.add_zero'] at hx642_4)
    (try rw [show ((0 : Int)).toNat = 0 from rfl] at hx642_5)
    (try rw [show 0 * 6 = 0 from rfl] at hx642_5)
    (try rw [Addr.add_zero'] at hx642_5)
    replace hx642_0 := cB HB hx642_0
    replace hx642_1 := cB HB hx642_1
    replace hx642_2 := cB HB hx642_2
    replace hx642_3 := cB HB hx642_3
    replace hx642_4 := cB HB hx642_4
    replace hx642_5 := cB HB hx642_5
    have q := n8_ hi642_1 hl642_1 hi642_2 hl642_2 hi642_4 hl642_4 hi642_5 hl642_5
    clear hi642_1 hl642_1 hi642_2 hl642_2 hi642_4 hl642_4 hi642_5 hl642_5
    obtain ⟨HR642_1, HC642_1, HR642_2, HC642_2, HR642_4, HC642_4, HR642_5, HC642_5⟩ := q
    replace p642 := eq_true p642
    replace q642 := eq_true q642
    refine start_ (n := 30) (S := fun w' => w'.cell? ad637 = some (.slice A637_0 ((rd_T38 l1 0).f0).length c637_0) ∧ w'.cell? ⟨ad637.block, ad637.off + 1, none⟩ = some (.slice A637_1 ((rd_T38 l1 0).f1).length c637_1) ∧ w'.cell? ad637 = some (.slice A637_0 ((rd_T38 l1 0).f0).length c637_0) ∧ w'.cell? ⟨ad637.block, ad637.off + 1, none⟩ = some (.slice A637_1 ((rd_T38 l1 0).f1).length c637_1) ∧ w'.cell? ad637 = some (.slice A637_0 ((rd_T38 l1 0).f0).length c637_0) ∧ w'.cell? ⟨ad637.block, ad637.off + 1, none⟩ = some (.slice A637_1 ((rd_T38 l1 0).f1).length c637_1) ∧ w'.cell? ad642 = some (.int .i64 ((rd_T36 l0 0).f0)) ∧ w'.cell? ⟨ad642.block, ad642.off + 1, none⟩ = some (.slice A642_1 ((rd_T36 l0 0).f1).length c642_1) ∧ w'.cell? ⟨ad642.block, ad642.off + 2, none⟩ = some (.slice A642_2 ((rd_T36 l0 0).f2).length c642_2) ∧ w'.cell? ⟨ad642.block, ad642.off + 3, none⟩ = some (.int .i64 ((rd_T36 l0 0).f3)) ∧ w'.cell? ⟨ad642.block, ad642.off + 4, none⟩ = some (.slice A642_4 ((rd_T36 l0 0).f4).length c642_4) ∧ w'.cell? ⟨ad642.block, ad642.off + 5, none⟩ = some (.slice A642_5 ((rd_T36 l0 0).f5).length c642_5)) (ds := []) #[false, false, false, false, false, false, false, false, false, false, false, false, false, false, false, false, false, false, false, false, false, false, false, false, false, false, false, false, false, false] ψ12 rfl rfl ⟨((HB.out.cell (World.block_lt_of_cell? w _ hw637_0)).trans hw637_0), ((HB.out.cell (World.block_lt_of_cell? w _ hw637_1)).trans hw637_1), ((HB.out.cell (World.block_lt_of_cell? w _ hw639_0)).trans hw639_0), ((HB.out.cell (World.block_lt_of_cell? w _ hw639_1)).trans hw639_1), ((HB.out.cell (World.block_lt_of_cell? w _ hw641_0)).trans hw641_0), ((HB.out.cell (World.block_lt_of_cell? w _ hw641_1)).trans hw641_1), ((HB.out.cell (World.block_lt_of_cell? w _ hw642_0)).trans hw642_0), ((HB.out.cell (World.block_lt_of_cell? w _ hw642_1)).trans hw642_1), ((HB.out.cell (World.block_lt_of_cell? w _ hw642_2)).trans hw642_2), ((HB.out.cell (World.block_lt_of_cell? w _ hw642_3)).trans hw642_3), ((HB.out.cell (World.block_lt_of_cell? w _ hw642_4)).trans hw642_4), ((HB.out.cell (World.block_lt_of_cell? w _ hw642_5)).trans hw642_5)⟩ (fun hHeld => ?_); refine with_tabW impl_envRight.tab1 impl_envRight.bits1 (fun HT_ HW_ => ?_)
    generalize w.drew = w8 at HB HR637_0 HR637_1 HR639_0 HR639_1 HR641_0 HR641_1 HR642_1 HR642_2 HR642_4 HR642_5 hx637_0 hx637_1 hx639_0 hx639_1 hx641_0 hx641_1 hx642_0 hx642_1 hx642_2 hx642_3 hx642_4 hx642_5 hHeld ⊢
    refine rP 0 7 ?_; refine rP 1 8 ?_; refine rP 2 9 ?_; refine rP 5 12 ?_; refine rT 3 10 ?_; refine rP 4 11 ?_
    refine one_ (i := 6) (N := some 13) #[true, true, true, true, true, true, true, false, false, false, false, false, false, false, false, false, false, false, false, false, false, false, false, false, false, false, false, false, false, false] rfl rfl (one_of HT_.out ψ12) ψ13 (fun K hK => ?_)
    refine goes_ Try.func112 ψ12 rfl #[.pointer (some ad642)] ψ14 rfl rfl ψ15 ?_
    with_reducible refine (impl_varsOf.calls _ c0 l0 _ _ ?_ ?_ ?_ A4.out).mono ?_
    exact hn0; exact ψ32; exact HC0.out
    rintro e w' ⟨rfl, ⟨nd, rfl⟩⟩
    refine ⟨_, rfl, ?_⟩
    refine hK.out _ _ ⟨((HB.out.cell (World.block_lt_of_cell? w _ hw637_0)).trans hw637_0), ((HB.out.cell (World.block_lt_of_cell? w _ hw637_1)).trans hw637_1), ((HB.out.cell (World.block_lt_of_cell? w _ hw639_0)).trans hw639_0), ((HB.out.cell (World.block_lt_of_cell? w _ hw639_1)).trans hw639_1), ((HB.out.cell (World.block_lt_of_cell? w _ hw641_0)).trans hw641_0), ((HB.out.cell (World.block_lt_of_cell? w _ hw641_1)).trans hw641_1), ((HB.out.cell (World.block_lt_of_cell? w _ hw642_0)).trans hw642_0), ((HB.out.cell (World.block_lt_of_cell? w _ hw642_1)).trans hw642_1), ((HB.out.cell (World.block_lt_of_cell? w _ hw642_2)).trans hw642_2), ((HB.out.cell (World.block_lt_of_cell? w _ hw642_3)).trans hw642_3), ((HB.out.cell (World.block_lt_of_cell? w _ hw642_4)).trans hw642_4), ((HB.out.cell (World.block_lt_of_cell? w _ hw642_5)).trans hw642_5)⟩ (fun hHeld => ?_)
    clear hK K
    refine rN 13 ?_; refine rP 7 14 ?_; refine rP 8 15 ?_; refine rP 9 16 ?_; refine rP 10 17 ?_; refine rP 11 18 ?_; refine rP 12 19 ?_; refine rT 13 20 ?_
    refine one_ (i := 14) (N := some 21) #[true, true, true, true, true, true, true, true, true, true, true, true, true, true, true, false, false, false, false, false, false, false, false, false, false, false, false, false, false, false] rfl rfl (one_of HT_.out ψ12) ψ13 (fun K hK => ?_)
    refine goes_ Try.func113 ψ12 rfl #[.pointer (some ad642), .slice A637_0 ((rd_T38 l1 0).f0).length c637_0] ψ14 rfl rfl ψ15 ?_
    with_reducible refine (impl_allValues.calls k _ c0 l0 _ _ ((rd_T38 l1 0).f0) _ _ ?_ ?_ ?_ ?_ ?_ A6.out).mono ?_
    exact hn0; exact ψ118; exact HC0.out; exact ψ141; exact HC639_0.out
    rintro e w' ⟨rfl, ⟨nd, rfl⟩⟩
    refine ⟨_, rfl, ?_⟩
    refine hK.out _ _ ⟨((HB.out.cell (World.block_lt_of_cell? w _ hw637_0)).trans hw637_0), ((HB.out.cell (World.block_lt_of_cell? w _ hw637_1)).trans hw637_1), ((HB.out.cell (World.block_lt_of_cell? w _ hw639_0)).trans hw639_0), ((HB.out.cell (World.block_lt_of_cell? w _ hw639_1)).trans hw639_1), ((HB.out.cell (World.block_lt_of_cell? w _ hw641_0)).trans hw641_0), ((HB.out.cell (World.block_lt_of_cell? w _ hw641_1)).trans hw641_1), ((HB.out.cell (World.block_lt_of_cell? w _ hw642_0)).trans hw642_0), ((HB.out.cell (World.block_lt_of_cell? w _ hw642_1)).trans hw642_1), ((HB.out.cell (World.block_lt_of_cell? w _ hw642_2)).trans hw642_2), ((HB.out.cell (World.block_lt_of_cell? w _ hw642_3)).trans hw642_3), ((HB.out.cell (World.block_lt_of_cell? w _ hw642_4)).trans hw642_4), ((HB.out.cell (World.block_lt_of_cell? w _ hw642_5)).trans hw642_5)⟩ (fun hHeld => ?_)
    clear hK K
    refine rN 21 ?_; refine rP 15 22 ?_; refine rP 16 23 ?_; refine rP 17 24 ?_; refine rP 18 25 ?_; refine rP 19 26 ?_; refine rP 20 27 ?_; refine rP 23 30 ?_; refine rP 24 31 ?_; refine rP 25 32 ?_; refine rT 21 28 ?_; refine rP 22 29 ?_; refine rT 26 33 ?_; refine rP 27 34 ?_; refine rP 28 35 ?_; refine rP 29 36 ?_
    refine done_ (done_of HT_.out ψ12) ?_
    try go_wp2
    go_meet
    case rel => exact ⟨_, (((((rd_T38 l1 0).f1).length : Int) != (((rd_T36 l0 0).f4).length : Int))), ψ7, H', ⟨ψ19⟩, ⟨ψ6⟩⟩
   ·have H' := Aside0.mk H
    clear H
    try go_wp2
    replace HB := Aside0.mk (below_drew1 HB.out)
    have p637 : 0 ≤ (0 : Int) := ψ21
    have q637 : 0 < (l1.length : Int) := ψ125
    obtain ⟨ad637, A637_0, c637_0, A637_1, c637_1, e637, hx637_0, hx637_1, hl637_0, hi637_0, hl637_1, hi637_1⟩ := at_T38 HR1.out 0 p637 q637
    have hw637_1 := hx637_1
    (try rw [show ((0 : Int)).toNat = 0 from rfl] at hw637_1)
    (try rw [show 0 * 2 = 0 from rfl] at hw637_1)
    (try rw [Addr.add_zero'] at hw637_1)
    have hw637_0 := hx637_0
    (try rw [show ((0 : Int)).toNat = 0 from rfl] at hw637_0)
    (try rw [show 0 * 2 = 0 from rfl] at hw637_0)
    (try rw [Addr.add_zero'] at hw637_0)
    cases e637
    have qi637 : (0 < l1.length) = True := eq_true ψ21
    (try rw [show ((0 : Int)).toNat = 0 from rfl] at hx637_0)
    (try rw [show 0 * 2 = 0 from rfl] at hx637_0)
    (try rw [Addr.add_zero'] at hx637_0)
    (try rw [show ((0 : Int)).toNat = 0 from rfl] at hx637_1)
    (try rw [show 0 * 2 = 0 from rfl] at hx637_1)
    (try rw [Addr.add_zero'] at hx637_1)
    replace hx637_0 := cB HB hx637_0
    replace hx637_1 := cB HB hx637_1
    have q := n4_ hi637_0 hl637_0 hi637_1 hl637_1
    clear hi637_0 hl637_0 hi637_1 hl637_1
    obtain ⟨HR637_0, HC637_0, HR637_1, HC637_1⟩ := q
    replace p637 := eq_true p637
    replace q637 := eq_true q637
    have p639 : 0 ≤ (0 : Int) := ψ21
    have q639 : 0 < (l1.length : Int) := ψ125
    obtain ⟨ad639, A639_0, c639_0, A639_1, c639_1, e639, hx639_0, hx639_1, hl639_0, hi639_0, hl639_1, hi639_1⟩ := at_T38 HR1.out 0 p639 q639
    have hw639_1 := hx639_1
    (try rw [show ((0 : Int)).toNat = 0 from rfl] at hw639_1)
    (try rw [show 0 * 2 = 0 from rfl] at hw639_1)
    (try rw [Addr.add_zero'] at hw639_1)
    have hw639_0 := hx639_0
    (try rw [show ((0 : Int)).toNat = 0 from rfl] at hw639_0)
    (try rw [show 0 * 2 = 0 from rfl] at hw639_0)
    (try rw [Addr.add_zero'] at hw639_0)
    obtain rfl : ad637 = ad639 := (by injection e639)
    have qi639 : (0 < l1.length) = True := eq_true ψ21
    (try rw [show ((0 : Int)).toNat = 0 from rfl] at hx639_0)
    (try rw [show 0 * 2 = 0 from rfl] at hx639_0)
    (try rw [Addr.add_zero'] at hx639_0)
    (try rw [show ((0 : Int)).toNat = 0 from rfl] at hx639_1)
    (try rw [show 0 * 2 = 0 from rfl] at hx639_1)
    (try rw [Addr.add_zero'] at hx639_1)
    replace hx639_0 := cB HB hx639_0
    replace hx639_1 := cB HB hx639_1
    have q := n4_ hi639_0 hl639_0 hi639_1 hl639_1
    clear hi639_0 hl639_0 hi639_1 hl639_1
    obtain ⟨HR639_0, HC639_0, HR639_1, HC639_1⟩ := q
    replace p639 := eq_true p639
    replace q639 := eq_true q639
    have ea_ := Option.some.inj (hx637_0.symm.trans hx639_0)
    injection ea_ with ea_ en_ ec_
    subst ea_
    subst ec_
    clear en_
    have ea_ := Option.some.inj (hx637_1.symm.trans hx639_1)
    injection ea_ with ea_ en_ ec_
    subst ea_
    subst ec_
    clear en_
    refine start_ (n := 30) (S := fun w' => w'.cell? ad637 = some (.slice A637_0 ((rd_T38 l1 0).f0).length c637_0) ∧ w'.cell? ⟨ad637.block, ad637.off + 1, none⟩ = some (.slice A637_1 ((rd_T38 l1 0).f1).length c637_1) ∧ w'.cell? ad637 = some (.slice A637_0 ((rd_T38 l1 0).f0).length c637_0) ∧ w'.cell? ⟨ad637.block, ad637.off + 1, none⟩ = some (.slice A637_1 ((rd_T38 l1 0).f1).length c637_1)) (ds := []) #[false, false, false, false, false, false, false, false, false, false, false, false, false, false, false, false, false, false, false, false, false, false, false, false, false, false, false, false, false, false] ψ12 rfl rfl ⟨((HB.out.cell (World.block_lt_of_cell? w _ hw637_0)).trans hw637_0), ((HB.out.cell (World.block_lt_of_cell? w _ hw637_1)).trans hw637_1), ((HB.out.cell (World.block_lt_of_cell? w _ hw639_0)).trans hw639_0), ((HB.out.cell (World.block_lt_of_cell? w _ hw639_1)).trans hw639_1)⟩ (fun hHeld => ?_); refine with_tabW impl_envRight.tab1 impl_envRight.bits1 (fun HT_ HW_ => ?_)
    generalize w.drew = w9 at HB HR637_0 HR637_1 HR639_0 HR639_1 hx637_0 hx637_1 hx639_0 hx639_1 hHeld ⊢
    refine rP 0 7 ?_; refine rP 1 8 ?_; refine rP 2 9 ?_; refine rP 5 12 ?_; refine rT 3 10 ?_; refine rP 4 11 ?_
    refine one_ (i := 6) (N := some 13) #[true, true, true, true, true, true, true, false, false, false, false, false, false, false, false, false, false, false, false, false, false, false, false, false, false, false, false, false, false, false] rfl rfl (one_of HT_.out ψ12) ψ13 (fun K hK => ?_)
    refine goes_ Try.func112 ψ12 rfl #[.pointer A0] ψ14 rfl rfl ψ15 ?_
    with_reducible refine (impl_varsOf.calls _ c0 l0 _ _ ?_ ?_ ?_ A4.out).mono ?_
    exact hn0; exact ψ32; exact HC0.out
    rintro e w' ⟨rfl, ⟨nd, rfl⟩⟩
    refine ⟨_, rfl, ?_⟩
    refine hK.out _ _ ⟨((HB.out.cell (World.block_lt_of_cell? w _ hw637_0)).trans hw637_0), ((HB.out.cell (World.block_lt_of_cell? w _ hw637_1)).trans hw637_1), ((HB.out.cell (World.block_lt_of_cell? w _ hw639_0)).trans hw639_0), ((HB.out.cell (World.block_lt_of_cell? w _ hw639_1)).trans hw639_1)⟩ (fun hHeld => ?_)
    clear hK K
    refine rN 13 ?_; refine rP 7 14 ?_; refine rP 8 15 ?_; refine rP 9 16 ?_; refine rP 10 17 ?_; refine rP 11 18 ?_; refine rP 12 19 ?_; refine rT 13 20 ?_
    refine one_ (i := 14) (N := some 21) #[true, true, true, true, true, true, true, true, true, true, true, true, true, true, true, false, false, false, false, false, false, false, false, false, false, false, false, false, false, false] rfl rfl (one_of HT_.out ψ12) ψ13 (fun K hK => ?_)
    refine goes_ Try.func113 ψ12 rfl #[.pointer A0, .slice A637_0 ((rd_T38 l1 0).f0).length c637_0] ψ14 rfl rfl ψ15 ?_
    with_reducible refine (impl_allValues.calls k _ c0 l0 _ _ ((rd_T38 l1 0).f0) _ _ ?_ ?_ ?_ ?_ ?_ A6.out).mono ?_
    exact hn0; exact ψ118; exact HC0.out; exact ψ141; exact HC639_0.out
    rintro e w' ⟨rfl, ⟨nd, rfl⟩⟩
    refine ⟨_, rfl, ?_⟩
    refine hK.out _ _ ⟨((HB.out.cell (World.block_lt_of_cell? w _ hw637_0)).trans hw637_0), ((HB.out.cell (World.block_lt_of_cell? w _ hw637_1)).trans hw637_1), ((HB.out.cell (World.block_lt_of_cell? w _ hw639_0)).trans hw639_0), ((HB.out.cell (World.block_lt_of_cell? w _ hw639_1)).trans hw639_1)⟩ (fun hHeld => ?_)
    clear hK K
    refine rN 21 ?_; refine rP 15 22 ?_; refine rP 16 23 ?_; refine rP 17 24 ?_; refine rU 18 25 ?_; refine rU 19 26 ?_; refine rU 20 27 ?_; refine rU 21 28 ?_; refine rU 22 29 ?_; refine rU 23 30 ?_; refine rU 24 31 ?_; refine rU 25 32 ?_; refine rU 26 33 ?_; refine rU 27 34 ?_; refine rU 28 35 ?_; refine rP 29 36 ?_
    refine done_ (done_of HT_.out ψ12) ?_
    try go_wp2
    go_meet
    case rel => exact ⟨_, (true), ψ7, H', ⟨ψ19⟩, ⟨ψ6⟩⟩
  ·(first | rw [c5b0] | rw [c5b1] | (simp only [i64_w, i32_w]; rw [c5b0]) | skip)
   have H' := Aside0.mk H
   clear H
   try go_wp2
   replace HB := Aside0.mk (below_drew1 HB.out)
   have p637 : 0 ≤ (0 : Int) := ψ21
   have q637 : 0 < (l1.length : Int) := ψ125
   obtain ⟨ad637, A637_0, c637_0, A637_1, c637_1, e637, hx637_0, hx637_1, hl637_0, hi637_0, hl637_1, hi637_1⟩ := at_T38 HR1.out 0 p637 q637
   have hw637_1 := hx637_1
   (try rw [show ((0 : Int)).toNat = 0 from rfl] at hw637_1)
   (try rw [show 0 * 2 = 0 from rfl] at hw637_1)
   (try rw [Addr.add_zero'] at hw637_1)
   have hw637_0 := hx637_0
   (try rw [show ((0 : Int)).toNat = 0 from rfl] at hw637_0)
   (try rw [show 0 * 2 = 0 from rfl] at hw637_0)
   (try rw [Addr.add_zero'] at hw637_0)
   cases e637
   have qi637 : (0 < l1.length) = True := eq_true ψ21
   (try rw [show ((0 : Int)).toNat = 0 from rfl] at hx637_0)
   (try rw [show 0 * 2 = 0 from rfl] at hx637_0)
   (try rw [Addr.add_zero'] at hx637_0)
   (try rw [show ((0 : Int)).toNat = 0 from rfl] at hx637_1)
   (try rw [show 0 * 2 = 0 from rfl] at hx637_1)
   (try rw [Addr.add_zero'] at hx637_1)
   replace hx637_0 := cB HB hx637_0
   replace hx637_1 := cB HB hx637_1
   have q := n4_ hi637_0 hl637_0 hi637_1 hl637_1
   clear hi637_0 hl637_0 hi637_1 hl637_1
   obtain ⟨HR637_0, HC637_0, HR637_1, HC637_1⟩ := q
   replace p637 := eq_true p637
   replace q637 := eq_true q637
   refine start_ (n := 30) (S := fun w' => w'.cell? ad637 = some (.slice A637_0 ((rd_T38 l1 0).f0).length c637_0) ∧ w'.cell? ⟨ad637.block, ad637.off + 1, none⟩ = some (.slice A637_1 ((rd_T38 l1 0).f1).length c637_1)) (ds := []) #[false, false, false, false, false, false, false, false, false, false, false, false, false, false, false, false, false, false, false, false, false, false, false, false, false, false, false, false, false, false] ψ12 rfl rfl ⟨((HB.out.cell (World.block_lt_of_cell? w _ hw637_0)).trans hw637_0), ((HB.out.cell (World.block_lt_of_cell? w _ hw637_1)).trans hw637_1)⟩ (fun hHeld => ?_); refine with_tabW impl_envRight.tab1 impl_envRight.bits1 (fun HT_ HW_ => ?_)
   generalize w.drew = w10 at HB HR637_0 HR637_1 hx637_0 hx637_1 hHeld ⊢
   refine rP 0 7 ?_; refine rP 1 8 ?_; refine rP 2 9 ?_; refine rP 5 12 ?_; refine rT 3 10 ?_; refine rP 4 11 ?_
   refine one_ (i := 6) (N := some 13) #[true, true, true, true, true, true, true, false, false, false, false, false, false, false, false, false, false, false, false, false, false, false, false, false, false, false, false, false, false, false] rfl rfl (one_of HT_.out ψ12) ψ13 (fun K hK => ?_)
   refine goes_ Try.func112 ψ12 rfl #[.pointer A0] ψ14 rfl rfl ψ15 ?_
   with_reducible refine (impl_varsOf.calls _ c0 l0 _ _ ?_ ?_ ?_ A4.out).mono ?_
   exact hn0; exact ψ32; exact HC0.out
   rintro e w' ⟨rfl, ⟨nd, rfl⟩⟩
   refine ⟨_, rfl, ?_⟩
   refine hK.out _ _ ⟨((HB.out.cell (World.block_lt_of_cell? w _ hw637_0)).trans hw637_0), ((HB.out.cell (World.block_lt_of_cell? w _ hw637_1)).trans hw637_1)⟩ (fun hHeld => ?_)
   clear hK K
   refine rN 13 ?_; refine rP 7 14 ?_; refine rP 8 15 ?_; refine rU 9 16 ?_; refine rU 10 17 ?_; refine rU 11 18 ?_; refine rU 12 19 ?_; refine rU 13 20 ?_; refine rU 14 21 ?_; refine rU 15 22 ?_; refine rP 16 23 ?_; refine rP 17 24 ?_; refine rU 18 25 ?_; refine rU 19 26 ?_; refine rU 20 27 ?_; refine rU 21 28 ?_; refine rU 22 29 ?_; refine rU 23 30 ?_; refine rU 24 31 ?_; refine rU 25 32 ?_; refine rU 26 33 ?_; refine rU 27 34 ?_; refine rU 28 35 ?_; refine rP 29 36 ?_
   refine done_ (done_of HT_.out ψ12) ?_
   try go_wp2
   go_meet
   case rel => exact ⟨_, (true), ψ7, H', ⟨ψ19⟩, ⟨ψ6⟩⟩
 case rest =>
  clear HC3
  try clear c1
  try clear c5
  try clear c5b0
  try clear c5b1
  try clear c7
  try clear hx637_0
  try clear hx637_1
  try clear hx639_0
  try clear hx639_1
  try clear p637
  try clear p639
  try clear q637
  try clear q639
  obtain ⟨kq, x36_2, rfl, HA, HJ2, HB⟩ := hcut
  cases kq with
  | zero => exact absurd HA.out (by simp [impl_envRight.j0])
  | succ kj2 =>
   have H := HA.out
   clear HA
   simp only [impl_envRight.j0] at H
   replace H := ifB H; rcases H with ⟨rfl, H⟩ | ⟨rfl, H⟩
   ·obtain rfl := Option.some.inj H
    go_wp2
    go_ret
    exact ⟨ψ4, ψ6⟩
   ·have H' := Aside0.mk H
    clear H
    have p643 : 0 ≤ (0 : Int) := ψ21
    have q643 : 0 < (l1.length : Int) := ψ125
    obtain ⟨ad643, A643_0, c643_0, A643_1, c643_1, e643, hx643_0, hx643_1, hl643_0, hi643_0, hl643_1, hi643_1⟩ := at_T38 HR1.out 0 p643 q643
    cases e643
    have qi643 : (0 < l1.length) = True := eq_true ψ21
    (try rw [show ((0 : Int)).toNat = 0 from rfl] at hx643_0)
    (try rw [show 0 * 2 = 0 from rfl] at hx643_0)
    (try rw [Addr.add_zero'] at hx643_0)
    (try rw [show ((0 : Int)).toNat = 0 from rfl] at hx643_1)
    (try rw [show 0 * 2 = 0 from rfl] at hx643_1)
    (try rw [Addr.add_zero'] at hx643_1)
    replace hx643_0 := cB HB hx643_0
    replace hx643_1 := cB HB hx643_1
    have q := n4_ hi643_0 hl643_0 hi643_1 hl643_1
    clear hi643_0 hl643_0 hi643_1 hl643_1
    obtain ⟨HR643_0, HC643_0, HR643_1, HC643_1⟩ := q
    replace p643 := eq_true p643
    replace q643 := eq_true q643
    go_wp2
    go_loopg [42] kj2 (fun kq v42 w' => ∃ (x42_2 : Int), v42 = .int .i64 x42_2 ∧ Aside0 (impl_envRight.l0 kq l0 ((rd_T38 l1 0).f1) (((rd_T38 l1 0).f1).length : Int) x42_2 = some r) ∧ Aside0 (kq ≤ kj2) ∧ Aside0 (Below w.heap.size w w'))
    case atStart => exact ⟨(0), ψ7, H', ⟨Nat.le_refl _⟩, ⟨ψ6⟩⟩
    case round =>
     clear H'
     try clear c1
     try clear c5
     try clear c5b0
     try clear c5b1
     try clear c7
     try clear c11
     try clear hx637_0
     try clear hx637_1
     try clear hx639_0
     try clear hx639_1
     try clear hx643_0
     try clear hx643_1
     try clear p637
     try clear p639
     try clear p643
     try clear q637
     try clear q639
     try clear q643
     obtain ⟨x42_2, rfl, HA, HK2, HB⟩ := hrel
     cases gk with
     | zero => exact absurd HA.out (by simp [impl_envRight.l0])
     | succ k2 =>
      have H := HA.out
      clear HA
      simp only [impl_envRight.l0] at H
      replace H := ifD H; rcases H with ⟨c12b0, H⟩ | ⟨c12b0, H⟩
      ·replace H := ifN H; obtain ⟨c13b0, H⟩ := H
       replace H := ifN H; obtain ⟨c14b0, H⟩ := H
       replace H := ifN H; obtain ⟨c15b0, H⟩ := H
       replace H := ifF H; rcases H with ⟨c16b0, c16b1, H⟩ | ⟨c16b0, c16b1, c16, H⟩
       ·replace H := bS H; obtain ⟨t647, A17, H⟩ := H
        replace H := ifB H; rcases H with ⟨rfl, H⟩ | ⟨rfl, H⟩
        ·exact τ60
        ·exact τ60
       ·exact τ60
      ·exact τ60

/-! ### impl_EnvOk: function 20 -/
theorem impl_EnvOk.box_T36 {w : World} {g : Nat} {x : S36} {A1 : Option Addr} {c1 : Nat} {A2 : Option Addr} {c2 : Nat} {A4 : Option Addr} {c4 : Nat} {A5 : Option Addr} {c5 : Nat} (hb : w.heap[g]? = some (.cells #[.int .i64 x.f0, .slice A1 x.f1.length c1, .slice A2 x.f2.length c2, .int .i64 x.f3, .slice A4 x.f4.length c4, .slice A5 x.f5.length c5] 36 (0, 0))) (l1 : x.f1.length ≤ c1) (g1 : Kd.C k106 w A1 x.f1.length x.f1) (l2 : x.f2.length ≤ c2) (g2 : Kd.C k106 w A2 x.f2.length x.f2) (l4 : x.f4.length ≤ c4) (g4 : Kd.C (Kd.int .i64) w A4 x.f4.length x.f4) (l5 : x.f5.length ≤ c5) (g5 : Kd.C k114 w A5 x.f5.length x.f5) : Kd.C k36 w (some ⟨g, 0, none⟩) ([x] : List S36).length [x] := by
 refine ⟨rfl, show (1 : Nat) ≤ 9223372036854775807 from ψ13, fun _ => ⟨_, rfl, fun j p hj => ?_⟩⟩
 match j, hj with
 | 0, hj =>
  cases hj
  refine ⟨_, rfl, k36_mk w x l1 g1 l2 g2 l4 g4 l5 g5, fun i u hu => ?_⟩
  match i, hu with
  | 0, hu => cases hu; exact (blk_cell hb 0).trans rfl
  | 1, hu => cases hu; exact (blk_cell hb 1).trans rfl
  | 2, hu => cases hu; exact (blk_cell hb 2).trans rfl
  | 3, hu => cases hu; exact (blk_cell hb 3).trans rfl
  | 4, hu => cases hu; exact (blk_cell hb 4).trans rfl
  | 5, hu => cases hu; exact (blk_cell hb 5).trans rfl
  | i + 6, hu => simp at hu
 | j + 1, hj => simp at hj
theorem impl_EnvOk.box_T38 {w : World} {g : Nat} {x : S38} {A0 : Option Addr} {c0 : Nat} {A1 : Option Addr} {c1 : Nat} (hb : w.heap[g]? = some (.cells #[.slice A0 x.f0.length c0, .slice A1 x.f1.length c1] 38 (0, 0))) (l0 : x.f0.length ≤ c0) (g0 : Kd.C (Kd.int .i64) w A0 x.f0.length x.f0) (l1 : x.f1.length ≤ c1) (g1 : Kd.C (Kd.slice 2 (Kd.int .i64)) w A1 x.f1.length x.f1) : Kd.C k38 w (some ⟨g, 0, none⟩) ([x] : List S38).length [x] := by
 refine ⟨rfl, show (1 : Nat) ≤ 9223372036854775807 from ψ13, fun _ => ⟨_, rfl, fun j p hj => ?_⟩⟩
 match j, hj with
 | 0, hj =>
  cases hj
  refine ⟨_, rfl, k38_mk w x l0 g0 l1 g1, fun i u hu => ?_⟩
  match i, hu with
  | 0, hu => cases hu; exact (blk_cell hb 0).trans rfl
  | 1, hu => cases hu; exact (blk_cell hb 1).trans rfl
  | i + 2, hu => simp at hu
 | j + 1, hj => simp at hj
def impl_EnvOk.f (k : Nat) (a0_0 : Int) (l0_1 : List (S106)) (l0_2 : List (S106)) (a0_3 : Int) (l0_4 : List Int) (l0_5 : List (S114)) (l1_0 : List Int) (l1_1 : List (List Int)) : Option (Bool) := (impl_ProgOk.f k a0_0 l0_1 l0_2 a0_3 l0_4 l0_5).bind fun t651 => (if t651 = true then ((impl_envRight.f k [(⟨a0_0, l0_1, l0_2, a0_3, l0_4, l0_5⟩ : S36)] [(⟨l1_0, l1_1⟩ : S38)]).bind fun t652 => (some t652)) else (some false))
theorem τ61 {P : Prop} (h : P := by
 obtain rfl := Option.some.inj H
 go_enter Try.func20, Try.ntmps20
 go_wp2_with (first | ((with_reducible refine gate_dst (N := 2) rfl ?_); refine bE 2 #[.int .i64 a0_0, .slice A0_1 l0_1.length c0_1, .slice A0_2 l0_2.length c0_2, .int .i64 a0_3, .slice A0_4 l0_4.length c0_4, .slice A0_5 l0_5.length c0_5] 36 ?_; intro gb10 hg w1_ hbox hb; have q := n4_ (below_step ψ25 hb) (hbox) ((ψ115 : w.heap.size ≤ gb10)) ((ψ115 : w.heap.size ≤ gb10)); clear HB; obtain ⟨HB, BK10, GW10, GE10⟩ := q; clear hb hbox hg) | ((with_reducible refine gate_dst (N := 3) rfl ?_); refine bE 3 #[.slice A1_0 l1_0.length c1_0, .slice A1_1 l1_1.length c1_1] 38 ?_; intro gb11 hg w2_ hbox hb; have q := n7_ (blk_below (g := gb10) ψ10 hb) (below_step ψ25 hb) (hbox) ((ψ115 : w.heap.size ≤ gb11)) ((ψ115 : w.heap.size ≤ gb11)) ((ψ116 : gb10 ≠ gb11)) ((ψ117 : gb11 ≠ gb10)); clear BK10 HB; obtain ⟨BK10, HB, BK11, GW11, GE11, NB10_11, NB11_10⟩ := q; clear hb hbox hg; have hnb1_ := NB10_11.out; have hnc1_ := NB11_10.out; obtain ⟨hczB10_0, hczB10_1, hczB10_2, hczB10_3, hczB10_4, hczB10_5, hfzB10_0, hfzB10_1, hfzB10_2, hfzB10_3, hfzB10_4, hfzB10_5⟩ := cells6 BK10.out) | ((with_reducible refine gate_callee (f := 74) rfl ?_); refine gL 6 Try.func74 #[.agg #[.int .i64 a0_0, .slice A0_1 l0_1.length c0_1, .slice A0_2 l0_2.length c0_2, .int .i64 a0_3, .slice A0_4 l0_4.length c0_4, .slice A0_5 l0_5.length c0_5]] ?_; (with_reducible refine (impl_ProgOk.calls k a0_0 _ _ l0_1 _ _ l0_2 a0_3 _ _ l0_4 _ _ l0_5 _ _ ?_ ?_ ?_ ?_ ?_ ?_ ?_ ?_ A3.out).mono ?_); exact ψ9; exact HC0_1.out; exact ψ3; exact HC0_2.out; exact ψ16; exact HC0_4.out; exact ψ17; exact HC0_5.out; rintro e w3_ ⟨rfl, hb⟩; refine ⟨_, rfl, ?_⟩; have q := n3_ (blk_below (g := gb10) ψ10 hb) (blk_below (g := gb11) ψ24 hb) (below_step ψ25 hb); clear BK10 BK11 HB; obtain ⟨BK10, BK11, HB⟩ := q; (try clear hb)) | (go_at_call 75; (with_reducible refine (impl_envRight.calls k _ 1 [(⟨a0_0, l0_1, l0_2, a0_3, l0_4, l0_5⟩ : S36)] _ 1 [(⟨l1_0, l1_1⟩ : S38)] _ _ ?_ ?_ ?_ ?_ ?_ ?_ A5.out).mono ?_); exact rfl; exact (by refine impl_EnvOk.box_T36 ψ10 ?_ ?_ ?_ ?_ ?_ ?_ ?_ ?_; exact HC0_1.out; repeat (first | exact (Kd.C_below HR0_1.out HB.out) | (with_reducible refine Kd.C_alloc ?_ _) | (with_reducible refine Kd.C_drewN ?_ _) | (with_reducible refine Kd.C_drew ?_)); exact HC0_2.out; repeat (first | exact (Kd.C_below HR0_2.out HB.out) | (with_reducible refine Kd.C_alloc ?_ _) | (with_reducible refine Kd.C_drewN ?_ _) | (with_reducible refine Kd.C_drew ?_)); exact HC0_4.out; repeat (first | exact (Kd.C_below HR0_4.out HB.out) | (with_reducible refine Kd.C_alloc ?_ _) | (with_reducible refine Kd.C_drewN ?_ _) | (with_reducible refine Kd.C_drew ?_)); exact HC0_5.out; repeat (first | exact (Kd.C_below HR0_5.out HB.out) | (with_reducible refine Kd.C_alloc ?_ _) | (with_reducible refine Kd.C_drewN ?_ _) | (with_reducible refine Kd.C_drew ?_))); exact Nat.le_refl 1; exact rfl; exact (by refine impl_EnvOk.box_T38 ψ24 ?_ ?_ ?_ ?_; exact HC1_0.out; repeat (first | exact (Kd.C_below HR1_0.out HB.out) | (with_reducible refine Kd.C_alloc ?_ _) | (with_reducible refine Kd.C_drewN ?_ _) | (with_reducible refine Kd.C_drew ?_)); exact HC1_1.out; repeat (first | exact (Kd.C_below HR1_1.out HB.out) | (with_reducible refine Kd.C_alloc ?_ _) | (with_reducible refine Kd.C_drewN ?_ _) | (with_reducible refine Kd.C_drew ?_))); exact Nat.le_refl 1; rintro e w4_ ⟨rfl, hb⟩; have q := n3_ (blk_below (g := gb10) ψ10 hb) (blk_below (g := gb11) ψ24 hb) (below_step ψ25 hb); clear BK10 BK11 HB; obtain ⟨BK10, BK11, HB⟩ := q; (try clear hb)))
 go_ret
 exact ⟨ψ4, ψ25⟩) : P := h
theorem impl_EnvOk.calls (k : Nat) (a0_0 : Int) (A0_1 : Option Addr) (c0_1 : Nat) (l0_1 : List (S106)) (A0_2 : Option Addr) (c0_2 : Nat) (l0_2 : List (S106)) (a0_3 : Int) (A0_4 : Option Addr) (c0_4 : Nat) (l0_4 : List Int) (A0_5 : Option Addr) (c0_5 : Nat) (l0_5 : List (S114)) (A1_0 : Option Addr) (c1_0 : Nat) (l1_0 : List Int) (A1_1 : Option Addr) (c1_1 : Nat) (l1_1 : List (List Int)) (r : Bool) (w : World) (hr0_1 : Kd.C k106 w A0_1 l0_1.length l0_1) (hc0_1 : l0_1.length ≤ c0_1) (hr0_2 : Kd.C k106 w A0_2 l0_2.length l0_2) (hc0_2 : l0_2.length ≤ c0_2) (hr0_4 : Kd.C (Kd.int .i64) w A0_4 l0_4.length l0_4) (hc0_4 : l0_4.length ≤ c0_4) (hr0_5 : Kd.C k114 w A0_5 l0_5.length l0_5) (hc0_5 : l0_5.length ≤ c0_5) (hr1_0 : Kd.C (Kd.int .i64) w A1_0 l1_0.length l1_0) (hc1_0 : l1_0.length ≤ c1_0) (hr1_1 : Kd.C (Kd.slice 2 (Kd.int .i64)) w A1_1 l1_1.length l1_1) (hc1_1 : l1_1.length ≤ c1_1) (h : impl_EnvOk.f k a0_0 l0_1 l0_2 a0_3 l0_4 l0_5 l1_0 l1_1 = some r) :
 Calls Try.prog 20 #[.agg #[.int .i64 a0_0, .slice A0_1 l0_1.length c0_1, .slice A0_2 l0_2.length c0_2, .int .i64 a0_3, .slice A0_4 l0_4.length c0_4, .slice A0_5 l0_5.length c0_5], .agg #[.slice A1_0 l1_0.length c1_0, .slice A1_1 l1_1.length c1_1]] w fun e w' => e = .returned (.bool r) ∧ Below w.heap.size w w' := by
 have hu36 := Try.underlying36
 have hu38 := Try.underlying38
 have q := n12_ hr0_1 hc0_1 hr0_2 hc0_2 hr0_4 hc0_4 hr0_5 hc0_5 hr1_0 hc1_0 hr1_1 hc1_1
 clear hr0_1 hc0_1 hr0_2 hc0_2 hr0_4 hc0_4 hr0_5 hc0_5 hr1_0 hc1_0 hr1_1 hc1_1
 obtain ⟨HR0_1, HC0_1, HR0_2, HC0_2, HR0_4, HC0_4, HR0_5, HC0_5, HR1_0, HC1_0, HR1_1, HC1_1⟩ := q
 have HB := Aside0.mk (Below.refl w.heap.size w)
 unfold impl_EnvOk.f at h
 have H := h
 clear h
 replace H := bS H; obtain ⟨t651, A3, H⟩ := H
 replace H := ifB H; rcases H with ⟨rfl, H⟩ | ⟨rfl, H⟩
 ·replace H := bS H; obtain ⟨t652, A5, H⟩ := H
  exact τ61
 ·exact τ61

/-! ### laws_eqInt64SS: function 78 -/
def laws_eqInt64SS.l0 : Nat → List (List Int) → List (List Int) → Int → Option (Bool)
 | 0, _, _, _ => none
 | k + 1, x0, x1, x5 => if x5 < (x0.length : Int) then (if 0 ≤ x5 then (if x5 < (x1.length : Int) then ((laws_eqInt64S.f k (rd_L5 x0 x5) (rd_L5 x1 x5)).bind fun t708 => (if t708 = true then (laws_eqInt64SS.l0 k x0 x1 (wrap64 (x5 + 1))) else (some false))) else (none)) else (none)) else (some true)
def laws_eqInt64SS.f (k : Nat) (l0 : List (List Int)) (l1 : List (List Int)) : Option (Bool) := if (l0.length : Int) = (l1.length : Int) then (laws_eqInt64SS.l0 k l0 l1 0) else (some false)
theorem τ70 {P : Prop} (h : P := by
 first | obtain rfl := Option.some.inj H | (have H' := Aside0.mk H; clear H)
 try (have p706 : 0 ≤ (x5_1 : Int) := of_decide_eq_true ψ5; have q706 : x5_1 < (l0.length : Int) := of_decide_eq_true ψ5; obtain ⟨ad706, A706_0, c706_0, e706, hx706_0, hl706_0, hi706_0⟩ := at_L5 HR0.out x5_1 p706 q706; cases e706; have q := n2_ hi706_0 hl706_0; clear hi706_0 hl706_0; obtain ⟨HR706_0, HC706_0⟩ := q; replace p706 := eq_true p706; replace q706 := eq_true q706)
 try (have p707 : 0 ≤ (x5_1 : Int) := of_decide_eq_true ψ5; have q707 : x5_1 < (l1.length : Int) := of_decide_eq_true ψ5; obtain ⟨ad707, A707_0, c707_0, e707, hx707_0, hl707_0, hi707_0⟩ := at_L5 HR1.out x5_1 p707 q707; cases e707; have q := n2_ hi707_0 hl707_0; clear hi707_0 hl707_0; obtain ⟨HR707_0, HC707_0⟩ := q; replace p707 := eq_true p707; replace q707 := eq_true q707)
 go_wp2_with (first | (go_at_call 25; (with_reducible refine (laws_eqInt64S.calls k1 _ _ (rd_L5 l0 x5_1) _ _ (rd_L5 l1 x5_1) _ _ ?_ ?_ ?_ ?_ A7.out).mono ?_); exact (by repeat (first | exact HR706_0.out | (with_reducible refine Kd.C_alloc ?_ _) | (with_reducible refine Kd.C_drewN ?_ _) | (with_reducible refine Kd.C_drew ?_))); exact HC706_0.out; exact (by repeat (first | exact HR707_0.out | (with_reducible refine Kd.C_alloc ?_ _) | (with_reducible refine Kd.C_drewN ?_ _) | (with_reducible refine Kd.C_drew ?_))); exact HC707_0.out; rintro e w' ⟨rfl, ⟨nd, rfl⟩⟩; (try first | exact ⟨rfl, _, World.drewN_drewN _ _ _⟩ | exact ⟨rfl, _, Eq.trans (World.drewN_drewN _ _ _) (congrArg (World.drewN _) (Nat.add_assoc _ _ _))⟩)) | ((with_reducible refine qR_ ?_)) | ((with_reducible refine wpQuiet_step (fun K hK => ?_)); go_simp; first | (refine hK _ ?_; clear hK K) | (apply Exists.intro; refine ⟨fun _ => ?_, hK _ ?_⟩)) | ((with_reducible refine wpQuiet_nil ?_); rintro _ ⟨nq, rfl⟩))
 first | (go_roundg k1; (case measure => have := HK1.out; omega); (case rel => exact ⟨(wrap64 (x5_1 + 1)), ψ7, H', ⟨ψ8⟩, ψ1⟩)) | (go_ret; exact ⟨ψ0, ψ1⟩)) : P := h
theorem laws_eqInt64SS.calls (k : Nat) (A0 : Option Addr) (c0 : Nat) (l0 : List (List Int)) (A1 : Option Addr) (c1 : Nat) (l1 : List (List Int)) (r : Bool) (w : World) (hr0 : Kd.C (Kd.slice 2 (Kd.int .i64)) w A0 l0.length l0) (hc0 : l0.length ≤ c0) (hr1 : Kd.C (Kd.slice 2 (Kd.int .i64)) w A1 l1.length l1) (hc1 : l1.length ≤ c1) (h : laws_eqInt64SS.f k l0 l1 = some r) :
 Calls Try.prog 78 #[.slice A0 l0.length c0, .slice A1 l1.length c1] w fun e w' => e = .returned (.bool r) ∧ Drawn0 w w' := by
 have q := n4_ hr0 hc0 hr1 hc1
 clear hr0 hc0 hr1 hc1
 obtain ⟨HR0, HC0, HR1, HC1⟩ := q
 unfold laws_eqInt64SS.f at h
 have H := h
 clear h
 by_cases c3 : (l0.length : Int) = (l1.length : Int)
 ·rw [if_pos c3] at H
  have c3b0 : ((l0.length : Int) == (l1.length : Int)) = true := beq_iff_eq.mpr c3
  have c3b1 : ((l0.length : Int) != (l1.length : Int)) = false := bne_eq_false_iff_eq.mpr c3
  have c3b2 : (l0.length == l1.length) = true := by first | simpa using c3 | (simp at c3 ⊢; omega)
  clear c3
  have H' := Aside0.mk H
  clear H
  go_enter Try.func78, Try.ntmps78
  go_wp2_with (first | ((with_reducible refine qR_ ?_)) | ((with_reducible refine wpQuiet_step (fun K hK => ?_)); go_simp; first | (refine hK _ ?_; clear hK K) | (apply Exists.intro; refine ⟨fun _ => ?_, hK _ ?_⟩)) | ((with_reducible refine wpQuiet_nil ?_); rintro _ ⟨nq, rfl⟩))
  go_loopg [5] k (fun kq v5 w' => ∃ (x5_1 : Int), v5 = .int .i64 x5_1 ∧ Aside0 (laws_eqInt64SS.l0 kq l0 l1 x5_1 = some r) ∧ Aside0 (kq ≤ k) ∧ Drawn0 w w')
  case atStart => exact ⟨(0), ψ7, H', ⟨Nat.le_refl _⟩, ψ1⟩
  case round =>
   clear H'
   try clear c1
   try clear c3
   try clear c3b0
   try clear c3b1
   try clear c3b2
   obtain ⟨x5_1, rfl, HA, HK1, ⟨m1, rfl⟩⟩ := hrel
   cases gk with
   | zero => exact absurd HA.out (by simp [laws_eqInt64SS.l0])
   | succ k1 =>
    have H := HA.out
    clear HA
    simp only [laws_eqInt64SS.l0] at H
    replace H := ifD H; rcases H with ⟨c4b0, H⟩ | ⟨c4b0, H⟩
    ·replace H := ifN H; obtain ⟨c5b0, H⟩ := H
     replace H := ifN H; obtain ⟨c6b0, H⟩ := H
     replace H := bS H; obtain ⟨t708, A7, H⟩ := H
     replace H := ifB H; rcases H with ⟨rfl, H⟩ | ⟨rfl, H⟩
     ·exact τ70
     ·exact τ70
    ·exact τ70
 ·rw [if_neg c3] at H
  have c3b0 : ((l0.length : Int) == (l1.length : Int)) = false := beq_eq_false_iff_ne.mpr c3
  have c3b1 : ((l0.length : Int) != (l1.length : Int)) = true := bne_iff_ne.mpr c3
  have c3b2 : (l0.length == l1.length) = false := by first | simpa using c3 | (simp at c3 ⊢; omega)
  obtain rfl := Option.some.inj H
  go_enter Try.func78, Try.ntmps78
  go_wp2_with (first | ((with_reducible refine qR_ ?_)) | ((with_reducible refine wpQuiet_step (fun K hK => ?_)); go_simp; first | (refine hK _ ?_; clear hK K) | (apply Exists.intro; refine ⟨fun _ => ?_, hK _ ?_⟩)) | ((with_reducible refine wpQuiet_nil ?_); rintro _ ⟨nq, rfl⟩))
  go_ret
  exact ⟨ψ0, ψ1⟩

/-! ### laws_eqEnv: function 22 -/
def laws_eqEnv.f (k : Nat) (l0_0 : List Int) (l0_1 : List (List Int)) (l1_0 : List Int) (l1_1 : List (List Int)) : Option (Bool) := (laws_eqInt64S.f k l0_0 l1_0).bind fun t713 => (if t713 = true then ((laws_eqInt64SS.f k l0_1 l1_1).bind fun t716 => (if t716 = true then (some true) else (some false))) else (some false))
theorem τ71 {P : Prop} (h : P := by
 obtain rfl := Option.some.inj H
 go_enter Try.func22, Try.ntmps22
 go_wp2_with (first | ((with_reducible refine gate_dst (N := 2) rfl ?_); refine bE 2 #[.slice A0_0 l0_0.length c0_0, .slice A0_1 l0_1.length c0_1] 38 ?_; intro gb10 hg w1_ hbox hb; have q := n4_ (below_step ψ25 hb) (hbox) ((ψ115 : w.heap.size ≤ gb10)) ((ψ115 : w.heap.size ≤ gb10)); clear HB; obtain ⟨HB, BK10, GW10, GE10⟩ := q; clear hb hbox hg) | ((with_reducible refine gate_dst (N := 3) rfl ?_); refine bE 3 #[.slice A1_0 l1_0.length c1_0, .slice A1_1 l1_1.length c1_1] 38 ?_; intro gb11 hg w2_ hbox hb; have q := n7_ (blk_below (g := gb10) ψ10 hb) (below_step ψ25 hb) (hbox) ((ψ115 : w.heap.size ≤ gb11)) ((ψ115 : w.heap.size ≤ gb11)) ((ψ116 : gb10 ≠ gb11)) ((ψ117 : gb11 ≠ gb10)); clear BK10 HB; obtain ⟨BK10, HB, BK11, GW11, GE11, NB10_11, NB11_10⟩ := q; clear hb hbox hg; have hnb1_ := NB10_11.out; have hnc1_ := NB11_10.out; obtain ⟨hczB10_0, hczB10_1, hfzB10_0, hfzB10_1⟩ := cells2 BK10.out; obtain ⟨hczB11_0, hczB11_1, hfzB11_0, hfzB11_1⟩ := cells2 BK11.out) | ((with_reducible refine gate_callee (f := 25) rfl ?_); refine gL 9 Try.func25 #[.slice A0_0 l0_0.length c0_0, .slice A1_0 l1_0.length c1_0] ?_; (with_reducible refine (laws_eqInt64S.calls k _ _ l0_0 _ _ l1_0 _ _ ?_ ?_ ?_ ?_ A3.out).mono ?_); exact ψ11; exact HC0_0.out; exact ψ34; exact HC1_0.out; rintro e w' ⟨rfl, ⟨nd, rfl⟩⟩; refine ⟨_, rfl, ?_⟩) | ((with_reducible refine gate_callee (f := 78) rfl ?_); refine gL 15 Try.func78 #[.slice A0_1 l0_1.length c0_1, .slice A1_1 l1_1.length c1_1] ?_; (with_reducible refine (laws_eqInt64SS.calls k _ _ l0_1 _ _ l1_1 _ _ ?_ ?_ ?_ ?_ A5.out).mono ?_); exact (by repeat (first | exact (Kd.C_below HR0_1.out ψ25) | (with_reducible refine Kd.C_alloc ?_ _) | (with_reducible refine Kd.C_drewN ?_ _) | (with_reducible refine Kd.C_drew ?_))); exact HC0_1.out; exact (by repeat (first | exact (Kd.C_below HR1_1.out ψ25) | (with_reducible refine Kd.C_alloc ?_ _) | (with_reducible refine Kd.C_drewN ?_ _) | (with_reducible refine Kd.C_drew ?_))); exact HC1_1.out; rintro e w' ⟨rfl, ⟨nd, rfl⟩⟩; refine ⟨_, rfl, ?_⟩))
 go_ret
 exact ⟨ψ4, ψ25⟩) : P := h
theorem laws_eqEnv.calls (k : Nat) (A0_0 : Option Addr) (c0_0 : Nat) (l0_0 : List Int) (A0_1 : Option Addr) (c0_1 : Nat) (l0_1 : List (List Int)) (A1_0 : Option Addr) (c1_0 : Nat) (l1_0 : List Int) (A1_1 : Option Addr) (c1_1 : Nat) (l1_1 : List (List Int)) (r : Bool) (w : World) (hr0_0 : Kd.C (Kd.int .i64) w A0_0 l0_0.length l0_0) (hc0_0 : l0_0.length ≤ c0_0) (hr0_1 : Kd.C (Kd.slice 2 (Kd.int .i64)) w A0_1 l0_1.length l0_1) (hc0_1 : l0_1.length ≤ c0_1) (hr1_0 : Kd.C (Kd.int .i64) w A1_0 l1_0.length l1_0) (hc1_0 : l1_0.length ≤ c1_0) (hr1_1 : Kd.C (Kd.slice 2 (Kd.int .i64)) w A1_1 l1_1.length l1_1) (hc1_1 : l1_1.length ≤ c1_1) (h : laws_eqEnv.f k l0_0 l0_1 l1_0 l1_1 = some r) :
 Calls Try.prog 22 #[.agg #[.slice A0_0 l0_0.length c0_0, .slice A0_1 l0_1.length c0_1], .agg #[.slice A1_0 l1_0.length c1_0, .slice A1_1 l1_1.length c1_1]] w fun e w' => e = .returned (.bool r) ∧ Below w.heap.size w w' := by
 have hu38 := Try.underlying38
 have q := n8_ hr0_0 hc0_0 hr0_1 hc0_1 hr1_0 hc1_0 hr1_1 hc1_1
 clear hr0_0 hc0_0 hr0_1 hc0_1 hr1_0 hc1_0 hr1_1 hc1_1
 obtain ⟨HR0_0, HC0_0, HR0_1, HC0_1, HR1_0, HC1_0, HR1_1, HC1_1⟩ := q
 have HB := Aside0.mk (Below.refl w.heap.size w)
 unfold laws_eqEnv.f at h
 have H := h
 clear h
 replace H := bS H; obtain ⟨t713, A3, H⟩ := H
 replace H := ifB H; rcases H with ⟨rfl, H⟩ | ⟨rfl, H⟩
 ·replace H := bS H; obtain ⟨t716, A5, H⟩ := H
  replace H := ifB H; rcases H with ⟨rfl, H⟩ | ⟨rfl, H⟩
  ·exact τ71
  ·exact τ71
 ·exact τ71

end Go.Proofs.Ytakmkdlkipfnhaa.PCore

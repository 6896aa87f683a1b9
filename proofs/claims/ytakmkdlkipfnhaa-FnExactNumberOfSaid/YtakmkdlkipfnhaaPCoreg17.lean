/- The walks of the functions that the laws come to, part 17: turned out of the kit's print, and mended where that fell. -/
import Derived.Test.YtakmkdlkipfnhaaPCoreg
import Derived.Test.YtakmkdlkipfnhaaPCoreg0
import Derived.Test.YtakmkdlkipfnhaaPCoreg4
namespace Go.Proofs.Ytakmkdlkipfnhaa.PCore
open Go.RowKit Go.Proofs.YtakmkdlkipfnhaaW.PrintWords Go.Proofs.YtakmkdlkipfnhaaW.PrintLast Go.Proofs.YtakmkdlkipfnhaaW.PrintMore
attribute [local go_sem] max2_int min2_int max_two min_two max_three min_three max_four min_four   -- for this text's walks alone
set_option linter.unusedVariables false
set_option maxHeartbeats 8000000
set_option maxRecDepth 100000
set_option linter.unusedSimpArgs false

theorem ψ105 {P : Prop} (h : P := by (with_reducible repeat (first | refine blk_drewN ?_ _ | refine blk_drew ?_ | refine blk_alloc ?_ _)); refine blk_put (cs := #[u883000, .slice none 0 0]) ?_ 0 _ rfl; (with_reducible repeat (first | refine blk_drewN ?_ _ | refine blk_drew ?_ | refine blk_alloc ?_ _)); exact BK12.out) : P := h
/-! ### spec_StartOf: function 29 -/
mutual
def spec_StartOf.j0 : Nat → List Int → List Int → Bool → Int → List (S106) → List (S106) → Int → List Int → List (S114) → Option (List Int × (List (List Int)) × Bool)
 | 0, _, _, _, _, _, _, _, _, _ => none
 | k + 1, x1, x2, x30, x877000, x877001, x877002, x877003, x877004, x877005 => if x30 = true then (some (([] : List Int), ([] : List (List Int)), false)) else (spec_StartOf.l0 k x1 x2 0 x877000 x877001 x877002 x877003 x877004 x877005 ([] : List Int))
def spec_StartOf.l0 : Nat → List Int → List Int → Int → Int → List (S106) → List (S106) → Int → List Int → List (S114) → List Int → Option (List Int × (List (List Int)) × Bool)
 | 0, _, _, _, _, _, _, _, _, _, _ => none
 | k + 1, x1, x2, x9, x877000, x877001, x877002, x877003, x877004, x877005, x883000 => if x9 < (x1.length : Int) then (if 0 ≤ x9 then (if x9 < (x877001.length : Int) then ((spec_l1In.f (rd x1 x9) 0 ((rd_T106 x877001 x9).f0)).bind fun t886 => (if t886 = true then (if x883000.length < 17592186044416 then (spec_StartOf.l0 k x1 x2 (wrap64 (x9 + 1)) x877000 x877001 x877002 x877003 x877004 x877005 (x883000 ++ [rd x1 x9])) else (none)) else (some (([] : List Int), ([] : List (List Int)), false)))) else (none)) else (none)) else (spec_StartOf.l1 k x2 0 x877000 x877001 x877002 x877003 x877004 x877005 x883000)
def spec_StartOf.l1 : Nat → List Int → Int → Int → List (S106) → List (S106) → Int → List Int → List (S114) → List Int → Option (List Int × (List (List Int)) × Bool)
 | 0, _, _, _, _, _, _, _, _, _ => none
 | k + 1, x2, x10, x877000, x877001, x877002, x877003, x877004, x877005, x883000 => if x10 < (x2.length : Int) then (if 0 ≤ x10 then (if x10 < (x877002.length : Int) then ((spec_l1In.f (rd x2 x10) 0 ((rd_T106 x877002 x10).f0)).bind fun t895 => (if t895 = true then (if x883000.length < 17592186044416 then (spec_StartOf.l1 k x2 (wrap64 (x10 + 1)) x877000 x877001 x877002 x877003 x877004 x877005 (x883000 ++ [rd x2 x10])) else (none)) else (some (([] : List Int), ([] : List (List Int)), false)))) else (none)) else (none)) else (if 0 ≤ x877003 then (if x883000.length + (x877003 : Int).toNat < 17592186044416 then (spec_StartOf.l2 k 0 x877000 x877001 x877002 x877003 x877004 x877005 (x883000 ++ List.replicate (x877003 : Int).toNat 0) ([] : List (List Int))) else (none)) else (none))
def spec_StartOf.l2 : Nat → Int → Int → List (S106) → List (S106) → Int → List Int → List (S114) → List Int → List (List Int) → Option (List Int × (List (List Int)) × Bool)
 | 0, _, _, _, _, _, _, _, _, _ => none
 | k + 1, x11, x877000, x877001, x877002, x877003, x877004, x877005, x883000, x883001 => if x11 < (x877004.length : Int) then (if 0 ≤ x11 then (if 0 ≤ (rd x877004 x11) then (if (rd x877004 x11 : Int).toNat ≤ 35184372088832 then (if x883001.length < 5864062014805 then (spec_StartOf.l2 k (wrap64 (x11 + 1)) x877000 x877001 x877002 x877003 x877004 x877005 x883000 (x883001 ++ [(List.replicate (rd x877004 x11 : Int).toNat 0)])) else (none)) else (none)) else (none)) else (none)) else (some (x883000, x883001, true))
end
def spec_StartOf.f (k : Nat) (a0_0 : Int) (l0_1 : List (S106)) (l0_2 : List (S106)) (a0_3 : Int) (l0_4 : List Int) (l0_5 : List (S114)) (l1 : List Int) (l2 : List Int) : Option (List Int × (List (List Int)) × Bool) := (spec_ProgOk.f k a0_0 l0_1 l0_2 a0_3 l0_4 l0_5).bind fun t879 => (if t879 = true then (if (l1.length : Int) = (l0_1.length : Int) then (spec_StartOf.j0 k l1 l2 ((l2.length : Int) != (l0_2.length : Int)) a0_0 l0_1 l0_2 a0_3 l0_4 l0_5) else (spec_StartOf.j0 k l1 l2 true a0_0 l0_1 l0_2 a0_3 l0_4 l0_5)) else (spec_StartOf.j0 k l1 l2 true a0_0 l0_1 l0_2 a0_3 l0_4 l0_5))
def spec_StartOf.T7 : Bool × List (List Nat × List Nat) := (true, [([], []), ([], []), ([0, 1], [0, 1]), ([2], [2]), ([], []), ([4], [4]), ([], []), ([5, 6], [5, 6]), ([7], [7]), ([8], [8]), ([3, 9], [3, 9]), ([10], [10])])
def spec_StartOf.B7 : List Nat := [0, 0, 3, 7, 0, 16, 0, 112, 240, 496, 1023, 2047]
theorem spec_StartOf.tab7 : rtab .any (opsOf Try.f29 7) = spec_StartOf.T7 := by kernel_rfl
theorem spec_StartOf.bits7 : waitsOk spec_StartOf.T7.2 spec_StartOf.B7 = true := by kernel_rfl
def spec_StartOf.T9 : Bool × List (List Nat × List Nat) := (true, [([], []), ([0], [0]), ([], []), ([], []), ([2, 3], [2, 3]), ([4], [4]), ([5], [5]), ([1, 6], [1, 6]), ([0, 1, 2, 3, 4, 5, 6, 7], []), ([8, 7, 7, 0, 1, 2, 3, 4, 5, 6, 7], [7, 8])])
def spec_StartOf.B9 : List Nat := [0, 1, 0, 0, 12, 28, 60, 127, 255, 511]
theorem spec_StartOf.tab9 : rtab .any (opsOf Try.f29 9) = spec_StartOf.T9 := by kernel_rfl
theorem spec_StartOf.bits9 : waitsOk spec_StartOf.T9.2 spec_StartOf.B9 = true := by kernel_rfl
def spec_StartOf.T13 : Bool × List (List Nat × List Nat) := (true, [([], []), ([], []), ([0, 1], [0, 1]), ([2], [2]), ([], []), ([4], [4]), ([], []), ([5, 6], [5, 6]), ([7], [7]), ([8], [8]), ([3, 9], [3, 9]), ([10], [10])])
def spec_StartOf.B13 : List Nat := [0, 0, 3, 7, 0, 16, 0, 112, 240, 496, 1023, 2047]
theorem spec_StartOf.tab13 : rtab .any (opsOf Try.f29 13) = spec_StartOf.T13 := by kernel_rfl
theorem spec_StartOf.bits13 : waitsOk spec_StartOf.T13.2 spec_StartOf.B13 = true := by kernel_rfl
def spec_StartOf.T15 : Bool × List (List Nat × List Nat) := (true, [([], []), ([0], [0]), ([], []), ([], []), ([2, 3], [2, 3]), ([4], [4]), ([5], [5]), ([1, 6], [1, 6]), ([0, 1, 2, 3, 4, 5, 6, 7], []), ([8, 7, 7, 0, 1, 2, 3, 4, 5, 6, 7], [7, 8])])
def spec_StartOf.B15 : List Nat := [0, 1, 0, 0, 12, 28, 60, 127, 255, 511]
theorem spec_StartOf.tab15 : rtab .any (opsOf Try.f29 15) = spec_StartOf.T15 := by kernel_rfl
theorem spec_StartOf.bits15 : waitsOk spec_StartOf.T15.2 spec_StartOf.B15 = true := by kernel_rfl
def spec_StartOf.T20 : Bool × List (List Nat × List Nat) := (true, [([], []), ([0], [0]), ([], []), ([2], [2]), ([], []), ([3, 4], [3, 4]), ([5], [5]), ([6, 6], [6]), ([7], [7]), ([1, 8], [1, 8]), ([0, 1, 2, 3, 4, 5, 6, 7, 8, 9], []), ([10, 9, 9, 0, 1, 2, 3, 4, 5, 6, 7, 8, 9], [9, 10])])
def spec_StartOf.B20 : List Nat := [0, 1, 0, 4, 0, 28, 60, 124, 252, 511, 1023, 2047]
theorem spec_StartOf.tab20 : rtab .any (opsOf Try.f29 20) = spec_StartOf.T20 := by kernel_rfl
theorem spec_StartOf.bits20 : waitsOk spec_StartOf.T20.2 spec_StartOf.B20 = true := by kernel_rfl
theorem τ77 {P : Prop} (h : P := by
 have H' := Aside0.mk H
 clear H
 have hnb1_ := NB10_11.out
 have hnc1_ := NB11_10.out
 obtain ⟨hczB10_0, hczB10_1, hczB10_2, hczB10_3, hczB10_4, hczB10_5, hfzB10_0, hfzB10_1, hfzB10_2, hfzB10_3, hfzB10_4, hfzB10_5⟩ := cells6 BK10.out
 go_wp2_with (first | ((with_reducible refine gate_callee (f := 67) rfl ?_); refine gL 13 Try.func67 #[.agg #[.int .i64 a0_0, .slice A0_1 l0_1.length c0_1, .slice A0_2 l0_2.length c0_2, .int .i64 a0_3, .slice A0_4 l0_4.length c0_4, .slice A0_5 l0_5.length c0_5]] ?_; (with_reducible refine (spec_ProgOk.calls k a0_0 _ _ l0_1 _ _ l0_2 a0_3 _ _ l0_4 _ _ l0_5 _ _ ?_ ?_ ?_ ?_ ?_ ?_ ?_ ?_ A7.out).mono ?_); exact ψ9; exact HC0_1.out; exact ψ3; exact HC0_2.out; exact ψ16; exact HC0_4.out; exact ψ17; exact HC0_5.out; rintro e w1_ ⟨rfl, hb⟩; refine ⟨_, rfl, ?_⟩; have q := n3_ (blk_below (g := gb10) ψ10 hb) (blk_below (g := gb11) ψ24 hb) (below_step ψ36 hb); clear BK10 BK11 HB; obtain ⟨BK10, BK11, HB⟩ := q; (try clear hb); (try (obtain ⟨hczB10_0, hczB10_1, hczB10_2, hczB10_3, hczB10_4, hczB10_5, hfzB10_0, hfzB10_1, hfzB10_2, hfzB10_3, hfzB10_4, hfzB10_5⟩ := cells6 BK10.out))))
 first | (go_meet; (case rel => exact ⟨_, (((l2.length : Int) != (l0_2.length : Int))), ψ7, H', ⟨ψ19⟩, ⟨ψ10⟩, ⟨ψ24⟩, ⟨ψ36⟩⟩)) | (go_meet; (case rel => exact ⟨_, (true), ψ7, H', ⟨ψ19⟩, ⟨ψ10⟩, ⟨ψ24⟩, ⟨ψ36⟩⟩))) : P := h
theorem spec_StartOf.calls (k : Nat) (a0_0 : Int) (A0_1 : Option Addr) (c0_1 : Nat) (l0_1 : List (S106)) (A0_2 : Option Addr) (c0_2 : Nat) (l0_2 : List (S106)) (a0_3 : Int) (A0_4 : Option Addr) (c0_4 : Nat) (l0_4 : List Int) (A0_5 : Option Addr) (c0_5 : Nat) (l0_5 : List (S114)) (A1 : Option Addr) (c1 : Nat) (l1 : List Int) (A2 : Option Addr) (c2 : Nat) (l2 : List Int) (r1 : List Int) (r2 : List (List Int)) (r3 : Bool) (w : World) (hr0_1 : Kd.C k106 w A0_1 l0_1.length l0_1) (hc0_1 : l0_1.length ≤ c0_1) (hr0_2 : Kd.C k106 w A0_2 l0_2.length l0_2) (hc0_2 : l0_2.length ≤ c0_2) (hr0_4 : Kd.C (Kd.int .i64) w A0_4 l0_4.length l0_4) (hc0_4 : l0_4.length ≤ c0_4) (hr0_5 : Kd.C k114 w A0_5 l0_5.length l0_5) (hc0_5 : l0_5.length ≤ c0_5) (hr1 : Kd.C (Kd.int .i64) w A1 l1.length l1) (hc1 : l1.length ≤ c1) (hr2 : Kd.C (Kd.int .i64) w A2 l2.length l2) (hc2 : l2.length ≤ c2) (h : spec_StartOf.f k a0_0 l0_1 l0_2 a0_3 l0_4 l0_5 l1 l2 = some (r1, r2, r3)) :
 Calls Try.prog 29 #[.agg #[.int .i64 a0_0, .slice A0_1 l0_1.length c0_1, .slice A0_2 l0_2.length c0_2, .int .i64 a0_3, .slice A0_4 l0_4.length c0_4, .slice A0_5 l0_5.length c0_5], .slice A1 l1.length c1, .slice A2 l2.length c2] w fun e w' => ∃ v0_ v1_ : Value, e = .returned (.tuple #[.agg #[v0_, v1_], .bool r3]) ∧ Kd.R (Kd.int .i64) 2 w' w.heap.size (fun _ => True) v0_ r1 ∧ Kd.S (Kd.slice 2 (Kd.int .i64)) 23 w' w.heap.size (fun k_ => some k_ ≠ (v0_ : Value).ownBlock) v1_ r2 ∧ Below w.heap.size w w' := by
 have hu36 := Try.underlying36
 have hu38 := Try.underlying38
 have q := n12_ hr0_1 hc0_1 hr0_2 hc0_2 hr0_4 hc0_4 hr0_5 hc0_5 hr1 hc1 hr2 hc2
 clear hr0_1 hc0_1 hr0_2 hc0_2 hr0_4 hc0_4 hr0_5 hc0_5 hr1 hc1 hr2 hc2
 obtain ⟨HR0_1, HC0_1, HR0_2, HC0_2, HR0_4, HC0_4, HR0_5, HC0_5, HR1, HC1, HR2, HC2⟩ := q
 have HB := Aside0.mk (Below.refl w.heap.size w)
 unfold spec_StartOf.f at h
 have H := h
 clear h
 have HC4 := Aside0.mk H
 clear H
 go_enter Try.func29, Try.ntmps29
 go_upto_region 1 with (first | ((with_reducible refine gate_dst (N := 3) rfl ?_); (try (refine gate_guard ψ14 ?_; dsimp only)); refine bE 3 #[.int .i64 a0_0, .slice A0_1 l0_1.length c0_1, .slice A0_2 l0_2.length c0_2, .int .i64 a0_3, .slice A0_4 l0_4.length c0_4, .slice A0_5 l0_5.length c0_5] 36 ?_; intro gb10 hg w5 hbox hb; have q := n4_ (below_step ψ36 hb) (hbox) ((ψ119 : w.heap.size ≤ gb10)) ((ψ119 : w.heap.size ≤ gb10)); clear HB; obtain ⟨HB, BK10, GW10, GE10⟩ := q; clear hb hbox hg) | ((with_reducible refine gate_dst (N := 6) rfl ?_); (try (refine gate_guard ψ14 ?_; dsimp only)); refine bE 6 #[.slice none 0 0, .slice none 0 0] 38 ?_; intro gb11 hg w6 hbox hb; have q := n7_ (blk_below (g := gb10) ψ10 hb) (below_step ψ36 hb) (hbox) ((ψ119 : w.heap.size ≤ gb11)) ((ψ119 : w.heap.size ≤ gb11)) ((ψ116 : gb10 ≠ gb11)) ((ψ117 : gb11 ≠ gb10)); clear BK10 HB; obtain ⟨BK10, HB, BK11, GW11, GE11, NB10_11, NB11_10⟩ := q; clear hb hbox hg))
 (try simp only [Act.put, List.setIfInBounds_toArray, List.set_cons_zero, List.set_cons_succ])
 go_cut [30] (fun v30 wc => ∃ (kq : Nat) (x30_3 : Bool), v30 = .bool x30_3 ∧ Aside0 (spec_StartOf.j0 kq l1 l2 x30_3 a0_0 l0_1 l0_2 a0_3 l0_4 l0_5 = some (r1, r2, r3)) ∧ Aside0 (kq ≤ k) ∧ Aside0 (wc.heap[gb10]? = some (.cells #[.int .i64 a0_0, (.slice A0_1 l0_1.length c0_1), (.slice A0_2 l0_2.length c0_2), .int .i64 a0_3, (.slice A0_4 l0_4.length c0_4), (.slice A0_5 l0_5.length c0_5)] 36 (0, 0))) ∧ Aside0 (wc.heap[gb11]? = some (.cells #[(.slice none 0 0), (.slice none 0 0)] 38 (0, 0))) ∧ Aside0 (Below w.heap.size w wc))
 case first =>
  have H := HC4.out
  clear HC4
  replace H := bS H; obtain ⟨t879, A7, H⟩ := H
  replace H := ifB H; rcases H with ⟨rfl, H⟩ | ⟨rfl, H⟩
  ·by_cases c9 : (l1.length : Int) = (l0_1.length : Int)
   ·rw [if_pos c9] at H
    have c9b0 : ((l1.length : Int) == (l0_1.length : Int)) = true := beq_iff_eq.mpr c9
    have c9b1 : ((l1.length : Int) != (l0_1.length : Int)) = false := bne_eq_false_iff_eq.mpr c9
    have c9b2 : (l1.length == l0_1.length) = true := by first | simpa using c9 | (simp at c9 ⊢; omega)
    clear c9
    (first | rw [c9b0] | rw [c9b1] | (simp only [i64_w, i32_w]; rw [c9b0]) | skip)
    exact τ77
   ·rw [if_neg c9] at H
    have c9b0 : ((l1.length : Int) == (l0_1.length : Int)) = false := beq_eq_false_iff_ne.mpr c9
    have c9b1 : ((l1.length : Int) != (l0_1.length : Int)) = true := bne_iff_ne.mpr c9
    have c9b2 : (l1.length == l0_1.length) = false := by first | simpa using c9 | (simp at c9 ⊢; omega)
    (first | rw [c9b0] | rw [c9b1] | (simp only [i64_w, i32_w]; rw [c9b0]) | skip)
    exact τ77
  ·exact τ77
 case rest =>
  clear HC4
  try clear c1
  try clear c2
  try clear c8
  try clear c9
  try clear c9b0
  try clear c9b1
  try clear c9b2
  try clear y11_0 y11_1 y11_2 y11_3 y11_4 y11_5
  try clear y13_0 y13_1 y13_2 y13_3 y13_4 y13_5
  try clear y15_0 y15_1 y15_2 y15_3 y15_4 y15_5
  try clear y17_0 y17_1 y17_2 y17_3 y17_4 y17_5
  try clear y19_0 y19_1 y19_2 y19_3 y19_4 y19_5
  try clear u11_0 u11_1 u11_2 u11_3 u11_4 u11_5
  try clear u13_0 u13_1 u13_2 u13_3 u13_4 u13_5
  try clear u15_0 u15_1 u15_2 u15_3 u15_4 u15_5
  try clear u17_0 u17_1 u17_2 u17_3 u17_4 u17_5
  try clear u19_0 u19_1 u19_2 u19_3 u19_4 u19_5
  obtain ⟨kq, x30_3, rfl, HA, HJ3, BK10, BK11, HB⟩ := hcut
  cases kq with
  | zero => exact absurd HA.out (by simp [spec_StartOf.j0])
  | succ kj3 =>
   have H := HA.out
   clear HA
   simp only [spec_StartOf.j0] at H
   replace H := ifB H; rcases H with ⟨rfl, H⟩ | ⟨rfl, H⟩
   ·simp only [Option.some.injEq, Prod.mk.injEq] at H
    obtain ⟨rfl, rfl, rfl⟩ := H
    have hnb22 := NB11_10.out
    have hnc22 := NB10_11.out
    obtain ⟨y23_0, y23_1, u23_0, u23_1⟩ := cells2 BK11.out
    go_wp2
    refine bodyPost_ret (results_ct rfl _ _ gb11 38 #[.slice none 0 0, .slice none 0 0] (0, 0) _ rfl ψ104 Try.underlying38 rfl ψ12) rfl ?_
    exact ⟨_, _, ψ4, ψ69, ψ102, ψ36⟩
   ·have H' := Aside0.mk H
    clear H
    go_wp2_with (first | ((with_reducible refine gate_dst (N := 8) rfl ?_); (try (refine gate_guard ψ14 ?_; dsimp only)); refine bE 8 #[.slice none 0 0, .slice none 0 0] 38 ?_; intro gb12 hg w24 hbox hb; have q := n10_ (blk_below (g := gb10) ψ10 hb) (blk_below (g := gb11) ψ24 hb) (below_step ψ36 hb) (hbox) ((ψ119 : w.heap.size ≤ gb12)) ((ψ119 : w.heap.size ≤ gb12)) ((ψ116 : gb10 ≠ gb12)) ((ψ117 : gb12 ≠ gb10)) ((ψ120 : gb11 ≠ gb12)) ((ψ121 : gb12 ≠ gb11)); clear BK10 BK11 HB; obtain ⟨BK10, BK11, HB, BK12, GW12, GE12, NB10_12, NB12_10, NB11_12, NB12_11⟩ := q; clear hb hbox hg; have hnb25 := NB12_10.out; have hnc25 := NB10_12.out; have hnb26 := NB12_11.out; have hnc26 := NB11_12.out; obtain ⟨y27_0, y27_1, u27_0, u27_1⟩ := cells2 BK12.out))
    go_loopg [9] kj3 (fun kq v9 w' => ∃ (x9_2 : Int) (x883000_2 : List Int) (u883000 : Value), v9 = .int .i64 x9_2 ∧ Aside0 (spec_StartOf.l0 kq l1 l2 x9_2 a0_0 l0_1 l0_2 a0_3 l0_4 l0_5 x883000_2 = some (r1, r2, r3)) ∧ Aside0 (kq ≤ kj3) ∧ Aside0 (Kd.R (Kd.int .i64) 2 w' w.heap.size (fun _ => True) u883000 x883000_2) ∧ Aside0 (w'.heap[gb10]? = some (.cells #[.int .i64 a0_0, (.slice A0_1 l0_1.length c0_1), (.slice A0_2 l0_2.length c0_2), .int .i64 a0_3, (.slice A0_4 l0_4.length c0_4), (.slice A0_5 l0_5.length c0_5)] 36 (0, 0))) ∧ Aside0 (w'.heap[gb11]? = some (.cells #[(.slice none 0 0), (.slice none 0 0)] 38 (0, 0))) ∧ Aside0 (w'.heap[gb12]? = some (.cells #[u883000, (.slice none 0 0)] 38 (0, 0))) ∧ Aside0 (Below w.heap.size w w'))
    case atStart => exact ⟨(0), (([] : List Int)), (.slice none 0 0), ψ7, H', ⟨Nat.le_refl _⟩, ⟨ψ69⟩, ⟨ψ39⟩, ⟨ψ40⟩, ⟨by (with_reducible repeat (first | refine blk_drewN ?_ _ | refine blk_drew ?_ | refine blk_alloc ?_ _)); refine blk_put (cs := #[.slice none 0 0, .slice none 0 0]) ?_ 1 _ rfl; (with_reducible repeat (first | refine blk_drewN ?_ _ | refine blk_drew ?_ | refine blk_alloc ?_ _)); refine blk_put (cs := #[.slice none 0 0, .slice none 0 0]) ?_ 0 _ rfl; (with_reducible repeat (first | refine blk_drewN ?_ _ | refine blk_drew ?_ | refine blk_alloc ?_ _)); exact BK12.out⟩, ⟨ψ36⟩⟩
    case round =>
     clear H'
     try clear c1
     try clear c2
     try clear c8
     try clear c9
     try clear c9b0
     try clear c9b1
     try clear c9b2
     try clear c21
     try clear y11_0 y11_1 y11_2 y11_3 y11_4 y11_5
     try clear y13_0 y13_1 y13_2 y13_3 y13_4 y13_5
     try clear y15_0 y15_1 y15_2 y15_3 y15_4 y15_5
     try clear y17_0 y17_1 y17_2 y17_3 y17_4 y17_5
     try clear y19_0 y19_1 y19_2 y19_3 y19_4 y19_5
     try clear y23_0 y23_1
     try clear y27_0 y27_1
     try clear u11_0 u11_1 u11_2 u11_3 u11_4 u11_5
     try clear u13_0 u13_1 u13_2 u13_3 u13_4 u13_5
     try clear u15_0 u15_1 u15_2 u15_3 u15_4 u15_5
     try clear u17_0 u17_1 u17_2 u17_3 u17_4 u17_5
     try clear u19_0 u19_1 u19_2 u19_3 u19_4 u19_5
     try clear u23_0 u23_1
     try clear u27_0 u27_1
     obtain ⟨x9_2, x883000_2, u883000, rfl, HA, HK2, HO_883000, BK10, BK11, BK12, HB⟩ := hrel
     cases gk with
     | zero => exact absurd HA.out (by simp [spec_StartOf.l0])
     | succ k2 =>
      have H := HA.out
      clear HA
      simp only [spec_StartOf.l0] at H
      replace H := ifD H; rcases H with ⟨c28b0, H⟩ | ⟨c28b0, H⟩
      ·replace H := ifN H; obtain ⟨c29b0, H⟩ := H
       replace H := ifN H; obtain ⟨c30b0, H⟩ := H
       replace H := bS H; obtain ⟨t886, A31, H⟩ := H
       replace H := ifB H; rcases H with ⟨rfl, H⟩ | ⟨rfl, H⟩
       ·by_cases c33 : x883000_2.length < 17592186044416
        ·rw [if_pos c33] at H
         have LMc33 := Aside0.mk c33
         clear c33
         obtain ⟨y889, hy889⟩ : ∃ y_ : List Int, y_ = (x883000_2 ++ [rd l1 x9_2]) := ⟨_, rfl⟩
         replace H : (spec_StartOf.l0 k2 l1 l2 (wrap64 (x9_2 + 1)) a0_0 l0_1 l0_2 a0_3 l0_4 l0_5 y889) = some (r1, r2, r3) := by first | (rw [hy889]; with_reducible exact H) | (have H2_ := (Option.bind_some _ _).symm.trans H; rw [hy889]; with_reducible exact H2_) | (have H2_ := (Option.bind_some _ _).symm.trans H; with_reducible exact H2_) | with_reducible exact H | (rw [hy889]; exact H) | exact H
         have Ny889 := Aside0.mk hy889
         clear hy889
         have H' := Aside0.mk H
         clear H
         try go_wp2
         have q := n5_ (Kd.R_drew HO_883000.out) (blk_drew BK10.out) (blk_drew BK11.out) (blk_drew BK12.out) (below_drew1 HB.out)
         clear HO_883000 BK10 BK11 BK12 HB
         obtain ⟨HO_883000, BK10, BK11, BK12, HB⟩ := q
         have p883 : 0 ≤ (x9_2 : Int) := of_decide_eq_true ψ5
         have q883 : x9_2 < (l1.length : Int) := of_decide_eq_true ψ5
         obtain ⟨ad883, e883, hx883_0⟩ := Kd.at_int HR1.out x9_2 p883 q883
         have hw883_0 := hx883_0
         cases e883
         replace hx883_0 := cB HB hx883_0
         replace p883 := eq_true p883
         replace q883 := eq_true q883
         have p885 : 0 ≤ (x9_2 : Int) := of_decide_eq_true ψ5
         have q885 : x9_2 < (l0_1.length : Int) := of_decide_eq_true ψ5
         obtain ⟨ad885, e885, hx885_0, hx885_1⟩ := at_T106 HR0_1.out x9_2 p885 q885
         have hw885_1 := hx885_1
         have hw885_0 := hx885_0
         cases e885
         replace hx885_0 := cB HB hx885_0
         replace hx885_1 := cB HB hx885_1
         replace p885 := eq_true p885
         replace q885 := eq_true q885
         refine start_ (n := 12) (S := fun w' => w'.cell? ⟨gb10, 0, none⟩ = some (.int .i64 a0_0) ∧ w'.cell? ⟨gb10, 1, none⟩ = some (.slice (some ad885) l0_1.length c0_1) ∧ w'.cell? ⟨gb10, 2, none⟩ = some (.slice A0_2 l0_2.length c0_2) ∧ w'.cell? ⟨gb10, 3, none⟩ = some (.int .i64 a0_3) ∧ w'.cell? ⟨gb10, 4, none⟩ = some (.slice A0_4 l0_4.length c0_4) ∧ w'.cell? ⟨gb10, 5, none⟩ = some (.slice A0_5 l0_5.length c0_5) ∧ w'.cell? (ad883.add (x9_2).toNat) = some (.int .i64 (rd l1 x9_2)) ∧ w'.cell? (ad885.add ((x9_2).toNat * 2)) = some (.int .i64 ((rd_T106 l0_1 x9_2).f0)) ∧ w'.cell? ⟨(ad885.add ((x9_2).toNat * 2)).block, (ad885.add ((x9_2).toNat * 2)).off + 1, none⟩ = some (.int .i64 ((rd_T106 l0_1 x9_2).f1))) (ds := []) #[false, false, false, false, false, false, false, false, false, false, false, false] ψ12 rfl rfl ⟨(blk_cell BK10.out 0).trans rfl, (blk_cell BK10.out 1).trans rfl, (blk_cell BK10.out 2).trans rfl, (blk_cell BK10.out 3).trans rfl, (blk_cell BK10.out 4).trans rfl, (blk_cell BK10.out 5).trans rfl, ((HB.out.cell (World.block_lt_of_cell? w _ hw883_0)).trans hw883_0), ((HB.out.cell (World.block_lt_of_cell? w _ hw885_0)).trans hw885_0), ((HB.out.cell (World.block_lt_of_cell? w _ hw885_1)).trans hw885_1)⟩ (fun hHeld => ?_); refine with_tabW spec_StartOf.tab7 spec_StartOf.bits7 (fun HT_ HW_ => ?_)
         generalize wr.drew = w34 at HO_883000 BK10 BK11 BK12 HB hx883_0 hx885_0 hx885_1 hHeld ⊢
         refine rP 0 39 ?_; refine rP 1 40 ?_; refine rP 2 41 ?_; refine rP 4 43 ?_; refine rP 6 45 ?_; refine rT 3 42 ?_; refine rT 5 44 ?_; refine rP 7 46 ?_; refine rP 8 47 ?_; refine rT 9 48 ?_
         refine one_ (i := 10) (N := some 49) #[true, true, true, true, true, true, true, true, true, true, true, false] rfl rfl (one_of HT_.out ψ12) ψ13 (fun K hK => ?_)
         refine goes_ Try.func79 ψ12 rfl #[.int .i64 (rd l1 x9_2), .int .i64 0, .int .i64 ((rd_T106 l0_1 x9_2).f0)] ψ14 rfl rfl ψ15 ?_
         with_reducible refine (spec_l1In.calls (rd l1 x9_2) 0 ((rd_T106 l0_1 x9_2).f0) _ _ A31.out).mono ?_
         rintro e w' ⟨rfl, ⟨nd, rfl⟩⟩
         refine ⟨_, rfl, ?_⟩
         refine hK.out _ _ ⟨(blk_cell BK10.out 0).trans rfl, (blk_cell BK10.out 1).trans rfl, (blk_cell BK10.out 2).trans rfl, (blk_cell BK10.out 3).trans rfl, (blk_cell BK10.out 4).trans rfl, (blk_cell BK10.out 5).trans rfl, ((HB.out.cell (World.block_lt_of_cell? w _ hw883_0)).trans hw883_0), ((HB.out.cell (World.block_lt_of_cell? w _ hw885_0)).trans hw885_0), ((HB.out.cell (World.block_lt_of_cell? w _ hw885_1)).trans hw885_1)⟩ (fun hHeld => ?_)
         clear hK K
         refine rN 49 ?_; refine rP 11 50 ?_
         refine done_ (done_of HT_.out ψ12) ?_
         try go_wp2
         (try (rw [drewN_self w34]; generalize hq_ : World.drewN w34 _ = w34; have n0_ : Aside0 (Kd.R (Kd.int .i64) 2 w34 w.heap.size (fun _ => True) u883000 x883000_2) := ⟨by rw [← hq_]; exact (have hZ := HO_883000; kR_)⟩; have n1_ : Aside0 (w34.heap[gb10]? = some (.cells #[.int .i64 a0_0, .slice (some ad885) l0_1.length c0_1, .slice A0_2 l0_2.length c0_2, .int .i64 a0_3, .slice A0_4 l0_4.length c0_4, .slice A0_5 l0_5.length c0_5] 36 (0, 0))) := ⟨ψ175⟩; have n2_ : Aside0 (w34.heap[gb11]? = some (.cells #[.slice none 0 0, .slice none 0 0] 38 (0, 0))) := ⟨ψ176⟩; have n3_ : Aside0 (w34.heap[gb12]? = some (.cells #[u883000, .slice none 0 0] 38 (0, 0))) := ⟨by rw [← hq_]; exact ψ45⟩; have n4_ : Aside0 (Below w.heap.size w w34) := ⟨by rw [← hq_]; exact ψ36⟩; clear HO_883000 BK10 BK11 BK12 HB hq_; have HO_883000 := n0_; have BK10 := n1_; have BK11 := n2_; have BK12 := n3_; have HB := n4_; clear n0_ n1_ n2_ n3_ n4_; obtain ⟨y9876_0, y9876_1, y9876_2, y9876_3, y9876_4, y9876_5, u9876_0, u9876_1, u9876_2, u9876_3, u9876_4, u9876_5⟩ := cells6 BK10.out; obtain ⟨y9877_0, y9877_1, u9877_0, u9877_1⟩ := cells2 BK11.out; obtain ⟨y9882_0, y9882_1, u9882_0, u9882_1⟩ := cells2 BK12.out))
         have q := n5_ (Kd.R_drew HO_883000.out) (blk_drew BK10.out) (blk_drew BK11.out) (blk_drew BK12.out) (below_drew1 HB.out)
         clear HO_883000 BK10 BK11 BK12 HB
         obtain ⟨HO_883000, BK10, BK11, BK12, HB⟩ := q
         have p888 : 0 ≤ (x9_2 : Int) := of_decide_eq_true ψ5
         have q888 : x9_2 < (l1.length : Int) := of_decide_eq_true ψ5
         obtain ⟨ad888, e888, hx888_0⟩ := Kd.at_int HR1.out x9_2 p888 q888
         have hw888_0 := hx888_0
         obtain rfl : ad883 = ad888 := (by injection e888)
         replace hx888_0 := cB HB hx888_0
         replace p888 := eq_true p888
         replace q888 := eq_true q888
         refine start_ (n := 10) (S := fun w' => w'.cell? ⟨gb12, 0, none⟩ = some (u883000) ∧ w'.cell? ⟨gb12, 1, none⟩ = some (.slice none 0 0) ∧ w'.cell? (ad883.add (x9_2).toNat) = some (.int .i64 (rd l1 x9_2))) (ds := [9]) #[false, false, false, false, false, false, false, false, false, false] ψ12 rfl rfl ⟨(blk_cell BK12.out 0).trans rfl, (blk_cell BK12.out 1).trans rfl, ((HB.out.cell (World.block_lt_of_cell? w _ hw888_0)).trans hw888_0)⟩ (fun hHeld => ?_); refine with_tabW spec_StartOf.tab9 spec_StartOf.bits9 (fun HT_ HW_ => ?_)
         generalize w34.drew = w35 at HO_883000 BK10 BK11 BK12 HB hx888_0 hHeld ⊢
         refine rP 0 52 ?_; refine rP 2 54 ?_; refine rP 3 55 ?_; refine rP 4 56 ?_; refine rT 1 53 ?_; refine rT 5 57 ?_
         refine one_ (i := 6) (N := some 58) #[true, true, true, true, true, true, true, false, false, false] rfl rfl (one_of HT_.out ψ12) ψ13 (fun K hK => ?_)
         refine value_ (w1 := ?_) (v := ?_) ψ14 rfl ?_ ?_
         rotate_left 2
         ·go_simp
          constructor
          ·rfl
          ·rfl
         refine hK.out _ _ ⟨(blk_cell (blk_alloc BK12.out _) 0).trans rfl, (blk_cell (blk_alloc BK12.out _) 1).trans rfl, (World.cell?_alloc_lt _ _ _ (World.block_lt_of_cell? _ _ (((HB.out.cell (World.block_lt_of_cell? w _ hw888_0)).trans hw888_0)))).trans (((HB.out.cell (World.block_lt_of_cell? w _ hw888_0)).trans hw888_0))⟩ (fun hHeld => ?_)
         clear hK K
         refine rN 58 ?_
         refine one_ (i := 7) (N := some 59) #[true, true, true, true, true, true, true, true, false, false] rfl rfl (one_of HT_.out ψ12) ψ13 (fun K hK => ?_)
         refine Kd.R_append_step (Kd.int .i64) (w0 := w) w.heap.size ψ14 (.tmp 53) (.tmp 58) 23 2 (.int .i64 0) 8 rfl Try.underlying23 info2 rfl ψ13 ψ21 u883000 x883000_2 (rd l1 x9_2) [.int .i64 (rd l1 x9_2)] (fun _ => True) (fun _ => False) rfl rfl ?aP (fun _ hk => hk.elim) ?aF ?aO ?aB ?aS ?aL ?_
         (case aP => exact rfl)
         (case aB => exact ψ36)
         (case aF => exact (fun _ _ => trivial))
         (case aO => exact (have hZ := HO_883000; kR_))
         (case aS => exact (below_size ψ36))
         (case aL => have := LMc33.out; omega)
         intro v890 w36 ho hb hg hat
         rw [← Ny889.out] at ho
         have q := n5_ (blk_grown (g := gb10) ψ10 hg (Kd.R_ne HO_883000.out BK10.out ψ13)) (blk_grown (g := gb11) ψ24 hg (Kd.R_ne HO_883000.out BK11.out ψ13)) (blk_grown (g := gb12) ψ45 hg (Kd.R_ne HO_883000.out BK12.out ψ13)) (hb) (ho)
         clear BK10 BK11 BK12 HB HO_883000
         obtain ⟨BK10, BK11, BK12, HB, HO891⟩ := q
         clear ho hb hg hat
         obtain ⟨Ao37, co37, eo37⟩ := Kd.R_slice HO891.out
         (first | subst eo37 | (injection eo37 with f1_ f2_ f3_; have f4_ := f1_.symm; have f5_ := f3_.symm; clear f1_ f2_ f3_; subst f4_; subst f5_))
         refine hK.out _ _ ⟨(blk_cell BK12.out 0).trans rfl, (blk_cell BK12.out 1).trans rfl, ((HB.out.cell (World.block_lt_of_cell? w _ hw888_0)).trans hw888_0)⟩ (fun hHeld => ?_)
         clear hK K
         refine rN 59 ?_; refine rP 8 60 ?_
         refine last_ (i := 9) (N := none) #[true, true, true, true, true, true, true, true, true, true] rfl rfl (one_of HT_.out ψ12) ψ13 (fun K hK => ?_)
         have hs38 : w36.cell? ⟨gb12, 0, none⟩ = some (u883000) := (blk_cell BK12.out 0).trans rfl
         have hfs38 := blk_frozen BK12.out 0
         have hns38_0 := NB10_12.out
         have hns38_1 := NB11_12.out
         have hms38_0 := NB12_10.out
         have hms38_1 := NB12_11.out
         refine skip_ (w1 := ?_) ψ14 rfl ?_ ?_
         rotate_left
         ·go_simp
          rfl
         refine hK.out _ _ ?_
         clear hK K
         refine done_ (done_of HT_.out ψ12) ?_
         try go_wp2
         go_roundg k2
         case measure => have := HJ3.out; have := HK2.out; omega
         case rel => exact ⟨(wrap64 (x9_2 + 1)), (y889), (.slice Ao37 y889.length co37), ψ7, H', ⟨by have := HJ3.out; have := HK2.out; omega⟩, ⟨by (with_reducible repeat (first | apply Kd.R_alloc | apply Kd.R_drewN | apply Kd.R_drew)); exact Kd.R_mono (Kd.R_far (p := ⟨gb12, 0, none⟩) (Kd.R_types HO891.out BK12.out ψ13) (fun _ hk => hk.2) (.slice Ao37 y889.length co37)) (fun _ hk => trivial)⟩, ⟨ψ41⟩, ⟨ψ42⟩, ⟨ψ105⟩, ⟨ψ36⟩⟩
        ·rw [if_neg c33] at H
         exact absurd H ψ22
       ·simp only [Option.some.injEq, Prod.mk.injEq] at H
        obtain ⟨rfl, rfl, rfl⟩ := H
        try go_wp2
        have q := n5_ (Kd.R_drew HO_883000.out) (blk_drew BK10.out) (blk_drew BK11.out) (blk_drew BK12.out) (below_drew1 HB.out)
        clear HO_883000 BK10 BK11 BK12 HB
        obtain ⟨HO_883000, BK10, BK11, BK12, HB⟩ := q
        have p883 : 0 ≤ (x9_2 : Int) := of_decide_eq_true ψ5
        have q883 : x9_2 < (l1.length : Int) := of_decide_eq_true ψ5
        obtain ⟨ad883, e883, hx883_0⟩ := Kd.at_int HR1.out x9_2 p883 q883
        have hw883_0 := hx883_0
        cases e883
        replace hx883_0 := cB HB hx883_0
        replace p883 := eq_true p883
        replace q883 := eq_true q883
        have p885 : 0 ≤ (x9_2 : Int) := of_decide_eq_true ψ5
        have q885 : x9_2 < (l0_1.length : Int) := of_decide_eq_true ψ5
        obtain ⟨ad885, e885, hx885_0, hx885_1⟩ := at_T106 HR0_1.out x9_2 p885 q885
        have hw885_1 := hx885_1
        have hw885_0 := hx885_0
        cases e885
        replace hx885_0 := cB HB hx885_0
        replace hx885_1 := cB HB hx885_1
        replace p885 := eq_true p885
        replace q885 := eq_true q885
        refine start_ (n := 12) (S := fun w' => w'.cell? ⟨gb10, 0, none⟩ = some (.int .i64 a0_0) ∧ w'.cell? ⟨gb10, 1, none⟩ = some (.slice (some ad885) l0_1.length c0_1) ∧ w'.cell? ⟨gb10, 2, none⟩ = some (.slice A0_2 l0_2.length c0_2) ∧ w'.cell? ⟨gb10, 3, none⟩ = some (.int .i64 a0_3) ∧ w'.cell? ⟨gb10, 4, none⟩ = some (.slice A0_4 l0_4.length c0_4) ∧ w'.cell? ⟨gb10, 5, none⟩ = some (.slice A0_5 l0_5.length c0_5) ∧ w'.cell? (ad883.add (x9_2).toNat) = some (.int .i64 (rd l1 x9_2)) ∧ w'.cell? (ad885.add ((x9_2).toNat * 2)) = some (.int .i64 ((rd_T106 l0_1 x9_2).f0)) ∧ w'.cell? ⟨(ad885.add ((x9_2).toNat * 2)).block, (ad885.add ((x9_2).toNat * 2)).off + 1, none⟩ = some (.int .i64 ((rd_T106 l0_1 x9_2).f1))) (ds := []) #[false, false, false, false, false, false, false, false, false, false, false, false] ψ12 rfl rfl ⟨(blk_cell BK10.out 0).trans rfl, (blk_cell BK10.out 1).trans rfl, (blk_cell BK10.out 2).trans rfl, (blk_cell BK10.out 3).trans rfl, (blk_cell BK10.out 4).trans rfl, (blk_cell BK10.out 5).trans rfl, ((HB.out.cell (World.block_lt_of_cell? w _ hw883_0)).trans hw883_0), ((HB.out.cell (World.block_lt_of_cell? w _ hw885_0)).trans hw885_0), ((HB.out.cell (World.block_lt_of_cell? w _ hw885_1)).trans hw885_1)⟩ (fun hHeld => ?_); refine with_tabW spec_StartOf.tab7 spec_StartOf.bits7 (fun HT_ HW_ => ?_)
        generalize wr.drew = w39 at HO_883000 BK10 BK11 BK12 HB hx883_0 hx885_0 hx885_1 hHeld ⊢
        refine rP 0 39 ?_; refine rP 1 40 ?_; refine rP 2 41 ?_; refine rP 4 43 ?_; refine rP 6 45 ?_; refine rT 3 42 ?_; refine rT 5 44 ?_; refine rP 7 46 ?_; refine rP 8 47 ?_; refine rT 9 48 ?_
        refine one_ (i := 10) (N := some 49) #[true, true, true, true, true, true, true, true, true, true, true, false] rfl rfl (one_of HT_.out ψ12) ψ13 (fun K hK => ?_)
        refine goes_ Try.func79 ψ12 rfl #[.int .i64 (rd l1 x9_2), .int .i64 0, .int .i64 ((rd_T106 l0_1 x9_2).f0)] ψ14 rfl rfl ψ15 ?_
        with_reducible refine (spec_l1In.calls (rd l1 x9_2) 0 ((rd_T106 l0_1 x9_2).f0) _ _ A31.out).mono ?_
        rintro e w' ⟨rfl, ⟨nd, rfl⟩⟩
        refine ⟨_, rfl, ?_⟩
        refine hK.out _ _ ⟨(blk_cell BK10.out 0).trans rfl, (blk_cell BK10.out 1).trans rfl, (blk_cell BK10.out 2).trans rfl, (blk_cell BK10.out 3).trans rfl, (blk_cell BK10.out 4).trans rfl, (blk_cell BK10.out 5).trans rfl, ((HB.out.cell (World.block_lt_of_cell? w _ hw883_0)).trans hw883_0), ((HB.out.cell (World.block_lt_of_cell? w _ hw885_0)).trans hw885_0), ((HB.out.cell (World.block_lt_of_cell? w _ hw885_1)).trans hw885_1)⟩ (fun hHeld => ?_)
        clear hK K
        refine rN 49 ?_; refine rP 11 50 ?_
        refine done_ (done_of HT_.out ψ12) ?_
        have hnb40 := NB11_10.out
        have hnc40 := NB10_11.out
        have hnb41 := NB11_12.out
        have hnc41 := NB12_11.out
        obtain ⟨y42_0, y42_1, u42_0, u42_1⟩ := cells2 BK11.out
        try go_wp2
        refine bodyPost_ret (results_ct rfl _ _ gb11 38 #[.slice none 0 0, .slice none 0 0] (0, 0) _ rfl ψ104 Try.underlying38 rfl ψ12) rfl ?_
        exact ⟨_, _, ψ4, ψ69, ψ102, ψ36⟩
      ·have H' := Aside0.mk H
       clear H
       go_wp2
       go_loopg [10] k2 (fun kq v10 w' => ∃ (x10_3 : Int) (x883000_3 : List Int) (u883000 : Value), v10 = .int .i64 x10_3 ∧ Aside0 (spec_StartOf.l1 kq l2 x10_3 a0_0 l0_1 l0_2 a0_3 l0_4 l0_5 x883000_3 = some (r1, r2, r3)) ∧ Aside0 (kq ≤ k2) ∧ Aside0 (Kd.R (Kd.int .i64) 2 w' w.heap.size (fun _ => True) u883000 x883000_3) ∧ Aside0 (w'.heap[gb10]? = some (.cells #[.int .i64 a0_0, (.slice A0_1 l0_1.length c0_1), (.slice A0_2 l0_2.length c0_2), .int .i64 a0_3, (.slice A0_4 l0_4.length c0_4), (.slice A0_5 l0_5.length c0_5)] 36 (0, 0))) ∧ Aside0 (w'.heap[gb11]? = some (.cells #[(.slice none 0 0), (.slice none 0 0)] 38 (0, 0))) ∧ Aside0 (w'.heap[gb12]? = some (.cells #[u883000, (.slice none 0 0)] 38 (0, 0))) ∧ Aside0 (Below w.heap.size w w'))
       case atStart => exact ⟨(0), (x883000_2), (u883000), ψ7, H', ⟨Nat.le_refl _⟩, ⟨have hZ := HO_883000; kR_⟩, ⟨ψ10⟩, ⟨ψ24⟩, ⟨ψ45⟩, ⟨ψ36⟩⟩
       case round =>
        clear H'
        try clear c1
        try clear c2
        try clear c8
        try clear c9
        try clear c9b0
        try clear c9b1
        try clear c9b2
        try clear c21
        try clear c28
        try clear c28b0
        try clear c29
        try clear c29b0
        try clear c30
        try clear c30b0
        try clear c32
        try clear c33
        try clear y11_0 y11_1 y11_2 y11_3 y11_4 y11_5
        try clear y13_0 y13_1 y13_2 y13_3 y13_4 y13_5
        try clear y15_0 y15_1 y15_2 y15_3 y15_4 y15_5
        try clear y17_0 y17_1 y17_2 y17_3 y17_4 y17_5
        try clear y19_0 y19_1 y19_2 y19_3 y19_4 y19_5
        try clear y23_0 y23_1
        try clear y27_0 y27_1
        try clear y42_0 y42_1
        try clear u11_0 u11_1 u11_2 u11_3 u11_4 u11_5
        try clear u13_0 u13_1 u13_2 u13_3 u13_4 u13_5
        try clear u15_0 u15_1 u15_2 u15_3 u15_4 u15_5
        try clear u17_0 u17_1 u17_2 u17_3 u17_4 u17_5
        try clear u19_0 u19_1 u19_2 u19_3 u19_4 u19_5
        try clear u23_0 u23_1
        try clear u27_0 u27_1
        try clear u42_0 u42_1
        try clear hx883_0
        try clear hx885_0
        try clear hx885_1
        try clear hx888_0
        try clear p883
        try clear p885
        try clear p888
        try clear q883
        try clear q885
        try clear q888
        obtain ⟨x10_3, x883000_3, u883000, rfl, HA, HK3, HO_883000, BK10, BK11, BK12, HB⟩ := hrel
        cases gk with
        | zero => exact absurd HA.out (by simp [spec_StartOf.l1])
        | succ k3 =>
         have H := HA.out
         clear HA
         simp only [spec_StartOf.l1] at H
         replace H := ifD H; rcases H with ⟨c43b0, H⟩ | ⟨c43b0, H⟩
         ·replace H := ifN H; obtain ⟨c44b0, H⟩ := H
          replace H := ifN H; obtain ⟨c45b0, H⟩ := H
          replace H := bS H; obtain ⟨t895, A46, H⟩ := H
          replace H := ifB H; rcases H with ⟨rfl, H⟩ | ⟨rfl, H⟩
          ·by_cases c48 : x883000_3.length < 17592186044416
           ·rw [if_pos c48] at H
            have LMc48 := Aside0.mk c48
            clear c48
            obtain ⟨y898, hy898⟩ : ∃ y_ : List Int, y_ = (x883000_3 ++ [rd l2 x10_3]) := ⟨_, rfl⟩
            replace H : (spec_StartOf.l1 k3 l2 (wrap64 (x10_3 + 1)) a0_0 l0_1 l0_2 a0_3 l0_4 l0_5 y898) = some (r1, r2, r3) := by first | (rw [hy898]; with_reducible exact H) | (have H2_ := (Option.bind_some _ _).symm.trans H; rw [hy898]; with_reducible exact H2_) | (have H2_ := (Option.bind_some _ _).symm.trans H; with_reducible exact H2_) | with_reducible exact H | (rw [hy898]; exact H) | exact H
            have Ny898 := Aside0.mk hy898
            clear hy898
            have H' := Aside0.mk H
            clear H
            try go_wp2
            have q := n5_ (Kd.R_drew HO_883000.out) (blk_drew BK10.out) (blk_drew BK11.out) (blk_drew BK12.out) (below_drew1 HB.out)
            clear HO_883000 BK10 BK11 BK12 HB
            obtain ⟨HO_883000, BK10, BK11, BK12, HB⟩ := q
            have p892 : 0 ≤ (x10_3 : Int) := of_decide_eq_true ψ5
            have q892 : x10_3 < (l2.length : Int) := of_decide_eq_true ψ5
            obtain ⟨ad892, e892, hx892_0⟩ := Kd.at_int HR2.out x10_3 p892 q892
            have hw892_0 := hx892_0
            cases e892
            replace hx892_0 := cB HB hx892_0
            replace p892 := eq_true p892
            replace q892 := eq_true q892
            have p894 : 0 ≤ (x10_3 : Int) := of_decide_eq_true ψ5
            have q894 : x10_3 < (l0_2.length : Int) := of_decide_eq_true ψ5
            obtain ⟨ad894, e894, hx894_0, hx894_1⟩ := at_T106 HR0_2.out x10_3 p894 q894
            have hw894_1 := hx894_1
            have hw894_0 := hx894_0
            cases e894
            replace hx894_0 := cB HB hx894_0
            replace hx894_1 := cB HB hx894_1
            replace p894 := eq_true p894
            replace q894 := eq_true q894
            refine start_ (n := 12) (S := fun w' => w'.cell? ⟨gb10, 0, none⟩ = some (.int .i64 a0_0) ∧ w'.cell? ⟨gb10, 1, none⟩ = some (.slice A0_1 l0_1.length c0_1) ∧ w'.cell? ⟨gb10, 2, none⟩ = some (.slice (some ad894) l0_2.length c0_2) ∧ w'.cell? ⟨gb10, 3, none⟩ = some (.int .i64 a0_3) ∧ w'.cell? ⟨gb10, 4, none⟩ = some (.slice A0_4 l0_4.length c0_4) ∧ w'.cell? ⟨gb10, 5, none⟩ = some (.slice A0_5 l0_5.length c0_5) ∧ w'.cell? (ad892.add (x10_3).toNat) = some (.int .i64 (rd l2 x10_3)) ∧ w'.cell? (ad894.add ((x10_3).toNat * 2)) = some (.int .i64 ((rd_T106 l0_2 x10_3).f0)) ∧ w'.cell? ⟨(ad894.add ((x10_3).toNat * 2)).block, (ad894.add ((x10_3).toNat * 2)).off + 1, none⟩ = some (.int .i64 ((rd_T106 l0_2 x10_3).f1))) (ds := []) #[false, false, false, false, false, false, false, false, false, false, false, false] ψ12 rfl rfl ⟨(blk_cell BK10.out 0).trans rfl, (blk_cell BK10.out 1).trans rfl, (blk_cell BK10.out 2).trans rfl, (blk_cell BK10.out 3).trans rfl, (blk_cell BK10.out 4).trans rfl, (blk_cell BK10.out 5).trans rfl, ((HB.out.cell (World.block_lt_of_cell? w _ hw892_0)).trans hw892_0), ((HB.out.cell (World.block_lt_of_cell? w _ hw894_0)).trans hw894_0), ((HB.out.cell (World.block_lt_of_cell? w _ hw894_1)).trans hw894_1)⟩ (fun hHeld => ?_); refine with_tabW spec_StartOf.tab13 spec_StartOf.bits13 (fun HT_ HW_ => ?_)
            generalize wr.drew = w49 at HO_883000 BK10 BK11 BK12 HB hx892_0 hx894_0 hx894_1 hHeld ⊢
            refine rP 0 67 ?_; refine rP 1 68 ?_; refine rP 2 69 ?_; refine rP 4 71 ?_; refine rP 6 73 ?_; refine rT 3 70 ?_; refine rT 5 72 ?_; refine rP 7 74 ?_; refine rP 8 75 ?_; refine rT 9 76 ?_
            refine one_ (i := 10) (N := some 77) #[true, true, true, true, true, true, true, true, true, true, true, false] rfl rfl (one_of HT_.out ψ12) ψ13 (fun K hK => ?_)
            refine goes_ Try.func79 ψ12 rfl #[.int .i64 (rd l2 x10_3), .int .i64 0, .int .i64 ((rd_T106 l0_2 x10_3).f0)] ψ14 rfl rfl ψ15 ?_
            with_reducible refine (spec_l1In.calls (rd l2 x10_3) 0 ((rd_T106 l0_2 x10_3).f0) _ _ A46.out).mono ?_
            rintro e w' ⟨rfl, ⟨nd, rfl⟩⟩
            refine ⟨_, rfl, ?_⟩
            refine hK.out _ _ ⟨(blk_cell BK10.out 0).trans rfl, (blk_cell BK10.out 1).trans rfl, (blk_cell BK10.out 2).trans rfl, (blk_cell BK10.out 3).trans rfl, (blk_cell BK10.out 4).trans rfl, (blk_cell BK10.out 5).trans rfl, ((HB.out.cell (World.block_lt_of_cell? w _ hw892_0)).trans hw892_0), ((HB.out.cell (World.block_lt_of_cell? w _ hw894_0)).trans hw894_0), ((HB.out.cell (World.block_lt_of_cell? w _ hw894_1)).trans hw894_1)⟩ (fun hHeld => ?_)
            clear hK K
            refine rN 77 ?_; refine rP 11 78 ?_
            refine done_ (done_of HT_.out ψ12) ?_
            try go_wp2
            (try (rw [drewN_self w49]; generalize hq_ : World.drewN w49 _ = w49; have n0_ : Aside0 (Kd.R (Kd.int .i64) 2 w49 w.heap.size (fun _ => True) u883000 x883000_3) := ⟨by rw [← hq_]; exact (have hZ := HO_883000; kR_)⟩; have n1_ : Aside0 (w49.heap[gb10]? = some (.cells #[.int .i64 a0_0, .slice A0_1 l0_1.length c0_1, .slice (some ad894) l0_2.length c0_2, .int .i64 a0_3, .slice A0_4 l0_4.length c0_4, .slice A0_5 l0_5.length c0_5] 36 (0, 0))) := ⟨ψ175⟩; have n2_ : Aside0 (w49.heap[gb11]? = some (.cells #[.slice none 0 0, .slice none 0 0] 38 (0, 0))) := ⟨ψ176⟩; have n3_ : Aside0 (w49.heap[gb12]? = some (.cells #[u883000, .slice none 0 0] 38 (0, 0))) := ⟨by rw [← hq_]; exact ψ45⟩; have n4_ : Aside0 (Below w.heap.size w w49) := ⟨by rw [← hq_]; exact ψ36⟩; clear HO_883000 BK10 BK11 BK12 HB hq_; have HO_883000 := n0_; have BK10 := n1_; have BK11 := n2_; have BK12 := n3_; have HB := n4_; clear n0_ n1_ n2_ n3_ n4_; obtain ⟨y9876_0, y9876_1, y9876_2, y9876_3, y9876_4, y9876_5, u9876_0, u9876_1, u9876_2, u9876_3, u9876_4, u9876_5⟩ := cells6 BK10.out; obtain ⟨y9877_0, y9877_1, u9877_0, u9877_1⟩ := cells2 BK11.out; obtain ⟨y9882_0, y9882_1, u9882_0, u9882_1⟩ := cells2 BK12.out))
            have q := n5_ (Kd.R_drew HO_883000.out) (blk_drew BK10.out) (blk_drew BK11.out) (blk_drew BK12.out) (below_drew1 HB.out)
            clear HO_883000 BK10 BK11 BK12 HB
            obtain ⟨HO_883000, BK10, BK11, BK12, HB⟩ := q
            have p897 : 0 ≤ (x10_3 : Int) := of_decide_eq_true ψ5
            have q897 : x10_3 < (l2.length : Int) := of_decide_eq_true ψ5
            obtain ⟨ad897, e897, hx897_0⟩ := Kd.at_int HR2.out x10_3 p897 q897
            have hw897_0 := hx897_0
            obtain rfl : ad892 = ad897 := (by injection e897)
            replace hx897_0 := cB HB hx897_0
            replace p897 := eq_true p897
            replace q897 := eq_true q897
            refine start_ (n := 10) (S := fun w' => w'.cell? ⟨gb12, 0, none⟩ = some (u883000) ∧ w'.cell? ⟨gb12, 1, none⟩ = some (.slice none 0 0) ∧ w'.cell? (ad892.add (x10_3).toNat) = some (.int .i64 (rd l2 x10_3))) (ds := [9]) #[false, false, false, false, false, false, false, false, false, false] ψ12 rfl rfl ⟨(blk_cell BK12.out 0).trans rfl, (blk_cell BK12.out 1).trans rfl, ((HB.out.cell (World.block_lt_of_cell? w _ hw897_0)).trans hw897_0)⟩ (fun hHeld => ?_); refine with_tabW spec_StartOf.tab15 spec_StartOf.bits15 (fun HT_ HW_ => ?_)
            generalize w49.drew = w50 at HO_883000 BK10 BK11 BK12 HB hx897_0 hHeld ⊢
            refine rP 0 80 ?_; refine rP 2 82 ?_; refine rP 3 83 ?_; refine rP 4 84 ?_; refine rT 1 81 ?_; refine rT 5 85 ?_
            refine one_ (i := 6) (N := some 86) #[true, true, true, true, true, true, true, false, false, false] rfl rfl (one_of HT_.out ψ12) ψ13 (fun K hK => ?_)
            refine value_ (w1 := ?_) (v := ?_) ψ14 rfl ?_ ?_
            rotate_left 2
            ·go_simp
             constructor
             ·rfl
             ·rfl
            refine hK.out _ _ ⟨(blk_cell (blk_alloc BK12.out _) 0).trans rfl, (blk_cell (blk_alloc BK12.out _) 1).trans rfl, (World.cell?_alloc_lt _ _ _ (World.block_lt_of_cell? _ _ (((HB.out.cell (World.block_lt_of_cell? w _ hw897_0)).trans hw897_0)))).trans (((HB.out.cell (World.block_lt_of_cell? w _ hw897_0)).trans hw897_0))⟩ (fun hHeld => ?_)
            clear hK K
            refine rN 86 ?_
            refine one_ (i := 7) (N := some 87) #[true, true, true, true, true, true, true, true, false, false] rfl rfl (one_of HT_.out ψ12) ψ13 (fun K hK => ?_)
            refine Kd.R_append_step (Kd.int .i64) (w0 := w) w.heap.size ψ14 (.tmp 81) (.tmp 86) 23 2 (.int .i64 0) 8 rfl Try.underlying23 info2 rfl ψ13 ψ21 u883000 x883000_3 (rd l2 x10_3) [.int .i64 (rd l2 x10_3)] (fun _ => True) (fun _ => False) rfl rfl ?aP (fun _ hk => hk.elim) ?aF ?aO ?aB ?aS ?aL ?_
            (case aP => exact rfl)
            (case aB => exact ψ36)
            (case aF => exact (fun _ _ => trivial))
            (case aO => exact (have hZ := HO_883000; kR_))
            (case aS => exact (below_size ψ36))
            (case aL => have := LMc48.out; omega)
            intro v899 w51 ho hb hg hat
            rw [← Ny898.out] at ho
            have q := n5_ (blk_grown (g := gb10) ψ10 hg (Kd.R_ne HO_883000.out BK10.out ψ13)) (blk_grown (g := gb11) ψ24 hg (Kd.R_ne HO_883000.out BK11.out ψ13)) (blk_grown (g := gb12) ψ45 hg (Kd.R_ne HO_883000.out BK12.out ψ13)) (hb) (ho)
            clear BK10 BK11 BK12 HB HO_883000
            obtain ⟨BK10, BK11, BK12, HB, HO900⟩ := q
            clear ho hb hg hat
            obtain ⟨Ao52, co52, eo52⟩ := Kd.R_slice HO900.out
            (first | subst eo52 | (injection eo52 with f1_ f2_ f3_; have f4_ := f1_.symm; have f5_ := f3_.symm; clear f1_ f2_ f3_; subst f4_; subst f5_))
            refine hK.out _ _ ⟨(blk_cell BK12.out 0).trans rfl, (blk_cell BK12.out 1).trans rfl, ((HB.out.cell (World.block_lt_of_cell? w _ hw897_0)).trans hw897_0)⟩ (fun hHeld => ?_)
            clear hK K
            refine rN 87 ?_; refine rP 8 88 ?_
            refine last_ (i := 9) (N := none) #[true, true, true, true, true, true, true, true, true, true] rfl rfl (one_of HT_.out ψ12) ψ13 (fun K hK => ?_)
            have hs53 : w51.cell? ⟨gb12, 0, none⟩ = some (u883000) := (blk_cell BK12.out 0).trans rfl
            have hfs53 := blk_frozen BK12.out 0
            have hns53_0 := NB10_12.out
            have hns53_1 := NB11_12.out
            have hms53_0 := NB12_10.out
            have hms53_1 := NB12_11.out
            refine skip_ (w1 := ?_) ψ14 rfl ?_ ?_
            rotate_left
            ·go_simp
             rfl
            refine hK.out _ _ ?_
            clear hK K
            refine done_ (done_of HT_.out ψ12) ?_
            try go_wp2
            go_roundg k3
            case measure => have := HJ3.out; have := HK2.out; have := HK3.out; omega
            case rel => exact ⟨(wrap64 (x10_3 + 1)), (y898), (.slice Ao52 y898.length co52), ψ7, H', ⟨by have := HJ3.out; have := HK2.out; have := HK3.out; omega⟩, ⟨by (with_reducible repeat (first | apply Kd.R_alloc | apply Kd.R_drewN | apply Kd.R_drew)); exact Kd.R_mono (Kd.R_far (p := ⟨gb12, 0, none⟩) (Kd.R_types HO900.out BK12.out ψ13) (fun _ hk => hk.2) (.slice Ao52 y898.length co52)) (fun _ hk => trivial)⟩, ⟨ψ41⟩, ⟨ψ42⟩, ⟨ψ105⟩, ⟨ψ36⟩⟩
           ·rw [if_neg c48] at H
            exact absurd H ψ22
          ·simp only [Option.some.injEq, Prod.mk.injEq] at H
           obtain ⟨rfl, rfl, rfl⟩ := H
           try go_wp2
           have q := n5_ (Kd.R_drew HO_883000.out) (blk_drew BK10.out) (blk_drew BK11.out) (blk_drew BK12.out) (below_drew1 HB.out)
           clear HO_883000 BK10 BK11 BK12 HB
           obtain ⟨HO_883000, BK10, BK11, BK12, HB⟩ := q
           have p892 : 0 ≤ (x10_3 : Int) := of_decide_eq_true ψ5
           have q892 : x10_3 < (l2.length : Int) := of_decide_eq_true ψ5
           obtain ⟨ad892, e892, hx892_0⟩ := Kd.at_int HR2.out x10_3 p892 q892
           have hw892_0 := hx892_0
           cases e892
           replace hx892_0 := cB HB hx892_0
           replace p892 := eq_true p892
           replace q892 := eq_true q892
           have p894 : 0 ≤ (x10_3 : Int) := of_decide_eq_true ψ5
           have q894 : x10_3 < (l0_2.length : Int) := of_decide_eq_true ψ5
           obtain ⟨ad894, e894, hx894_0, hx894_1⟩ := at_T106 HR0_2.out x10_3 p894 q894
           have hw894_1 := hx894_1
           have hw894_0 := hx894_0
           cases e894
           replace hx894_0 := cB HB hx894_0
           replace hx894_1 := cB HB hx894_1
           replace p894 := eq_true p894
           replace q894 := eq_true q894
           refine start_ (n := 12) (S := fun w' => w'.cell? ⟨gb10, 0, none⟩ = some (.int .i64 a0_0) ∧ w'.cell? ⟨gb10, 1, none⟩ = some (.slice A0_1 l0_1.length c0_1) ∧ w'.cell? ⟨gb10, 2, none⟩ = some (.slice (some ad894) l0_2.length c0_2) ∧ w'.cell? ⟨gb10, 3, none⟩ = some (.int .i64 a0_3) ∧ w'.cell? ⟨gb10, 4, none⟩ = some (.slice A0_4 l0_4.length c0_4) ∧ w'.cell? ⟨gb10, 5, none⟩ = some (.slice A0_5 l0_5.length c0_5) ∧ w'.cell? (ad892.add (x10_3).toNat) = some (.int .i64 (rd l2 x10_3)) ∧ w'.cell? (ad894.add ((x10_3).toNat * 2)) = some (.int .i64 ((rd_T106 l0_2 x10_3).f0)) ∧ w'.cell? ⟨(ad894.add ((x10_3).toNat * 2)).block, (ad894.add ((x10_3).toNat * 2)).off + 1, none⟩ = some (.int .i64 ((rd_T106 l0_2 x10_3).f1))) (ds := []) #[false, false, false, false, false, false, false, false, false, false, false, false] ψ12 rfl rfl ⟨(blk_cell BK10.out 0).trans rfl, (blk_cell BK10.out 1).trans rfl, (blk_cell BK10.out 2).trans rfl, (blk_cell BK10.out 3).trans rfl, (blk_cell BK10.out 4).trans rfl, (blk_cell BK10.out 5).trans rfl, ((HB.out.cell (World.block_lt_of_cell? w _ hw892_0)).trans hw892_0), ((HB.out.cell (World.block_lt_of_cell? w _ hw894_0)).trans hw894_0), ((HB.out.cell (World.block_lt_of_cell? w _ hw894_1)).trans hw894_1)⟩ (fun hHeld => ?_); refine with_tabW spec_StartOf.tab13 spec_StartOf.bits13 (fun HT_ HW_ => ?_)
           generalize wr.drew = w54 at HO_883000 BK10 BK11 BK12 HB hx892_0 hx894_0 hx894_1 hHeld ⊢
           refine rP 0 67 ?_; refine rP 1 68 ?_; refine rP 2 69 ?_; refine rP 4 71 ?_; refine rP 6 73 ?_; refine rT 3 70 ?_; refine rT 5 72 ?_; refine rP 7 74 ?_; refine rP 8 75 ?_; refine rT 9 76 ?_
           refine one_ (i := 10) (N := some 77) #[true, true, true, true, true, true, true, true, true, true, true, false] rfl rfl (one_of HT_.out ψ12) ψ13 (fun K hK => ?_)
           refine goes_ Try.func79 ψ12 rfl #[.int .i64 (rd l2 x10_3), .int .i64 0, .int .i64 ((rd_T106 l0_2 x10_3).f0)] ψ14 rfl rfl ψ15 ?_
           with_reducible refine (spec_l1In.calls (rd l2 x10_3) 0 ((rd_T106 l0_2 x10_3).f0) _ _ A46.out).mono ?_
           rintro e w' ⟨rfl, ⟨nd, rfl⟩⟩
           refine ⟨_, rfl, ?_⟩
           refine hK.out _ _ ⟨(blk_cell BK10.out 0).trans rfl, (blk_cell BK10.out 1).trans rfl, (blk_cell BK10.out 2).trans rfl, (blk_cell BK10.out 3).trans rfl, (blk_cell BK10.out 4).trans rfl, (blk_cell BK10.out 5).trans rfl, ((HB.out.cell (World.block_lt_of_cell? w _ hw892_0)).trans hw892_0), ((HB.out.cell (World.block_lt_of_cell? w _ hw894_0)).trans hw894_0), ((HB.out.cell (World.block_lt_of_cell? w _ hw894_1)).trans hw894_1)⟩ (fun hHeld => ?_)
           clear hK K
           refine rN 77 ?_; refine rP 11 78 ?_
           refine done_ (done_of HT_.out ψ12) ?_
           have hnb55 := NB11_10.out
           have hnc55 := NB10_11.out
           have hnb56 := NB11_12.out
           have hnc56 := NB12_11.out
           obtain ⟨y57_0, y57_1, u57_0, u57_1⟩ := cells2 BK11.out
           try go_wp2
           refine bodyPost_ret (results_ct rfl _ _ gb11 38 #[.slice none 0 0, .slice none 0 0] (0, 0) _ rfl ψ104 Try.underlying38 rfl ψ12) rfl ?_
           exact ⟨_, _, ψ4, ψ69, ψ102, ψ36⟩
         ·by_cases c58 : 0 ≤ a0_3
          ·rw [if_pos c58] at H
           have c58b0 := eq_true c58
           have c58b1 : decide (0 ≤ a0_3) = true := decide_eq_true c58
           clear c58
           by_cases c59 : x883000_3.length + (a0_3 : Int).toNat < 17592186044416
           ·rw [if_pos c59] at H
            have LMc59 := Aside0.mk c59
            clear c59
            obtain ⟨y903, hy903⟩ : ∃ y_ : List Int, y_ = (x883000_3 ++ List.replicate (a0_3 : Int).toNat 0) := ⟨_, rfl⟩
            replace H : (spec_StartOf.l2 k3 0 a0_0 l0_1 l0_2 a0_3 l0_4 l0_5 y903 ([] : List (List Int))) = some (r1, r2, r3) := by first | (rw [hy903]; with_reducible exact H) | (have H2_ := (Option.bind_some _ _).symm.trans H; rw [hy903]; with_reducible exact H2_) | (have H2_ := (Option.bind_some _ _).symm.trans H; with_reducible exact H2_) | with_reducible exact H | (rw [hy903]; exact H) | exact H
            have Ny903 := Aside0.mk hy903
            clear hy903
            have H' := Aside0.mk H
            clear H
            have hnb60 := NB12_10.out
            have hnc60 := NB10_12.out
            have hnb61 := NB12_11.out
            have hnc61 := NB11_12.out
            obtain ⟨y62_0, y62_1, u62_0, u62_1⟩ := cells2 BK12.out
            have hnb63 := NB10_11.out
            have hnc63 := NB11_10.out
            obtain ⟨y64_0, y64_1, y64_2, y64_3, y64_4, y64_5, u64_0, u64_1, u64_2, u64_3, u64_4, u64_5⟩ := cells6 BK10.out
            go_wp2_with (first | (at_builtin; refine Kd.R_append_zeros (Kd.int .i64) (w0 := w) w.heap.size rfl (.tmp 90) (.tmp 92) 23 2 2 (.int .i64 0) 8 rfl Try.underlying23 Try.underlying2 info2 rfl ψ13 ψ21 u883000 x883000_3 0 (a0_3 : Int) (fun _ => True) rfl rfl rfl ?aF ?aO (of_decide_eq_true ψ5) ?aB ?aS ?aL ?_; (case aB => exact ψ36); (case aF => exact (fun _ _ => trivial)); (case aO => exact (have hZ := HO_883000; kR_)); (case aS => exact (below_size ψ36)); (case aL => have := LMc59.out; omega); intro v904 w65 ho hb hg hat; rw [← Ny903.out] at ho; have q := n5_ (blk_grown (g := gb10) ψ10 hg (Kd.R_ne HO_883000.out BK10.out ψ13)) (blk_grown (g := gb11) ψ24 hg (Kd.R_ne HO_883000.out BK11.out ψ13)) (blk_grown (g := gb12) ψ45 hg (Kd.R_ne HO_883000.out BK12.out ψ13)) (hb) (ho); clear BK10 BK11 BK12 HB HO_883000; obtain ⟨BK10, BK11, BK12, HB, HO905⟩ := q; clear ho hb hg hat; obtain ⟨Ao66, co66, eo66⟩ := Kd.R_slice HO905.out; subst eo66; obtain ⟨y67_0, y67_1, u67_0, u67_1⟩ := cells2 BK12.out))
            go_loopg [11] k3 (fun kq v11 w' => ∃ (x11_4 : Int) (x883001_4 : List (List Int)) (u883001 : Value), v11 = .int .i64 x11_4 ∧ Aside0 (spec_StartOf.l2 kq x11_4 a0_0 l0_1 l0_2 a0_3 l0_4 l0_5 y903 x883001_4 = some (r1, r2, r3)) ∧ Aside0 (kq ≤ k3) ∧ Aside0 (Kd.R (Kd.int .i64) 2 w' w.heap.size (fun _ => True) (.slice Ao66 y903.length co66) y903) ∧ Aside0 (Kd.S (Kd.slice 2 (Kd.int .i64)) 23 w' w.heap.size (fun k_ => some k_ ≠ ((.slice Ao66 y903.length co66) : Value).ownBlock) u883001 x883001_4) ∧ Aside0 (w'.heap[gb10]? = some (.cells #[.int .i64 a0_0, (.slice A0_1 l0_1.length c0_1), (.slice A0_2 l0_2.length c0_2), .int .i64 a0_3, (.slice A0_4 l0_4.length c0_4), (.slice A0_5 l0_5.length c0_5)] 36 (0, 0))) ∧ Aside0 (w'.heap[gb11]? = some (.cells #[(.slice none 0 0), (.slice none 0 0)] 38 (0, 0))) ∧ Aside0 (w'.heap[gb12]? = some (.cells #[(.slice Ao66 y903.length co66), u883001] 38 (0, 0))) ∧ Aside0 (Below w.heap.size w w'))
            case atStart => exact ⟨(0), (([] : List (List Int))), (.slice none 0 0), ψ7, H', ⟨Nat.le_refl _⟩, ⟨by (with_reducible repeat (first | apply Kd.R_alloc | apply Kd.R_drewN | apply Kd.R_drew)); exact Kd.R_mono (Kd.R_far (p := ⟨gb12, 0, none⟩) (Kd.R_types HO905.out BK12.out ψ13) (fun _ hk => hk.2) (.slice Ao66 y903.length co66)) (fun _ hk => trivial)⟩, ⟨ψ102⟩, ⟨ψ41⟩, ⟨ψ42⟩, ⟨ψ105⟩, ⟨ψ36⟩⟩
            case round =>
             clear H'
             try clear c43
             try clear c43b0
             try clear c44
             try clear c44b0
             try clear c45
             try clear c45b0
             try clear c47
             try clear c48
             try clear c58
             try clear c58b0
             try clear c58b1
             try clear c59
             try clear y17_3 y17_4 y17_5
             try clear y19_0 y19_1 y19_2 y19_3 y19_4 y19_5
             try clear y23_0 y23_1
             try clear y27_0 y27_1
             try clear y42_0 y42_1
             try clear y57_0 y57_1
             try clear y62_0 y62_1
             try clear y64_0 y64_1 y64_2 y64_3 y64_4 y64_5
             try clear y67_0 y67_1
             try clear u11_0 u11_1 u11_2 u11_3 u11_4 u11_5
             try clear u13_0 u13_1 u13_2 u13_3 u13_4 u13_5
             try clear u15_0 u15_1 u15_2 u15_3 u15_4 u15_5
             try clear u17_0 u17_1 u17_2 u17_3 u17_4 u17_5
             try clear u19_0 u19_1 u19_2 u19_3 u19_4 u19_5
             try clear u23_0 u23_1
             try clear u27_0 u27_1
             try clear u42_0 u42_1
             try clear u57_0 u57_1
             try clear u62_0 u62_1
             try clear u64_0 u64_1 u64_2 u64_3 u64_4 u64_5
             try clear u67_0 u67_1
             try clear hx883_0
             try clear hx885_0
             try clear hx885_1
             try clear hx888_0
             try clear hx892_0
             try clear hx894_0
             try clear hx894_1
             try clear hx897_0
             try clear p883
             try clear p885
             try clear p888
             try clear p892
             try clear p894
             try clear p897
             try clear q883
             try clear q885
             try clear q888
             try clear q892
             try clear q894
             try clear q897
             obtain ⟨x11_4, x883001_4, u883001, rfl, HA, HK4, HO_883000, HO_883001, BK10, BK11, BK12, HB⟩ := hrel
             cases gk with
             | zero => exact absurd HA.out (by simp [spec_StartOf.l2])
             | succ k4 =>
              have H := HA.out
              clear HA
              simp only [spec_StartOf.l2] at H
              replace H := ifD H; rcases H with ⟨c68b0, H⟩ | ⟨c68b0, H⟩
              ·replace H := ifN H; obtain ⟨c69b0, H⟩ := H
               by_cases c70 : 0 ≤ (rd l0_4 x11_4)
               ·rw [if_pos c70] at H
                have c70b0 := eq_true c70
                have c70b1 : decide (0 ≤ (rd l0_4 x11_4)) = true := decide_eq_true c70
                clear c70
                by_cases c71 : (rd l0_4 x11_4 : Int).toNat ≤ 35184372088832
                ·rw [if_pos c71] at H
                 have c71b0 := eq_true c71
                 have c71b1 : decide ((rd l0_4 x11_4 : Int).toNat ≤ 35184372088832) = true := decide_eq_true c71
                 clear c71
                 obtain ⟨y910, hy910⟩ : ∃ y_ : List Int, y_ = (List.replicate (rd l0_4 x11_4 : Int).toNat 0) := ⟨_, rfl⟩
                 replace H : (if x883001_4.length < 5864062014805 then (spec_StartOf.l2 k4 (wrap64 (x11_4 + 1)) a0_0 l0_1 l0_2 a0_3 l0_4 l0_5 y903 (x883001_4 ++ [y910])) else (none)) = some (r1, r2, r3) := by first | (rw [hy910]; with_reducible exact H) | (have H2_ := (Option.bind_some _ _).symm.trans H; rw [hy910]; with_reducible exact H2_) | (have H2_ := (Option.bind_some _ _).symm.trans H; with_reducible exact H2_) | with_reducible exact H | (rw [hy910]; exact H) | exact H
                 have Ny910 := Aside0.mk hy910
                 clear hy910
                 by_cases c72 : x883001_4.length < 5864062014805
                 ·rw [if_pos c72] at H
                  have LMc72 := Aside0.mk c72
                  clear c72
                  obtain ⟨y913, hy913⟩ : ∃ y_ : List (List Int), y_ = (x883001_4 ++ [y910]) := ⟨_, rfl⟩
                  replace H : (spec_StartOf.l2 k4 (wrap64 (x11_4 + 1)) a0_0 l0_1 l0_2 a0_3 l0_4 l0_5 y903 y913) = some (r1, r2, r3) := by first | (rw [hy913]; with_reducible exact H) | (have H2_ := (Option.bind_some _ _).symm.trans H; rw [hy913]; with_reducible exact H2_) | (have H2_ := (Option.bind_some _ _).symm.trans H; with_reducible exact H2_) | with_reducible exact H | (rw [hy913]; exact H) | exact H
                  have Ny913 := Aside0.mk hy913
                  clear hy913
                  have H' := Aside0.mk H
                  clear H
                  have hnb73 := NB10_11.out
                  have hnc73 := NB11_10.out
                  have hnb74 := NB10_12.out
                  have hnc74 := NB12_10.out
                  obtain ⟨y75_0, y75_1, y75_2, y75_3, y75_4, y75_5, u75_0, u75_1, u75_2, u75_3, u75_4, u75_5⟩ := cells6 BK10.out
                  try go_wp2
                  have q := n6_ (Kd.R_drew HO_883000.out) (Kd.S_drew HO_883001.out) (blk_drew BK10.out) (blk_drew BK11.out) (blk_drew BK12.out) (below_drew1 HB.out)
                  clear HO_883000 HO_883001 BK10 BK11 BK12 HB
                  obtain ⟨HO_883000, HO_883001, BK10, BK11, BK12, HB⟩ := q
                  have p909 : 0 ≤ (x11_4 : Int) := of_decide_eq_true ψ5
                  have q909 : x11_4 < (l0_4.length : Int) := of_decide_eq_true ψ5
                  obtain ⟨ad909, e909, hx909_0⟩ := Kd.at_int HR0_4.out x11_4 p909 q909
                  have hw909_0 := hx909_0
                  cases e909
                  replace hx909_0 := cB HB hx909_0
                  replace p909 := eq_true p909
                  replace q909 := eq_true q909
                  refine start_ (n := 12) (S := fun w' => w'.cell? ⟨gb12, 0, none⟩ = some (.slice Ao66 y903.length co66) ∧ w'.cell? ⟨gb12, 1, none⟩ = some (u883001) ∧ w'.cell? ⟨gb10, 0, none⟩ = some (.int .i64 a0_0) ∧ w'.cell? ⟨gb10, 1, none⟩ = some (.slice A0_1 l0_1.length c0_1) ∧ w'.cell? ⟨gb10, 2, none⟩ = some (.slice A0_2 l0_2.length c0_2) ∧ w'.cell? ⟨gb10, 3, none⟩ = some (.int .i64 a0_3) ∧ w'.cell? ⟨gb10, 4, none⟩ = some (.slice (some ad909) l0_4.length c0_4) ∧ w'.cell? ⟨gb10, 5, none⟩ = some (.slice A0_5 l0_5.length c0_5) ∧ w'.cell? (ad909.add (x11_4).toNat) = some (.int .i64 (rd l0_4 x11_4))) (ds := [11]) #[false, false, false, false, false, false, false, false, false, false, false, false] ψ12 rfl rfl ⟨(blk_cell BK12.out 0).trans rfl, (blk_cell BK12.out 1).trans rfl, (blk_cell BK10.out 0).trans rfl, (blk_cell BK10.out 1).trans rfl, (blk_cell BK10.out 2).trans rfl, (blk_cell BK10.out 3).trans rfl, (blk_cell BK10.out 4).trans rfl, (blk_cell BK10.out 5).trans rfl, ((HB.out.cell (World.block_lt_of_cell? w _ hw909_0)).trans hw909_0)⟩ (fun hHeld => ?_); refine with_tabW spec_StartOf.tab20 spec_StartOf.bits20 (fun HT_ HW_ => ?_)
                  generalize wr.drew = w76 at HO_883000 HO_883001 BK10 BK11 BK12 HB hx909_0 hHeld ⊢
                  refine rP 0 102 ?_; refine rP 2 104 ?_; refine rP 4 106 ?_; refine rT 1 103 ?_; refine rT 3 105 ?_; refine rP 5 107 ?_; refine rT 6 108 ?_
                  refine one_ (i := 7) (N := some 109) #[true, true, true, true, true, true, true, true, false, false, false, false] rfl rfl (one_of HT_.out ψ12) ψ13 (fun K hK => ?_)
                  refine Kd.R_make_step (Kd.int .i64) _ 2 ψ14 (N := 109) rfl 23 _ _ rfl (rd l0_4 x11_4) rfl rfl Try.underlying23 (.int .i64 0) 8 info2 rfl ψ13 ψ21 0 (ok := fun _ => True) (okp := fun _ => True) rfl (fun _ hk => hk) trivial (of_decide_eq_true ψ5) (Nat.le_trans (Nat.mul_le_mul_right _ (of_decide_eq_true ψ5 : (rd l0_4 x11_4).toNat ≤ 35184372088832)) ψ21) (Below.refl _ _) (Nat.le_refl _) ?_
                  intro v911 w77 ho78 hb hg_ hnew_
                  clear hg_ hnew_
                  (first | rw [← Ny910.out] at ho78 | (simp only [Int.reduceToNat] at ho78; rw [← Ny910.out] at ho78))
                  have q := n7_ (Kd.R_elder' (have hZ := HO_883000; kR_) (Kd.R_base ho78) hb) (Kd.S_elder' (have hZ := HO_883001; kS_) (Kd.R_base ho78) hb) (Kd.R_lower (Kd.R_new' ho78 (Kd.R_lt (have hZ := HO_883000; kR_))) (below_size ψ36)) (blk_below (g := gb10) ψ10 hb) (blk_below (g := gb11) ψ24 hb) (blk_below (g := gb12) ψ45 hb) (below_step ψ36 hb)
                  clear HO_883000 HO_883001 BK10 BK11 BK12 HB
                  obtain ⟨HO_883000, HO_883001, HO912, BK10, BK11, BK12, HB⟩ := q
                  clear hb ho78
                  obtain ⟨Ao80, co80, eo80⟩ := Kd.R_slice HO912.out
                  (first | subst eo80 | (injection eo80 with f1_ f2_ f3_; have f4_ := f1_.symm; have f5_ := f3_.symm; clear f1_ f2_ f3_; subst f4_; subst f5_))
                  refine hK.out _ _ ⟨(blk_cell BK12.out 0).trans rfl, (blk_cell BK12.out 1).trans rfl, (blk_cell BK10.out 0).trans rfl, (blk_cell BK10.out 1).trans rfl, (blk_cell BK10.out 2).trans rfl, (blk_cell BK10.out 3).trans rfl, (blk_cell BK10.out 4).trans rfl, (blk_cell BK10.out 5).trans rfl, ((HB.out.cell (World.block_lt_of_cell? w _ hw909_0)).trans hw909_0)⟩ (fun hHeld => ?_)
                  clear hK K
                  refine rN 109 ?_
                  refine one_ (i := 8) (N := some 110) #[true, true, true, true, true, true, true, true, true, false, false, false] rfl rfl (one_of HT_.out ψ12) ψ13 (fun K hK => ?_)
                  refine value_ (w1 := ?_) (v := ?_) ψ14 rfl ?_ ?_
                  rotate_left 2
                  ·go_simp
                   constructor
                   ·rfl
                   ·rfl
                  refine hK.out _ _ ⟨(blk_cell (blk_alloc BK12.out _) 0).trans rfl, (blk_cell (blk_alloc BK12.out _) 1).trans rfl, (blk_cell (blk_alloc BK10.out _) 0).trans rfl, (blk_cell (blk_alloc BK10.out _) 1).trans rfl, (blk_cell (blk_alloc BK10.out _) 2).trans rfl, (blk_cell (blk_alloc BK10.out _) 3).trans rfl, (blk_cell (blk_alloc BK10.out _) 4).trans rfl, (blk_cell (blk_alloc BK10.out _) 5).trans rfl, (World.cell?_alloc_lt _ _ _ (World.block_lt_of_cell? _ _ (((HB.out.cell (World.block_lt_of_cell? w _ hw909_0)).trans hw909_0)))).trans (((HB.out.cell (World.block_lt_of_cell? w _ hw909_0)).trans hw909_0))⟩ (fun hHeld => ?_)
                  clear hK K
                  refine rN 110 ?_
                  refine one_ (i := 9) (N := some 111) #[true, true, true, true, true, true, true, true, true, true, false, false] rfl rfl (one_of HT_.out ψ12) ψ13 (fun K hK => ?_)
                  refine Kd.S_append_step (Kd.slice 2 (Kd.int .i64)) (w0 := w) w.heap.size ψ14 (.tmp 103) (.tmp 110) 27 23 (.slice none 0 0) 24 rfl Try.underlying27 info23 rfl ψ13 ψ21 u883001 x883001_4 y910 [.slice Ao80 y910.length co80] (fun k_ => some k_ ≠ (.slice Ao66 y903.length co66 : Value).ownBlock) (fun k_ => some k_ = (.slice Ao80 y910.length co80 : Value).ownBlock) rfl rfl ?aP (fun k_ hk_ => ((Kd.R_mono (ok' := fun k_ => ((fun k_ => some k_ ≠ (.slice Ao66 y903.length co66 : Value).ownBlock)) k_ ∧ some k_ ≠ (u883001 : Value).ownBlock) (Kd.R_apart' (HO912.out) (Kd.S_typed HO_883001.out) ψ13) (fun k_ hk => ⟨hk.1.2, hk.2⟩))).1 k_ hk_.symm) ?aF ?aO ?aB ?aS ?aL ?_
                  (case aP => exact Kd.M_row (Kd.R_mono (Kd.R_tight rfl (Kd.R_mono (ok' := fun k_ => ((fun k_ => some k_ ≠ (.slice Ao66 y903.length co66 : Value).ownBlock)) k_ ∧ some k_ ≠ (u883001 : Value).ownBlock) (Kd.R_apart' (HO912.out) (Kd.S_typed HO_883001.out) ψ13) (fun k_ hk => ⟨hk.1.2, hk.2⟩))) (fun _ h_ => h_)))
                  (case aB => exact ψ36)
                  (case aF => exact (fun k_ hk => Kd.fresh' (Kd.R_lt (have hZ := HO_883000; kR_)) k_ hk))
                  (case aO => exact (by (with_reducible repeat (first | apply Kd.S_alloc | apply Kd.S_drewN | apply Kd.S_drew)); exact Kd.S_mono HO_883001.out (fun k_ hk => ⟨hk.1, fun e_ => hk.2 e_⟩)))
                  (case aS => exact (below_size ψ36))
                  (case aL => have := LMc72.out; omega)
                  intro v914 w79 ho hb hg hat
                  rw [← Ny913.out] at ho
                  have q := n6_ (Kd.R_over' (have hZ := HO_883000; kR_) (Kd.S_typed (have hZ := HO_883001; kS_)) ψ13 hg) (blk_grown (g := gb10) ψ10 hg (Kd.S_ne HO_883001.out BK10.out ψ13)) (blk_grown (g := gb11) ψ24 hg (Kd.S_ne HO_883001.out BK11.out ψ13)) (blk_grown (g := gb12) ψ45 hg (Kd.S_ne HO_883001.out BK12.out ψ13)) (hb) (ho)
                  clear HO_883000 BK10 BK11 BK12 HB HO_883001 HO912
                  obtain ⟨HO_883000, BK10, BK11, BK12, HB, HO915⟩ := q
                  clear ho hb hg hat
                  obtain ⟨Ao81, co81, eo81⟩ := Kd.S_slice HO915.out
                  (first | subst eo81 | (injection eo81 with f1_ f2_ f3_; have f4_ := f1_.symm; have f5_ := f3_.symm; clear f1_ f2_ f3_; subst f4_; subst f5_))
                  refine hK.out _ _ ⟨(blk_cell BK12.out 0).trans rfl, (blk_cell BK12.out 1).trans rfl, (blk_cell BK10.out 0).trans rfl, (blk_cell BK10.out 1).trans rfl, (blk_cell BK10.out 2).trans rfl, (blk_cell BK10.out 3).trans rfl, (blk_cell BK10.out 4).trans rfl, (blk_cell BK10.out 5).trans rfl, ((HB.out.cell (World.block_lt_of_cell? w _ hw909_0)).trans hw909_0)⟩ (fun hHeld => ?_)
                  clear hK K
                  refine rN 111 ?_; refine rP 10 112 ?_
                  refine last_ (i := 11) (N := none) #[true, true, true, true, true, true, true, true, true, true, true, true] rfl rfl (one_of HT_.out ψ12) ψ13 (fun K hK => ?_)
                  have hs82 : w79.cell? ⟨gb12, 1, none⟩ = some (u883001) := (blk_cell BK12.out 1).trans rfl
                  have hfs82 := blk_frozen BK12.out 1
                  have hns82_0 := NB10_12.out
                  have hns82_1 := NB11_12.out
                  have hms82_0 := NB12_10.out
                  have hms82_1 := NB12_11.out
                  refine skip_ (w1 := ?_) ψ14 rfl ?_ ?_
                  rotate_left
                  ·go_simp
                   rfl
                  refine hK.out _ _ ?_
                  clear hK K
                  refine done_ (done_of HT_.out ψ12) ?_
                  try go_wp2
                  go_roundg k4
                  case measure => have := HJ3.out; have := HK2.out; have := HK3.out; have := HK4.out; omega
                  case rel => exact ⟨(wrap64 (x11_4 + 1)), (y913), (.slice Ao81 y913.length co81), ψ7, H', ⟨by have := HJ3.out; have := HK2.out; have := HK3.out; have := HK4.out; omega⟩, ⟨by (with_reducible repeat (first | apply Kd.R_alloc | apply Kd.R_drewN | apply Kd.R_drew)); exact Kd.R_mono (Kd.R_far (p := ⟨gb12, 1, none⟩) (Kd.R_types HO_883000.out BK12.out ψ13) (fun _ hk => hk.2) (.slice Ao81 y913.length co81)) (fun _ hk => trivial)⟩, ⟨by (with_reducible repeat (first | apply Kd.S_alloc | apply Kd.S_drewN | apply Kd.S_drew)); exact Kd.S_mono (Kd.S_far (p := ⟨gb12, 1, none⟩) (Kd.S_types HO915.out BK12.out ψ13) (fun _ hk => hk.2) (.slice Ao81 y913.length co81)) (fun _ hk => hk.1)⟩, ⟨ψ41⟩, ⟨ψ42⟩, ⟨by (with_reducible repeat (first | refine blk_drewN ?_ _ | refine blk_drew ?_ | refine blk_alloc ?_ _)); refine blk_put (cs := #[.slice Ao66 y903.length co66, u883001]) ?_ 1 _ rfl; (with_reducible repeat (first | refine blk_drewN ?_ _ | refine blk_drew ?_ | refine blk_alloc ?_ _)); exact BK12.out⟩, ⟨ψ36⟩⟩
                 ·rw [if_neg c72] at H
                  exact absurd H ψ22
                ·rw [if_neg c71] at H
                 exact absurd H ψ22
               ·rw [if_neg c70] at H
                exact absurd H ψ22
              ·simp only [Option.some.injEq, Prod.mk.injEq] at H
               obtain ⟨rfl, rfl, rfl⟩ := H
               have hnb83 := NB10_11.out
               have hnc83 := NB11_10.out
               have hnb84 := NB10_12.out
               have hnc84 := NB12_10.out
               obtain ⟨y85_0, y85_1, y85_2, y85_3, y85_4, y85_5, u85_0, u85_1, u85_2, u85_3, u85_4, u85_5⟩ := cells6 BK10.out
               have hnb86 := NB12_11.out
               have hnc86 := NB11_12.out
               obtain ⟨y87_0, y87_1, u87_0, u87_1⟩ := cells2 BK12.out
               obtain ⟨y88_0, y88_1, u88_0, u88_1⟩ := cells2 BK11.out
               obtain ⟨Ao89, co89, eo89⟩ := Kd.S_slice HO_883001.out
               subst eo89
               go_wp2
               refine bodyPost_ret (results_ct rfl _ _ gb11 38 #[.slice Ao66 y903.length co66, .slice Ao89 x883001_4.length co89] (0, 0) _ rfl (by (with_reducible repeat (first | refine blk_drewN ?_ _ | refine blk_drew ?_ | refine blk_alloc ?_ _)); refine blk_put (cs := #[.slice Ao66 y903.length co66, .slice none 0 0]) ?_ 1 _ rfl; (with_reducible repeat (first | refine blk_drewN ?_ _ | refine blk_drew ?_ | refine blk_alloc ?_ _)); refine blk_put (cs := #[.slice none 0 0, .slice none 0 0]) ?_ 0 _ rfl; (with_reducible repeat (first | refine blk_drewN ?_ _ | refine blk_drew ?_ | refine blk_alloc ?_ _)); exact BK11.out) Try.underlying38 rfl ψ12) rfl ?_
               exact ⟨_, _, ψ4, by (with_reducible repeat (first | apply Kd.R_alloc | apply Kd.R_drewN | apply Kd.R_drew)); exact Kd.R_mono (Kd.R_far (p := ⟨gb11, 1, none⟩) (Kd.R_far (p := ⟨gb11, 0, none⟩) (Kd.R_types HO_883000.out BK11.out ψ13) (fun _ hk => hk.2) (.slice Ao66 y903.length co66)) (fun _ hk => hk.2) (.slice Ao89 x883001_4.length co89)) (fun _ hk => trivial), by (with_reducible repeat (first | apply Kd.S_alloc | apply Kd.S_drewN | apply Kd.S_drew)); exact Kd.S_mono (Kd.S_far (p := ⟨gb11, 1, none⟩) (Kd.S_far (p := ⟨gb11, 0, none⟩) (Kd.S_types HO_883001.out BK11.out ψ13) (fun _ hk => hk.2) (.slice Ao66 y903.length co66)) (fun _ hk => hk.2) (.slice Ao89 x883001_4.length co89)) (fun _ hk => hk.1), ψ36⟩
           ·rw [if_neg c59] at H
            exact absurd H ψ22
          ·rw [if_neg c58] at H
           exact absurd H ψ22

end Go.Proofs.Ytakmkdlkipfnhaa.PCore

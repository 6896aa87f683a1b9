/- The walks of the functions that the laws come to, part 10: turned out of the kit's print, and mended where that fell. -/
import Derived.Test.YtbjmhdoagjmmcaaPCoreg
namespace Go.Proofs.Ytbjmhdoagjmmcaa.PCore
open Go.RowKit Go.Proofs.YtbjmhdoagjmmcaaW.PrintWords Go.Proofs.YtbjmhdoagjmmcaaW.PrintLast Go.Proofs.YtbjmhdoagjmmcaaW.PrintMore
attribute [local go_sem] max2_int min2_int max_two min_two max_three min_three max_four min_four   -- for this text's walks alone
set_option linter.unusedVariables false
set_option linter.unusedSimpArgs false

/-! ### impl_allInputs: function 78 -/
def impl_allInputs.f (l0 : List (S35)) : Option ((List (S77))) := (some (([] : List (S77)) : List (S77))).bind fun y1176 => (if y1176.length + ((rd_T35 l0 0).f1).length < 8796093022208 then ((some (y1176 ++ ((rd_T35 l0 0).f1) : List (S77))).bind fun y1180 => (if y1180.length + ((rd_T35 l0 0).f2).length < 8796093022208 then (some (y1180 ++ ((rd_T35 l0 0).f2))) else (none))) else (none))
def impl_allInputs.T1 : Bool × List (List Nat × List Nat) := (true, [([], []), ([], []), ([1], [1]), ([2], [2]), ([3], [3]), ([0, 4], [0, 4]), ([], []), ([6], [6]), ([7], [7]), ([8], [8]), ([5, 9, 5], [5, 9]), ([10, 10, 0, 1, 2, 3, 4, 5, 6, 7, 8, 9, 10], [10])])
def impl_allInputs.B1 : List Nat := [0, 0, 2, 6, 14, 31, 0, 64, 192, 448, 1023, 2047]
theorem impl_allInputs.tab1 : rtab .any (opsOf Try.f78 1) = impl_allInputs.T1 := by kernel_rfl
theorem impl_allInputs.bits1 : waitsOk impl_allInputs.T1.2 impl_allInputs.B1 = true := by kernel_rfl
set_option maxHeartbeats 8000000 in
set_option maxRecDepth 100000 in
theorem impl_allInputs.calls (A0 : Option Addr) (c0 : Nat) (l0 : List (S35)) (r : List (S77)) (w : World) (hn0 : l0.length = 1) (hr0 : Kd.C k35 w A0 l0.length l0) (hc0 : l0.length ≤ c0) (h : impl_allInputs.f l0 = some r) :
 Calls Try.prog 78 #[.pointer A0] w fun e w' => ∃ v0_ : Value, e = .returned (v0_) ∧ Kd.R k77 77 w' w.heap.size (fun _ => True) v0_ r ∧ Below w.heap.size w w' := by
 have HR0 := Aside0.mk hr0
 have HC0 := Aside0.mk hc0
 clear hr0 hc0
 have HB := Aside0.mk (Below.refl w.heap.size w)
 have H : ((some (([] : List (S77)) : List (S77))).bind fun y1176 => (if y1176.length + ((rd_T35 l0 0).f1).length < 8796093022208 then ((some (y1176 ++ ((rd_T35 l0 0).f1) : List (S77))).bind fun y1180 => (if y1180.length + ((rd_T35 l0 0).f2).length < 8796093022208 then (some (y1180 ++ ((rd_T35 l0 0).f2))) else (none))) else (none))) = some r := h
 clear h
 obtain ⟨y1176, hy1176⟩ : ∃ y_ : List (S77), y_ = (([] : List (S77))) := ⟨_, rfl⟩
 replace H : (if y1176.length + ((rd_T35 l0 0).f1).length < 8796093022208 then ((some (y1176 ++ ((rd_T35 l0 0).f1) : List (S77))).bind fun y1180 => (if y1180.length + ((rd_T35 l0 0).f2).length < 8796093022208 then (some (y1180 ++ ((rd_T35 l0 0).f2))) else (none))) else (none)) = some r := by first | (rw [hy1176]; with_reducible exact H) | (have H2_ := (Option.bind_some _ _).symm.trans H; rw [hy1176]; with_reducible exact H2_) | (have H2_ := (Option.bind_some _ _).symm.trans H; with_reducible exact H2_) | with_reducible exact H | (rw [hy1176]; exact H) | exact H
 have Ny1176 := Aside0.mk hy1176
 clear hy1176
 by_cases c2 : y1176.length + ((rd_T35 l0 0).f1).length < 8796093022208
 ·rw [if_pos c2] at H
  have LMc2 := Aside0.mk c2
  clear c2
  obtain ⟨y1180, hy1180⟩ : ∃ y_ : List (S77), y_ = (y1176 ++ ((rd_T35 l0 0).f1)) := ⟨_, rfl⟩
  replace H : (if y1180.length + ((rd_T35 l0 0).f2).length < 8796093022208 then (some (y1180 ++ ((rd_T35 l0 0).f2))) else (none)) = some r := by first | (rw [hy1180]; with_reducible exact H) | (have H2_ := (Option.bind_some _ _).symm.trans H; rw [hy1180]; with_reducible exact H2_) | (have H2_ := (Option.bind_some _ _).symm.trans H; with_reducible exact H2_) | with_reducible exact H | (rw [hy1180]; exact H) | exact H
  have Ny1180 := Aside0.mk hy1180
  clear hy1180
  by_cases c3 : y1180.length + ((rd_T35 l0 0).f2).length < 8796093022208
  ·rw [if_pos c3] at H
   have LMc3 := Aside0.mk c3
   clear c3
   obtain ⟨y1184, hy1184⟩ : ∃ y_ : List (S77), y_ = (y1180 ++ ((rd_T35 l0 0).f2)) := ⟨_, rfl⟩
   replace H : (some y1184) = some r := by first | (rw [hy1184]; with_reducible exact H) | (have H2_ := (Option.bind_some _ _).symm.trans H; rw [hy1184]; with_reducible exact H2_) | (have H2_ := (Option.bind_some _ _).symm.trans H; with_reducible exact H2_) | with_reducible exact H | (rw [hy1184]; exact H) | exact H
   have Ny1184 := Aside0.mk hy1184
   clear hy1184
   obtain rfl := Option.some.inj H
   go_enter Try.func78, Try.ntmps78
   try go_wp2
   replace HB := Aside0.mk (below_drew1 HB.out)
   have p1179 : 0 ≤ (0 : Int) := ψ7
   have q1179 : 0 < (l0.length : Int) := ψ330
   obtain ⟨ad1179, A1179_1, c1179_1, A1179_2, c1179_2, A1179_4, c1179_4, A1179_5, c1179_5, e1179, hx1179_0, hx1179_1, hx1179_2, hx1179_3, hx1179_4, hx1179_5, hl1179_1, hi1179_1, hl1179_2, hi1179_2, hl1179_4, hi1179_4, hl1179_5, hi1179_5⟩ := at_T35 HR0.out 0 p1179 q1179
   have hw1179_5 := hx1179_5
   (try rw [show ((0 : Int)).toNat = 0 from rfl] at hw1179_5)
   (try rw [show 0 * 6 = 0 from rfl] at hw1179_5)
   (try rw [Addr.add_zero'] at hw1179_5)
   have hw1179_4 := hx1179_4
   (try rw [show ((0 : Int)).toNat = 0 from rfl] at hw1179_4)
   (try rw [show 0 * 6 = 0 from rfl] at hw1179_4)
   (try rw [Addr.add_zero'] at hw1179_4)
   have hw1179_3 := hx1179_3
   (try rw [show ((0 : Int)).toNat = 0 from rfl] at hw1179_3)
   (try rw [show 0 * 6 = 0 from rfl] at hw1179_3)
   (try rw [Addr.add_zero'] at hw1179_3)
   have hw1179_2 := hx1179_2
   (try rw [show ((0 : Int)).toNat = 0 from rfl] at hw1179_2)
   (try rw [show 0 * 6 = 0 from rfl] at hw1179_2)
   (try rw [Addr.add_zero'] at hw1179_2)
   have hw1179_1 := hx1179_1
   (try rw [show ((0 : Int)).toNat = 0 from rfl] at hw1179_1)
   (try rw [show 0 * 6 = 0 from rfl] at hw1179_1)
   (try rw [Addr.add_zero'] at hw1179_1)
   have hw1179_0 := hx1179_0
   (try rw [show ((0 : Int)).toNat = 0 from rfl] at hw1179_0)
   (try rw [show 0 * 6 = 0 from rfl] at hw1179_0)
   (try rw [Addr.add_zero'] at hw1179_0)
   cases e1179
   have qi1179 : (0 < l0.length) = True := eq_true ψ7
   (try rw [show ((0 : Int)).toNat = 0 from rfl] at hx1179_0)
   (try rw [show 0 * 6 = 0 from rfl] at hx1179_0)
   (try rw [Addr.add_zero'] at hx1179_0)
   (try rw [show ((0 : Int)).toNat = 0 from rfl] at hx1179_1)
   (try rw [show 0 * 6 = 0 from rfl] at hx1179_1)
   (try rw [Addr.add_zero'] at hx1179_1)
   (try rw [show ((0 : Int)).toNat = 0 from rfl] at hx1179_2)
   (try rw [show 0 * 6 = 0 from rfl] at hx1179_2)
   (try rw [Addr.add_zero'] at hx1179_2)
   (try rw [show ((0 : Int)).toNat = 0 from rfl] at hx1179_3)
   (try rw [show 0 * 6 = 0 from rfl] at hx1179_3)
   (try rw [Addr.add_zero'] at hx1179_3)
   (try rw [show ((0 : Int)).toNat = 0 from rfl] at hx1179_4)
   (try rw [show 0 * 6 = 0 from rfl] at hx1179_4)
   (try rw [Addr.add_zero'] at hx1179_4)
   (try rw [show ((0 : Int)).toNat = 0 from rfl] at hx1179_5)
   (try rw [show 0 * 6 = 0 from rfl] at hx1179_5)
   (try rw [Addr.add_zero'] at hx1179_5)
   replace hx1179_0 := (HB.out.cell (World.block_lt_of_cell? w _ hx1179_0)).trans hx1179_0
   replace hx1179_1 := (HB.out.cell (World.block_lt_of_cell? w _ hx1179_1)).trans hx1179_1
   replace hx1179_2 := (HB.out.cell (World.block_lt_of_cell? w _ hx1179_2)).trans hx1179_2
   replace hx1179_3 := (HB.out.cell (World.block_lt_of_cell? w _ hx1179_3)).trans hx1179_3
   replace hx1179_4 := (HB.out.cell (World.block_lt_of_cell? w _ hx1179_4)).trans hx1179_4
   replace hx1179_5 := (HB.out.cell (World.block_lt_of_cell? w _ hx1179_5)).trans hx1179_5
   have HR1179_1 := Aside0.mk hi1179_1
   have HC1179_1 := Aside0.mk hl1179_1
   clear hi1179_1 hl1179_1
   have HR1179_2 := Aside0.mk hi1179_2
   have HC1179_2 := Aside0.mk hl1179_2
   clear hi1179_2 hl1179_2
   have HR1179_4 := Aside0.mk hi1179_4
   have HC1179_4 := Aside0.mk hl1179_4
   clear hi1179_4 hl1179_4
   have HR1179_5 := Aside0.mk hi1179_5
   have HC1179_5 := Aside0.mk hl1179_5
   clear hi1179_5 hl1179_5
   replace p1179 := eq_true p1179
   replace q1179 := eq_true q1179
   have p1183 : 0 ≤ (0 : Int) := ψ7
   have q1183 : 0 < (l0.length : Int) := ψ330
   obtain ⟨ad1183, A1183_1, c1183_1, A1183_2, c1183_2, A1183_4, c1183_4, A1183_5, c1183_5, e1183, hx1183_0, hx1183_1, hx1183_2, hx1183_3, hx1183_4, hx1183_5, hl1183_1, hi1183_1, hl1183_2, hi1183_2, hl1183_4, hi1183_4, hl1183_5, hi1183_5⟩ := at_T35 HR0.out 0 p1183 q1183
   have hw1183_5 := hx1183_5
   (try rw [show ((0 : Int)).toNat = 0 from rfl] at hw1183_5)
   (try rw [show 0 * 6 = 0 from rfl] at hw1183_5)
   (try rw [Addr.add_zero'] at hw1183_5)
   have hw1183_4 := hx1183_4
   (try rw [show ((0 : Int)).toNat = 0 from rfl] at hw1183_4)
   (try rw [show 0 * 6 = 0 from rfl] at hw1183_4)
   (try rw [Addr.add_zero'] at hw1183_4)
   have hw1183_3 := hx1183_3
   (try rw [show ((0 : Int)).toNat = 0 from rfl] at hw1183_3)
   (try rw [show 0 * 6 = 0 from rfl] at hw1183_3)
   (try rw [Addr.add_zero'] at hw1183_3)
   have hw1183_2 := hx1183_2
   (try rw [show ((0 : Int)).toNat = 0 from rfl] at hw1183_2)
   (try rw [show 0 * 6 = 0 from rfl] at hw1183_2)
   (try rw [Addr.add_zero'] at hw1183_2)
   have hw1183_1 := hx1183_1
   (try rw [show ((0 : Int)).toNat = 0 from rfl] at hw1183_1)
   (try rw [show 0 * 6 = 0 from rfl] at hw1183_1)
   (try rw [Addr.add_zero'] at hw1183_1)
   have hw1183_0 := hx1183_0
   (try rw [show ((0 : Int)).toNat = 0 from rfl] at hw1183_0)
   (try rw [show 0 * 6 = 0 from rfl] at hw1183_0)
   (try rw [Addr.add_zero'] at hw1183_0)
   obtain rfl : ad1179 = ad1183 := (by injection e1183)
   have qi1183 : (0 < l0.length) = True := eq_true ψ7
   (try rw [show ((0 : Int)).toNat = 0 from rfl] at hx1183_0)
   (try rw [show 0 * 6 = 0 from rfl] at hx1183_0)
   (try rw [Addr.add_zero'] at hx1183_0)
   (try rw [show ((0 : Int)).toNat = 0 from rfl] at hx1183_1)
   (try rw [show 0 * 6 = 0 from rfl] at hx1183_1)
   (try rw [Addr.add_zero'] at hx1183_1)
   (try rw [show ((0 : Int)).toNat = 0 from rfl] at hx1183_2)
   (try rw [show 0 * 6 = 0 from rfl] at hx1183_2)
   (try rw [Addr.add_zero'] at hx1183_2)
   (try rw [show ((0 : Int)).toNat = 0 from rfl] at hx1183_3)
   (try rw [show 0 * 6 = 0 from rfl] at hx1183_3)
   (try rw [Addr.add_zero'] at hx1183_3)
   (try rw [show ((0 : Int)).toNat = 0 from rfl] at hx1183_4)
   (try rw [show 0 * 6 = 0 from rfl] at hx1183_4)
   (try rw [Addr.add_zero'] at hx1183_4)
   (try rw [show ((0 : Int)).toNat = 0 from rfl] at hx1183_5)
   (try rw [show 0 * 6 = 0 from rfl] at hx1183_5)
   (try rw [Addr.add_zero'] at hx1183_5)
   replace hx1183_0 := (HB.out.cell (World.block_lt_of_cell? w _ hx1183_0)).trans hx1183_0
   replace hx1183_1 := (HB.out.cell (World.block_lt_of_cell? w _ hx1183_1)).trans hx1183_1
   replace hx1183_2 := (HB.out.cell (World.block_lt_of_cell? w _ hx1183_2)).trans hx1183_2
   replace hx1183_3 := (HB.out.cell (World.block_lt_of_cell? w _ hx1183_3)).trans hx1183_3
   replace hx1183_4 := (HB.out.cell (World.block_lt_of_cell? w _ hx1183_4)).trans hx1183_4
   replace hx1183_5 := (HB.out.cell (World.block_lt_of_cell? w _ hx1183_5)).trans hx1183_5
   have HR1183_1 := Aside0.mk hi1183_1
   have HC1183_1 := Aside0.mk hl1183_1
   clear hi1183_1 hl1183_1
   have HR1183_2 := Aside0.mk hi1183_2
   have HC1183_2 := Aside0.mk hl1183_2
   clear hi1183_2 hl1183_2
   have HR1183_4 := Aside0.mk hi1183_4
   have HC1183_4 := Aside0.mk hl1183_4
   clear hi1183_4 hl1183_4
   have HR1183_5 := Aside0.mk hi1183_5
   have HC1183_5 := Aside0.mk hl1183_5
   clear hi1183_5 hl1183_5
   replace p1183 := eq_true p1183
   replace q1183 := eq_true q1183
   have ea_ := Option.some.inj (hx1179_1.symm.trans hx1183_1)
   injection ea_ with ea_ en_ ec_
   subst ea_
   subst ec_
   clear en_
   have ea_ := Option.some.inj (hx1179_2.symm.trans hx1183_2)
   injection ea_ with ea_ en_ ec_
   subst ea_
   subst ec_
   clear en_
   have ea_ := Option.some.inj (hx1179_4.symm.trans hx1183_4)
   injection ea_ with ea_ en_ ec_
   subst ea_
   subst ec_
   clear en_
   have ea_ := Option.some.inj (hx1179_5.symm.trans hx1183_5)
   injection ea_ with ea_ en_ ec_
   subst ea_
   subst ec_
   clear en_
   refine start_ (n := 12) (S := fun w' => w'.cell? ad1179 = some (.int .i64 ((rd_T35 l0 0).f0)) ∧ w'.cell? ⟨ad1179.block, ad1179.off + 1, none⟩ = some (.slice A1179_1 ((rd_T35 l0 0).f1).length c1179_1) ∧ w'.cell? ⟨ad1179.block, ad1179.off + 2, none⟩ = some (.slice A1179_2 ((rd_T35 l0 0).f2).length c1179_2) ∧ w'.cell? ⟨ad1179.block, ad1179.off + 3, none⟩ = some (.int .i64 ((rd_T35 l0 0).f3)) ∧ w'.cell? ⟨ad1179.block, ad1179.off + 4, none⟩ = some (.slice A1179_4 ((rd_T35 l0 0).f4).length c1179_4) ∧ w'.cell? ⟨ad1179.block, ad1179.off + 5, none⟩ = some (.slice A1179_5 ((rd_T35 l0 0).f5).length c1179_5) ∧ w'.cell? ad1179 = some (.int .i64 ((rd_T35 l0 0).f0)) ∧ w'.cell? ⟨ad1179.block, ad1179.off + 1, none⟩ = some (.slice A1179_1 ((rd_T35 l0 0).f1).length c1179_1) ∧ w'.cell? ⟨ad1179.block, ad1179.off + 2, none⟩ = some (.slice A1179_2 ((rd_T35 l0 0).f2).length c1179_2) ∧ w'.cell? ⟨ad1179.block, ad1179.off + 3, none⟩ = some (.int .i64 ((rd_T35 l0 0).f3)) ∧ w'.cell? ⟨ad1179.block, ad1179.off + 4, none⟩ = some (.slice A1179_4 ((rd_T35 l0 0).f4).length c1179_4) ∧ w'.cell? ⟨ad1179.block, ad1179.off + 5, none⟩ = some (.slice A1179_5 ((rd_T35 l0 0).f5).length c1179_5)) (ds := []) #[false, false, false, false, false, false, false, false, false, false, false, false] ψ14 rfl rfl ⟨((HB.out.cell (World.block_lt_of_cell? w _ hw1179_0)).trans hw1179_0), ((HB.out.cell (World.block_lt_of_cell? w _ hw1179_1)).trans hw1179_1), ((HB.out.cell (World.block_lt_of_cell? w _ hw1179_2)).trans hw1179_2), ((HB.out.cell (World.block_lt_of_cell? w _ hw1179_3)).trans hw1179_3), ((HB.out.cell (World.block_lt_of_cell? w _ hw1179_4)).trans hw1179_4), ((HB.out.cell (World.block_lt_of_cell? w _ hw1179_5)).trans hw1179_5), ((HB.out.cell (World.block_lt_of_cell? w _ hw1183_0)).trans hw1183_0), ((HB.out.cell (World.block_lt_of_cell? w _ hw1183_1)).trans hw1183_1), ((HB.out.cell (World.block_lt_of_cell? w _ hw1183_2)).trans hw1183_2), ((HB.out.cell (World.block_lt_of_cell? w _ hw1183_3)).trans hw1183_3), ((HB.out.cell (World.block_lt_of_cell? w _ hw1183_4)).trans hw1183_4), ((HB.out.cell (World.block_lt_of_cell? w _ hw1183_5)).trans hw1183_5)⟩ (fun hHeld => ?_); refine with_tabW impl_allInputs.tab1 impl_allInputs.bits1 (fun HT_ HW_ => ?_)
   generalize w.drew = w4 at HB HR1179_1 HR1179_2 HR1179_4 HR1179_5 HR1183_1 HR1183_2 HR1183_4 HR1183_5 hx1179_0 hx1179_1 hx1179_2 hx1179_3 hx1179_4 hx1179_5 hx1183_0 hx1183_1 hx1183_2 hx1183_3 hx1183_4 hx1183_5 hHeld ⊢
   refine rP 1 4 ?_; refine rP 2 5 ?_; refine rP 3 6 ?_; refine rP 6 9 ?_; refine rP 7 10 ?_; refine rP 8 11 ?_; refine rT 4 7 ?_; refine rT 9 12 ?_
   refine one_ (i := 0) (N := some 3) #[true, true, true, true, true, false, true, true, true, true, false, false] rfl rfl (one_of HT_.out ψ14) ψ15 (fun K hK => ?_)
   refine Kd.R_lit_step k77 _ 77 ?hg (N := 3) ?hd (xs := ([] : List (S77))) (inner := []) (ok := fun _ => True) (okp := fun _ => True) ?hr ?hp (fun _ hk => hk) trivial (Below.refl _ _) (Nat.le_refl _) ψ8 ?_; (case hd => rfl); (case hg => rfl); (case hr => first | (go_simp; done) | (go_simp; rfl)); (case hp => exact (Reps.none _ _))
   intro v1177 w5 ho6 hb hg_ hnew_
   clear hg_ hnew_
   (first | rw [← Ny1176.out] at ho6 | (simp only [Int.reduceToNat] at ho6; rw [← Ny1176.out] at ho6))
   have q := n2_ (Kd.R_lower ho6 (below_size ψ59)) (below_step ψ59 hb)
   clear HB
   obtain ⟨HO1178, HB⟩ := q
   clear hb ho6
   refine hK.out _ _ ⟨((HB.out.cell (World.block_lt_of_cell? w _ hw1179_0)).trans hw1179_0), ((HB.out.cell (World.block_lt_of_cell? w _ hw1179_1)).trans hw1179_1), ((HB.out.cell (World.block_lt_of_cell? w _ hw1179_2)).trans hw1179_2), ((HB.out.cell (World.block_lt_of_cell? w _ hw1179_3)).trans hw1179_3), ((HB.out.cell (World.block_lt_of_cell? w _ hw1179_4)).trans hw1179_4), ((HB.out.cell (World.block_lt_of_cell? w _ hw1179_5)).trans hw1179_5), ((HB.out.cell (World.block_lt_of_cell? w _ hw1183_0)).trans hw1183_0), ((HB.out.cell (World.block_lt_of_cell? w _ hw1183_1)).trans hw1183_1), ((HB.out.cell (World.block_lt_of_cell? w _ hw1183_2)).trans hw1183_2), ((HB.out.cell (World.block_lt_of_cell? w _ hw1183_3)).trans hw1183_3), ((HB.out.cell (World.block_lt_of_cell? w _ hw1183_4)).trans hw1183_4), ((HB.out.cell (World.block_lt_of_cell? w _ hw1183_5)).trans hw1183_5)⟩ (fun hHeld => ?_)
   clear hK K
   refine rN 3 ?_
   refine one_ (i := 5) (N := some 8) #[true, true, true, true, true, true, true, true, true, true, false, false] rfl rfl (one_of HT_.out ψ14) ψ15 (fun K hK => ?_)
   refine Kd.R_append_rows_step k77 (w0 := w) w.heap.size ψ16 (.tmp 3) (.tmp 7) 32 77 (.agg #[(.int .i64 0), (.int .i64 0)]) 16 rfl Try.underlying32 info77 rfl ψ15 ψ7 v1177 y1176 ((rd_T35 l0 0).f1) _ _ _ (fun _ => True) (fun _ => False) rfl rfl ?aO ?aR (fun _ _ h => h) (fun _ h => h.elim) ?aF ?aB ?aS ?aL ?_
   (case aR => repeat (first | exact (Kd.C_below HR1179_1.out HB.out) | (with_reducible refine Kd.C_alloc ?_ _) | (with_reducible refine Kd.C_drewN ?_ _) | (with_reducible refine Kd.C_drew ?_)))
   (case aB => exact ψ59)
   (case aF => exact (fun _ _ => trivial))
   (case aO => exact (by (with_reducible repeat (first | apply Kd.R_alloc | apply Kd.R_drewN | apply Kd.R_drew)); exact HO1178.out))
   (case aS => exact (below_size ψ59))
   (case aL => have := LMc2.out; omega)
   intro v1181 w7 ho hb hg hat
   rw [← Ny1180.out] at ho
   have q := n2_ (hb) (ho)
   clear HB HO1178
   obtain ⟨HB, HO1182⟩ := q
   clear ho hb hg hat
   refine hK.out _ _ ⟨((HB.out.cell (World.block_lt_of_cell? w _ hw1179_0)).trans hw1179_0), ((HB.out.cell (World.block_lt_of_cell? w _ hw1179_1)).trans hw1179_1), ((HB.out.cell (World.block_lt_of_cell? w _ hw1179_2)).trans hw1179_2), ((HB.out.cell (World.block_lt_of_cell? w _ hw1179_3)).trans hw1179_3), ((HB.out.cell (World.block_lt_of_cell? w _ hw1179_4)).trans hw1179_4), ((HB.out.cell (World.block_lt_of_cell? w _ hw1179_5)).trans hw1179_5), ((HB.out.cell (World.block_lt_of_cell? w _ hw1183_0)).trans hw1183_0), ((HB.out.cell (World.block_lt_of_cell? w _ hw1183_1)).trans hw1183_1), ((HB.out.cell (World.block_lt_of_cell? w _ hw1183_2)).trans hw1183_2), ((HB.out.cell (World.block_lt_of_cell? w _ hw1183_3)).trans hw1183_3), ((HB.out.cell (World.block_lt_of_cell? w _ hw1183_4)).trans hw1183_4), ((HB.out.cell (World.block_lt_of_cell? w _ hw1183_5)).trans hw1183_5)⟩ (fun hHeld => ?_)
   clear hK K
   refine rN 8 ?_
   refine one_ (i := 10) (N := some 13) #[true, true, true, true, true, true, true, true, true, true, true, false] rfl rfl (one_of HT_.out ψ14) ψ15 (fun K hK => ?_)
   refine Kd.R_append_rows_step k77 (w0 := w) w.heap.size ψ16 (.tmp 8) (.tmp 12) 32 77 (.agg #[(.int .i64 0), (.int .i64 0)]) 16 rfl Try.underlying32 info77 rfl ψ15 ψ7 v1181 y1180 ((rd_T35 l0 0).f2) _ _ _ (fun _ => True) (fun _ => False) rfl rfl ?aO ?aR (fun _ _ h => h) (fun _ h => h.elim) ?aF ?aB ?aS ?aL ?_
   (case aR => repeat (first | exact (Kd.C_below HR1183_2.out HB.out) | (with_reducible refine Kd.C_alloc ?_ _) | (with_reducible refine Kd.C_drewN ?_ _) | (with_reducible refine Kd.C_drew ?_)))
   (case aB => exact ψ59)
   (case aF => exact (fun _ _ => trivial))
   (case aO => exact (by (with_reducible repeat (first | apply Kd.R_alloc | apply Kd.R_drewN | apply Kd.R_drew)); exact HO1182.out))
   (case aS => exact (below_size ψ59))
   (case aL => have := LMc3.out; omega)
   intro v1185 w8 ho hb hg hat
   rw [← Ny1184.out] at ho
   have q := n2_ (hb) (ho)
   clear HB HO1182
   obtain ⟨HB, HO1186⟩ := q
   clear ho hb hg hat
   refine hK.out _ _ ⟨((HB.out.cell (World.block_lt_of_cell? w _ hw1179_0)).trans hw1179_0), ((HB.out.cell (World.block_lt_of_cell? w _ hw1179_1)).trans hw1179_1), ((HB.out.cell (World.block_lt_of_cell? w _ hw1179_2)).trans hw1179_2), ((HB.out.cell (World.block_lt_of_cell? w _ hw1179_3)).trans hw1179_3), ((HB.out.cell (World.block_lt_of_cell? w _ hw1179_4)).trans hw1179_4), ((HB.out.cell (World.block_lt_of_cell? w _ hw1179_5)).trans hw1179_5), ((HB.out.cell (World.block_lt_of_cell? w _ hw1183_0)).trans hw1183_0), ((HB.out.cell (World.block_lt_of_cell? w _ hw1183_1)).trans hw1183_1), ((HB.out.cell (World.block_lt_of_cell? w _ hw1183_2)).trans hw1183_2), ((HB.out.cell (World.block_lt_of_cell? w _ hw1183_3)).trans hw1183_3), ((HB.out.cell (World.block_lt_of_cell? w _ hw1183_4)).trans hw1183_4), ((HB.out.cell (World.block_lt_of_cell? w _ hw1183_5)).trans hw1183_5)⟩ (fun hHeld => ?_)
   clear hK K
   refine rN 13 ?_; refine rP 11 2 ?_
   refine done_ (done_of HT_.out ψ14) ?_
   try go_wp2
   go_ret
   exact ⟨_, ψ9, by (with_reducible repeat (first | apply Kd.R_alloc | apply Kd.R_drewN | apply Kd.R_drew)); exact HO1186.out, ψ59⟩
  ·rw [if_neg c3] at H
   exact absurd H ψ8
 ·rw [if_neg c2] at H
  exact absurd H ψ8

end Go.Proofs.Ytbjmhdoagjmmcaa.PCore

/- The walks of the functions that the laws come to, part 16: turned out of the kit's print, and mended where that fell. -/
import Derived.Test.YtakmkdlkipfnhaaPCoreg
import Derived.Test.YtakmkdlkipfnhaaPCoreg15
namespace Go.Proofs.Ytakmkdlkipfnhaa.PCore
open Go.RowKit Go.Proofs.YtakmkdlkipfnhaaW.PrintWords Go.Proofs.YtakmkdlkipfnhaaW.PrintLast Go.Proofs.YtakmkdlkipfnhaaW.PrintMore
attribute [local go_sem] max2_int min2_int max_two min_two max_three min_three max_four min_four   -- for this text's walks alone
set_option linter.unusedVariables false
set_option maxHeartbeats 8000000
set_option maxRecDepth 100000
set_option linter.unusedSimpArgs false

/-! ### impl_allInputs: function 96 -/
def impl_allInputs.f (l0 : List (S36)) : Option ((List (S106))) := (some (([] : List (S106)) : List (S106))).bind fun y841 => (if y841.length + ((rd_T36 l0 0).f1).length < 8796093022208 then ((some (y841 ++ ((rd_T36 l0 0).f1) : List (S106))).bind fun y845 => (if y845.length + ((rd_T36 l0 0).f2).length < 8796093022208 then (some (y845 ++ ((rd_T36 l0 0).f2))) else (none))) else (none))
def impl_allInputs.T1 : Bool × List (List Nat × List Nat) := (true, [([], []), ([], []), ([1], [1]), ([2], [2]), ([3], [3]), ([0, 4], [0, 4]), ([], []), ([6], [6]), ([7], [7]), ([8], [8]), ([5, 9, 5], [5, 9]), ([10, 10, 0, 1, 2, 3, 4, 5, 6, 7, 8, 9, 10], [10])])
def impl_allInputs.B1 : List Nat := [0, 0, 2, 6, 14, 31, 0, 64, 192, 448, 1023, 2047]
theorem impl_allInputs.tab1 : rtab .any (opsOf Try.f96 1) = impl_allInputs.T1 := by kernel_rfl
theorem impl_allInputs.bits1 : waitsOk impl_allInputs.T1.2 impl_allInputs.B1 = true := by kernel_rfl
theorem impl_allInputs.calls (A0 : Option Addr) (c0 : Nat) (l0 : List (S36)) (r : List (S106)) (w : World) (hn0 : l0.length = 1) (hr0 : Kd.C k36 w A0 l0.length l0) (hc0 : l0.length ≤ c0) (h : impl_allInputs.f l0 = some r) :
 Calls Try.prog 96 #[.pointer A0] w fun e w' => ∃ v0_ : Value, e = .returned (v0_) ∧ Kd.R k106 106 w' w.heap.size (fun _ => True) v0_ r ∧ Below w.heap.size w w' := by
 have q := n2_ hr0 hc0
 clear hr0 hc0
 obtain ⟨HR0, HC0⟩ := q
 have HB := Aside0.mk (Below.refl w.heap.size w)
 unfold impl_allInputs.f at h
 have H := h
 clear h
 obtain ⟨y841, hy841⟩ : ∃ y_ : List (S106), y_ = (([] : List (S106))) := ⟨_, rfl⟩
 replace H : (if y841.length + ((rd_T36 l0 0).f1).length < 8796093022208 then ((some (y841 ++ ((rd_T36 l0 0).f1) : List (S106))).bind fun y845 => (if y845.length + ((rd_T36 l0 0).f2).length < 8796093022208 then (some (y845 ++ ((rd_T36 l0 0).f2))) else (none))) else (none)) = some r := by first | (rw [hy841]; with_reducible exact H) | (have H2_ := (Option.bind_some _ _).symm.trans H; rw [hy841]; with_reducible exact H2_) | (have H2_ := (Option.bind_some _ _).symm.trans H; with_reducible exact H2_) | with_reducible exact H | (rw [hy841]; exact H) | exact H
 have Ny841 := Aside0.mk hy841
 clear hy841
 by_cases c2 : y841.length + ((rd_T36 l0 0).f1).length < 8796093022208
 ·rw [if_pos c2] at H
  have LMc2 := Aside0.mk c2
  clear c2
  obtain ⟨y845, hy845⟩ : ∃ y_ : List (S106), y_ = (y841 ++ ((rd_T36 l0 0).f1)) := ⟨_, rfl⟩
  replace H : (if y845.length + ((rd_T36 l0 0).f2).length < 8796093022208 then (some (y845 ++ ((rd_T36 l0 0).f2))) else (none)) = some r := by first | (rw [hy845]; with_reducible exact H) | (have H2_ := (Option.bind_some _ _).symm.trans H; rw [hy845]; with_reducible exact H2_) | (have H2_ := (Option.bind_some _ _).symm.trans H; with_reducible exact H2_) | with_reducible exact H | (rw [hy845]; exact H) | exact H
  have Ny845 := Aside0.mk hy845
  clear hy845
  by_cases c3 : y845.length + ((rd_T36 l0 0).f2).length < 8796093022208
  ·rw [if_pos c3] at H
   have LMc3 := Aside0.mk c3
   clear c3
   obtain ⟨y849, hy849⟩ : ∃ y_ : List (S106), y_ = (y845 ++ ((rd_T36 l0 0).f2)) := ⟨_, rfl⟩
   replace H : (some y849) = some r := by first | (rw [hy849]; with_reducible exact H) | (have H2_ := (Option.bind_some _ _).symm.trans H; rw [hy849]; with_reducible exact H2_) | (have H2_ := (Option.bind_some _ _).symm.trans H; with_reducible exact H2_) | with_reducible exact H | (rw [hy849]; exact H) | exact H
   have Ny849 := Aside0.mk hy849
   clear hy849
   obtain rfl := Option.some.inj H
   go_enter Try.func96, Try.ntmps96
   try go_wp2
   replace HB := Aside0.mk (below_drew1 HB.out)
   have p844 : 0 ≤ (0 : Int) := ψ21
   have q844 : 0 < (l0.length : Int) := ψ125
   obtain ⟨ad844, A844_1, c844_1, A844_2, c844_2, A844_4, c844_4, A844_5, c844_5, e844, hx844_0, hx844_1, hx844_2, hx844_3, hx844_4, hx844_5, hl844_1, hi844_1, hl844_2, hi844_2, hl844_4, hi844_4, hl844_5, hi844_5⟩ := at_T36 HR0.out 0 p844 q844
   have hw844_5 := hx844_5
   (try rw [show ((0 : Int)).toNat = 0 from rfl] at hw844_5)
   (try rw [show 0 * 6 = 0 from rfl] at hw844_5)
   (try rw [Addr.add_zero'] at hw844_5)
   have hw844_4 := hx844_4
   (try rw [show ((0 : Int)).toNat = 0 from rfl] at hw844_4)
   (try rw [show 0 * 6 = 0 from rfl] at hw844_4)
   (try rw [Addr.add_zero'] at hw844_4)
   have hw844_3 := hx844_3
   (try rw [show ((0 : Int)).toNat = 0 from rfl] at hw844_3)
   (try rw [show 0 * 6 = 0 from rfl] at hw844_3)
   (try rw [Addr.add_zero'] at hw844_3)
   have hw844_2 := hx844_2
   (try rw [show ((0 : Int)).toNat = 0 from rfl] at hw844_2)
   (try rw [show 0 * 6 = 0 from rfl] at hw844_2)
   (try rw [Addr.add_zero'] at hw844_2)
   have hw844_1 := hx844_1
   (try rw [show ((0 : Int)).toNat = 0 from rfl] at hw844_1)
   (try rw [show 0 * 6 = 0 from rfl] at hw844_1)
   (try rw [Addr.add_zero'] at hw844_1)
   have hw844_0 := hx844_0
   (try rw [show ((0 : Int)).toNat = 0 from rfl] at hw844_0)
   (try rw [show 0 * 6 = 0 from rfl] at hw844_0)
   (try rw [Addr.add_zero'] at hw844_0)
   cases e844
   have qi844 : (0 < l0.length) = True := eq_true ψ21
   (try rw [show ((0 : Int)).toNat = 0 from rfl] at hx844_0)
   (try rw [show 0 * 6 = 0 from rfl] at hx844_0)
   (try rw [Addr.add_zero'] at hx844_0)
   (try rw [show ((0 : Int)).toNat = 0 from rfl] at hx844_1)
   (try rw [show 0 * 6 = 0 from rfl] at hx844_1)
   (try rw [Addr.add_zero'] at hx844_1)
   (try rw [show ((0 : Int)).toNat = 0 from rfl] at hx844_2)
   (try rw [show 0 * 6 = 0 from rfl] at hx844_2)
   (try rw [Addr.add_zero'] at hx844_2)
   (try rw [show ((0 : Int)).toNat = 0 from rfl] at hx844_3)
   (try rw [show 0 * 6 = 0 from rfl] at hx844_3)
   (try rw [Addr.add_zero'] at hx844_3)
   (try rw [show ((0 : Int)).toNat = 0 from rfl] at hx844_4)
   (try rw [show 0 * 6 = 0 from rfl] at hx844_4)
   (try rw [Addr.add_zero'] at hx844_4)
   (try rw [show ((0 : Int)).toNat = 0 from rfl] at hx844_5)
   (try rw [show 0 * 6 = 0 from rfl] at hx844_5)
   (try rw [Addr.add_zero'] at hx844_5)
   replace hx844_0 := cB HB hx844_0
   replace hx844_1 := cB HB hx844_1
   replace hx844_2 := cB HB hx844_2
   replace hx844_3 := cB HB hx844_3
   replace hx844_4 := cB HB hx844_4
   replace hx844_5 := cB HB hx844_5
   have q := n8_ hi844_1 hl844_1 hi844_2 hl844_2 hi844_4 hl844_4 hi844_5 hl844_5
   clear hi844_1 hl844_1 hi844_2 hl844_2 hi844_4 hl844_4 hi844_5 hl844_5
   obtain ⟨HR844_1, HC844_1, HR844_2, HC844_2, HR844_4, HC844_4, HR844_5, HC844_5⟩ := q
   replace p844 := eq_true p844
   replace q844 := eq_true q844
   have p848 : 0 ≤ (0 : Int) := ψ21
   have q848 : 0 < (l0.length : Int) := ψ125
   obtain ⟨ad848, A848_1, c848_1, A848_2, c848_2, A848_4, c848_4, A848_5, c848_5, e848, hx848_0, hx848_1, hx848_2, hx848_3, hx848_4, hx848_5, hl848_1, hi848_1, hl848_2, hi848_2, hl848_4, hi848_4, hl848_5, hi848_5⟩ := at_T36 HR0.out 0 p848 q848
   have hw848_5 := hx848_5
   (try rw [show ((0 : Int)).toNat = 0 from rfl] at hw848_5)
   (try rw [show 0 * 6 = 0 from rfl] at hw848_5)
   (try rw [Addr.add_zero'] at hw848_5)
   have hw848_4 := hx848_4
   (try rw [show ((0 : Int)).toNat = 0 from rfl] at hw848_4)
   (try rw [show 0 * 6 = 0 from rfl] at hw848_4)
   (try rw [Addr.add_zero'] at hw848_4)
   have hw848_3 := hx848_3
   (try rw [show ((0 : Int)).toNat = 0 from rfl] at hw848_3)
   (try rw [show 0 * 6 = 0 from rfl] at hw848_3)
   (try rw [Addr.add_zero'] at hw848_3)
   have hw848_2 := hx848_2
   (try rw [show ((0 : Int)).toNat = 0 from rfl] at hw848_2)
   (try rw [show 0 * 6 = 0 from rfl] at hw848_2)
   (try rw [Addr.add_zero'] at hw848_2)
   have hw848_1 := hx848_1
   (try rw [show ((0 : Int)).toNat = 0 from rfl] at hw848_1)
   (try rw [show 0 * 6 = 0 from rfl] at hw848_1)
   (try rw [Addr.add_zero'] at hw848_1)
   have hw848_0 := hx848_0
   (try rw [show ((0 : Int)).toNat = 0 from rfl] at hw848_0)
   (try rw [show 0 * 6 = 0 from rfl] at hw848_0)
   (try rw [Addr.add_zero'] at hw848_0)
   obtain rfl : ad844 = ad848 := (by injection e848)
   have qi848 : (0 < l0.length) = True := eq_true ψ21
   (try rw [show ((0 : Int)).toNat = 0 from rfl] at hx848_0)
   (try rw [show 0 * 6 = 0 from rfl] at hx848_0)
   (try rw [Addr.add_zero'] at hx848_0)
   (try rw [show ((0 : Int)).toNat = 0 from rfl] at hx848_1)
   (try rw [show 0 * 6 = 0 from rfl] at hx848_1)
   (try rw [Addr.add_zero'] at hx848_1)
   (try rw [show ((0 : Int)).toNat = 0 from rfl] at hx848_2)
   (try rw [show 0 * 6 = 0 from rfl] at hx848_2)
   (try rw [Addr.add_zero'] at hx848_2)
   (try rw [show ((0 : Int)).toNat = 0 from rfl] at hx848_3)
   (try rw [show 0 * 6 = 0 from rfl] at hx848_3)
   (try rw [Addr.add_zero'] at hx848_3)
   (try rw [show ((0 : Int)).toNat = 0 from rfl] at hx848_4)
   (try rw [show 0 * 6 = 0 from rfl] at hx848_4)
   (try rw [Addr.add_zero'] at hx848_4)
   (try rw [show ((0 : Int)).toNat = 0 from rfl] at hx848_5)
   (try rw [show 0 * 6 = 0 from rfl] at hx848_5)
   (try rw [Addr.add_zero'] at hx848_5)
   replace hx848_0 := cB HB hx848_0
   replace hx848_1 := cB HB hx848_1
   replace hx848_2 := cB HB hx848_2
   replace hx848_3 := cB HB hx848_3
   replace hx848_4 := cB HB hx848_4
   replace hx848_5 := cB HB hx848_5
   have q := n8_ hi848_1 hl848_1 hi848_2 hl848_2 hi848_4 hl848_4 hi848_5 hl848_5
   clear hi848_1 hl848_1 hi848_2 hl848_2 hi848_4 hl848_4 hi848_5 hl848_5
   obtain ⟨HR848_1, HC848_1, HR848_2, HC848_2, HR848_4, HC848_4, HR848_5, HC848_5⟩ := q
   replace p848 := eq_true p848
   replace q848 := eq_true q848
   have ea_ := Option.some.inj (hx844_1.symm.trans hx848_1)
   injection ea_ with ea_ en_ ec_
   subst ea_
   subst ec_
   clear en_
   have ea_ := Option.some.inj (hx844_2.symm.trans hx848_2)
   injection ea_ with ea_ en_ ec_
   subst ea_
   subst ec_
   clear en_
   have ea_ := Option.some.inj (hx844_4.symm.trans hx848_4)
   injection ea_ with ea_ en_ ec_
   subst ea_
   subst ec_
   clear en_
   have ea_ := Option.some.inj (hx844_5.symm.trans hx848_5)
   injection ea_ with ea_ en_ ec_
   subst ea_
   subst ec_
   clear en_
   refine start_ (n := 12) (S := fun w' => w'.cell? ad844 = some (.int .i64 ((rd_T36 l0 0).f0)) ∧ w'.cell? ⟨ad844.block, ad844.off + 1, none⟩ = some (.slice A844_1 ((rd_T36 l0 0).f1).length c844_1) ∧ w'.cell? ⟨ad844.block, ad844.off + 2, none⟩ = some (.slice A844_2 ((rd_T36 l0 0).f2).length c844_2) ∧ w'.cell? ⟨ad844.block, ad844.off + 3, none⟩ = some (.int .i64 ((rd_T36 l0 0).f3)) ∧ w'.cell? ⟨ad844.block, ad844.off + 4, none⟩ = some (.slice A844_4 ((rd_T36 l0 0).f4).length c844_4) ∧ w'.cell? ⟨ad844.block, ad844.off + 5, none⟩ = some (.slice A844_5 ((rd_T36 l0 0).f5).length c844_5) ∧ w'.cell? ad844 = some (.int .i64 ((rd_T36 l0 0).f0)) ∧ w'.cell? ⟨ad844.block, ad844.off + 1, none⟩ = some (.slice A844_1 ((rd_T36 l0 0).f1).length c844_1) ∧ w'.cell? ⟨ad844.block, ad844.off + 2, none⟩ = some (.slice A844_2 ((rd_T36 l0 0).f2).length c844_2) ∧ w'.cell? ⟨ad844.block, ad844.off + 3, none⟩ = some (.int .i64 ((rd_T36 l0 0).f3)) ∧ w'.cell? ⟨ad844.block, ad844.off + 4, none⟩ = some (.slice A844_4 ((rd_T36 l0 0).f4).length c844_4) ∧ w'.cell? ⟨ad844.block, ad844.off + 5, none⟩ = some (.slice A844_5 ((rd_T36 l0 0).f5).length c844_5)) (ds := []) #[false, false, false, false, false, false, false, false, false, false, false, false] ψ12 rfl rfl ⟨((HB.out.cell (World.block_lt_of_cell? w _ hw844_0)).trans hw844_0), ((HB.out.cell (World.block_lt_of_cell? w _ hw844_1)).trans hw844_1), ((HB.out.cell (World.block_lt_of_cell? w _ hw844_2)).trans hw844_2), ((HB.out.cell (World.block_lt_of_cell? w _ hw844_3)).trans hw844_3), ((HB.out.cell (World.block_lt_of_cell? w _ hw844_4)).trans hw844_4), ((HB.out.cell (World.block_lt_of_cell? w _ hw844_5)).trans hw844_5), ((HB.out.cell (World.block_lt_of_cell? w _ hw848_0)).trans hw848_0), ((HB.out.cell (World.block_lt_of_cell? w _ hw848_1)).trans hw848_1), ((HB.out.cell (World.block_lt_of_cell? w _ hw848_2)).trans hw848_2), ((HB.out.cell (World.block_lt_of_cell? w _ hw848_3)).trans hw848_3), ((HB.out.cell (World.block_lt_of_cell? w _ hw848_4)).trans hw848_4), ((HB.out.cell (World.block_lt_of_cell? w _ hw848_5)).trans hw848_5)⟩ (fun hHeld => ?_); refine with_tabW impl_allInputs.tab1 impl_allInputs.bits1 (fun HT_ HW_ => ?_)
   generalize w.drew = w4 at HB HR844_1 HR844_2 HR844_4 HR844_5 HR848_1 HR848_2 HR848_4 HR848_5 hx844_0 hx844_1 hx844_2 hx844_3 hx844_4 hx844_5 hx848_0 hx848_1 hx848_2 hx848_3 hx848_4 hx848_5 hHeld ⊢
   refine rP 1 4 ?_; refine rP 2 5 ?_; refine rP 3 6 ?_; refine rP 6 9 ?_; refine rP 7 10 ?_; refine rP 8 11 ?_; refine rT 4 7 ?_; refine rT 9 12 ?_
   refine one_ (i := 0) (N := some 3) #[true, true, true, true, true, false, true, true, true, true, false, false] rfl rfl (one_of HT_.out ψ12) ψ13 (fun K hK => ?_)
   refine Kd.R_lit_step k106 _ 106 ?hg (N := 3) ?hd (xs := ([] : List (S106))) (inner := []) (ok := fun _ => True) (okp := fun _ => True) ?hr ?hp (fun _ hk => hk) trivial (Below.refl _ _) (Nat.le_refl _) ψ22 ?_; (case hd => rfl); (case hg => rfl); (case hr => first | (go_simp; done) | (go_simp; rfl)); (case hp => exact (Reps.none _ _))
   intro v842 w5 ho6 hb hg_ hnew_
   clear hg_ hnew_
   (first | rw [← Ny841.out] at ho6 | (simp only [Int.reduceToNat] at ho6; rw [← Ny841.out] at ho6))
   have q := n2_ (Kd.R_lower ho6 (below_size ψ6)) (below_step ψ6 hb)
   clear HB
   obtain ⟨HO843, HB⟩ := q
   clear hb ho6
   refine hK.out _ _ ⟨((HB.out.cell (World.block_lt_of_cell? w _ hw844_0)).trans hw844_0), ((HB.out.cell (World.block_lt_of_cell? w _ hw844_1)).trans hw844_1), ((HB.out.cell (World.block_lt_of_cell? w _ hw844_2)).trans hw844_2), ((HB.out.cell (World.block_lt_of_cell? w _ hw844_3)).trans hw844_3), ((HB.out.cell (World.block_lt_of_cell? w _ hw844_4)).trans hw844_4), ((HB.out.cell (World.block_lt_of_cell? w _ hw844_5)).trans hw844_5), ((HB.out.cell (World.block_lt_of_cell? w _ hw848_0)).trans hw848_0), ((HB.out.cell (World.block_lt_of_cell? w _ hw848_1)).trans hw848_1), ((HB.out.cell (World.block_lt_of_cell? w _ hw848_2)).trans hw848_2), ((HB.out.cell (World.block_lt_of_cell? w _ hw848_3)).trans hw848_3), ((HB.out.cell (World.block_lt_of_cell? w _ hw848_4)).trans hw848_4), ((HB.out.cell (World.block_lt_of_cell? w _ hw848_5)).trans hw848_5)⟩ (fun hHeld => ?_)
   clear hK K
   refine rN 3 ?_
   refine one_ (i := 5) (N := some 8) #[true, true, true, true, true, true, true, true, true, true, false, false] rfl rfl (one_of HT_.out ψ12) ψ13 (fun K hK => ?_)
   refine Kd.R_append_rows_step k106 (w0 := w) w.heap.size ψ14 (.tmp 3) (.tmp 7) 33 106 (.agg #[(.int .i64 0), (.int .i64 0)]) 16 rfl Try.underlying33 info106 rfl ψ13 ψ21 v842 y841 ((rd_T36 l0 0).f1) _ _ _ (fun _ => True) (fun _ => False) rfl rfl ?aO ?aR (fun _ _ h => h) (fun _ h => h.elim) ?aF ?aB ?aS ?aL ?_
   (case aR => repeat (first | exact (Kd.C_below HR844_1.out HB.out) | (with_reducible refine Kd.C_alloc ?_ _) | (with_reducible refine Kd.C_drewN ?_ _) | (with_reducible refine Kd.C_drew ?_)))
   (case aB => exact ψ6)
   (case aF => exact (fun _ _ => trivial))
   (case aO => exact (have hZ := HO843; kR_))
   (case aS => exact (below_size ψ6))
   (case aL => have := LMc2.out; omega)
   intro v846 w7 ho hb hg hat
   rw [← Ny845.out] at ho
   have q := n2_ (hb) (ho)
   clear HB HO843
   obtain ⟨HB, HO847⟩ := q
   clear ho hb hg hat
   refine hK.out _ _ ⟨((HB.out.cell (World.block_lt_of_cell? w _ hw844_0)).trans hw844_0), ((HB.out.cell (World.block_lt_of_cell? w _ hw844_1)).trans hw844_1), ((HB.out.cell (World.block_lt_of_cell? w _ hw844_2)).trans hw844_2), ((HB.out.cell (World.block_lt_of_cell? w _ hw844_3)).trans hw844_3), ((HB.out.cell (World.block_lt_of_cell? w _ hw844_4)).trans hw844_4), ((HB.out.cell (World.block_lt_of_cell? w _ hw844_5)).trans hw844_5), ((HB.out.cell (World.block_lt_of_cell? w _ hw848_0)).trans hw848_0), ((HB.out.cell (World.block_lt_of_cell? w _ hw848_1)).trans hw848_1), ((HB.out.cell (World.block_lt_of_cell? w _ hw848_2)).trans hw848_2), ((HB.out.cell (World.block_lt_of_cell? w _ hw848_3)).trans hw848_3), ((HB.out.cell (World.block_lt_of_cell? w _ hw848_4)).trans hw848_4), ((HB.out.cell (World.block_lt_of_cell? w _ hw848_5)).trans hw848_5)⟩ (fun hHeld => ?_)
   clear hK K
   refine rN 8 ?_
   refine one_ (i := 10) (N := some 13) #[true, true, true, true, true, true, true, true, true, true, true, false] rfl rfl (one_of HT_.out ψ12) ψ13 (fun K hK => ?_)
   refine Kd.R_append_rows_step k106 (w0 := w) w.heap.size ψ14 (.tmp 8) (.tmp 12) 33 106 (.agg #[(.int .i64 0), (.int .i64 0)]) 16 rfl Try.underlying33 info106 rfl ψ13 ψ21 v846 y845 ((rd_T36 l0 0).f2) _ _ _ (fun _ => True) (fun _ => False) rfl rfl ?aO ?aR (fun _ _ h => h) (fun _ h => h.elim) ?aF ?aB ?aS ?aL ?_
   (case aR => repeat (first | exact (Kd.C_below HR848_2.out HB.out) | (with_reducible refine Kd.C_alloc ?_ _) | (with_reducible refine Kd.C_drewN ?_ _) | (with_reducible refine Kd.C_drew ?_)))
   (case aB => exact ψ6)
   (case aF => exact (fun _ _ => trivial))
   (case aO => exact (have hZ := HO847; kR_))
   (case aS => exact (below_size ψ6))
   (case aL => have := LMc3.out; omega)
   intro v850 w8 ho hb hg hat
   rw [← Ny849.out] at ho
   have q := n2_ (hb) (ho)
   clear HB HO847
   obtain ⟨HB, HO851⟩ := q
   clear ho hb hg hat
   refine hK.out _ _ ⟨((HB.out.cell (World.block_lt_of_cell? w _ hw844_0)).trans hw844_0), ((HB.out.cell (World.block_lt_of_cell? w _ hw844_1)).trans hw844_1), ((HB.out.cell (World.block_lt_of_cell? w _ hw844_2)).trans hw844_2), ((HB.out.cell (World.block_lt_of_cell? w _ hw844_3)).trans hw844_3), ((HB.out.cell (World.block_lt_of_cell? w _ hw844_4)).trans hw844_4), ((HB.out.cell (World.block_lt_of_cell? w _ hw844_5)).trans hw844_5), ((HB.out.cell (World.block_lt_of_cell? w _ hw848_0)).trans hw848_0), ((HB.out.cell (World.block_lt_of_cell? w _ hw848_1)).trans hw848_1), ((HB.out.cell (World.block_lt_of_cell? w _ hw848_2)).trans hw848_2), ((HB.out.cell (World.block_lt_of_cell? w _ hw848_3)).trans hw848_3), ((HB.out.cell (World.block_lt_of_cell? w _ hw848_4)).trans hw848_4), ((HB.out.cell (World.block_lt_of_cell? w _ hw848_5)).trans hw848_5)⟩ (fun hHeld => ?_)
   clear hK K
   refine rN 13 ?_; refine rP 11 2 ?_
   refine done_ (done_of HT_.out ψ12) ?_
   try go_wp2
   go_ret
   exact ⟨_, ψ4, by (with_reducible repeat (first | apply Kd.R_alloc | apply Kd.R_drewN | apply Kd.R_drew)); exact HO851.out, ψ6⟩
  ·rw [if_neg c3] at H
   exact absurd H ψ22
 ·rw [if_neg c2] at H
  exact absurd H ψ22

/-! ### impl_NumberOf: function 47 -/
theorem impl_NumberOf.box_T36 {w : World} {g : Nat} {x : S36} {A1 : Option Addr} {c1 : Nat} {A2 : Option Addr} {c2 : Nat} {A4 : Option Addr} {c4 : Nat} {A5 : Option Addr} {c5 : Nat} (hb : w.heap[g]? = some (.cells #[.int .i64 x.f0, .slice A1 x.f1.length c1, .slice A2 x.f2.length c2, .int .i64 x.f3, .slice A4 x.f4.length c4, .slice A5 x.f5.length c5] 36 (0, 0))) (l1 : x.f1.length ≤ c1) (g1 : Kd.C k106 w A1 x.f1.length x.f1) (l2 : x.f2.length ≤ c2) (g2 : Kd.C k106 w A2 x.f2.length x.f2) (l4 : x.f4.length ≤ c4) (g4 : Kd.C (Kd.int .i64) w A4 x.f4.length x.f4) (l5 : x.f5.length ≤ c5) (g5 : Kd.C k114 w A5 x.f5.length x.f5) : Kd.C k36 w (some ⟨g, 0, none⟩) ([x] : List S36).length [x] := by
 refine ⟨rfl, show (1 : Nat) ≤ 9223372036854775807 from ψ13, fun _ => ⟨_, rfl, fun j p hj => ?_⟩⟩
 match j, hj with
 | 0, hj =>
  cases hj
  refine ⟨_, rfl, k36_mk w x l1 g1 l2 g2 l4 g4 l5 g5, fun i u hu => ?_⟩
  match i, hu with
  | 0, hu => cases hu; exact (blk_cell hb 0).trans rfl
  | 1, hu => cases hu; exact (blk_cell hb 1).trans rfl
  | 2, hu => cases hu; exact (blk_cell hb 2).trans rfl
  | 3, hu => cases hu; exact (blk_cell hb 3).trans rfl
  | 4, hu => cases hu; exact (blk_cell hb 4).trans rfl
  | 5, hu => cases hu; exact (blk_cell hb 5).trans rfl
  | i + 6, hu => simp at hu
 | j + 1, hj => simp at hj
def impl_NumberOf.l0 : Nat → Int → List (S106) → List Int → Int → Option (Int)
 | 0, _, _, _, _ => none
 | k + 1, x9, x10, x11, x12 => if x12 ≥ 0 then (if 0 ≤ x12 then (if x12 < (x10.length : Int) then (if x12 < (x11.length : Int) then (impl_NumberOf.l0 k (wrap64 ((wrap64 (x9 * (wrap64 (((rd_T106 x10 x12).f0) + 1)))) + (rd x11 x12))) x10 x11 (wrap64 (x12 - 1))) else (none)) else (none)) else (none)) else (some x9)
def impl_NumberOf.f (k : Nat) (a0_0 : Int) (l0_1 : List (S106)) (l0_2 : List (S106)) (a0_3 : Int) (l0_4 : List Int) (l0_5 : List (S114)) (l1 : List Int) (l2 : List Int) : Option (Int) := (impl_StartOf.f k a0_0 l0_1 l0_2 a0_3 l0_4 l0_5 l1 l2).bind fun bt854 => (if bt854.2.2 = true then ((impl_allInputs.f [(⟨a0_0, l0_1, l0_2, a0_3, l0_4, l0_5⟩ : S36)]).bind fun t862 => ((some (([] : List Int) : List Int)).bind fun y865 => (if y865.length + l1.length < 17592186044416 then ((some (y865 ++ l1 : List Int)).bind fun y868 => (if y868.length + l2.length < 17592186044416 then ((some (y868 ++ l2 : List Int)).bind fun y871 => (impl_NumberOf.l0 k 0 t862 y871 (wrap64 ((y871.length : Int) - 1)))) else (none))) else (none)))) else (some (-1)))
theorem τ76 {P : Prop} (h : P := by
 first | obtain rfl := Option.some.inj H | (have H' := Aside0.mk H; clear H)
 try (obtain ⟨Ao1_, co1_, eo1_⟩ := Kd.R_slice HO_10.out)
 try (subst eo1_)
 try (have p874 : 0 ≤ (x12_1 : Int) := of_decide_eq_true ψ5; have q874 : x12_1 < (t862.length : Int) := of_decide_eq_true ψ5; obtain ⟨ad874, e874, hx874_0, hx874_1⟩ := at_T106 (Kd.R_reads' HO_10.out).2.2 x12_1 p874 q874; cases e874; replace p874 := eq_true p874; replace q874 := eq_true q874)
 try (have p875 : 0 ≤ (x12_1 : Int) := of_decide_eq_true ψ5; have q875 : x12_1 < (y871.length : Int) := of_decide_eq_true ψ5; obtain ⟨ad875, e875, hx875_0⟩ := Kd.at_int (Kd.R_reads' HO_11.out).2.2 x12_1 p875 q875; cases e875; replace p875 := eq_true p875; replace q875 := eq_true q875)
 go_wp2_with (first | ((with_reducible refine qR_ ?_)) | ((with_reducible refine wpQuiet_step (fun K hK => ?_)); go_simp; first | (refine hK _ ?_; clear hK K) | (apply Exists.intro; refine ⟨fun _ => ?_, hK _ ?_⟩)) | ((with_reducible refine wpQuiet_nil ?_); rintro _ ⟨nq, rfl⟩))
 first | (go_roundg k1; (case measure => have := HK1.out; omega); (case rel => exact ⟨(wrap64 ((wrap64 (x9_1 * (wrap64 (((rd_T106 t862 x12_1).f0) + 1)))) + (rd y871 x12_1))), (wrap64 (x12_1 - 1)), ψ7, ψ7, H', ⟨ψ8⟩, ⟨have hZ := HO_10; kR_⟩, ⟨have hZ := HO_11; kR_⟩, ⟨have hZ := HO_862000; kR_⟩, ⟨have hZ := HO_862001; kS_⟩, ⟨ψ10⟩, ⟨ψ24⟩, ⟨ψ25⟩⟩)) | (go_ret; exact ⟨ψ4, ψ25⟩)) : P := h
theorem impl_NumberOf.calls (k : Nat) (a0_0 : Int) (A0_1 : Option Addr) (c0_1 : Nat) (l0_1 : List (S106)) (A0_2 : Option Addr) (c0_2 : Nat) (l0_2 : List (S106)) (a0_3 : Int) (A0_4 : Option Addr) (c0_4 : Nat) (l0_4 : List Int) (A0_5 : Option Addr) (c0_5 : Nat) (l0_5 : List (S114)) (A1 : Option Addr) (c1 : Nat) (l1 : List Int) (A2 : Option Addr) (c2 : Nat) (l2 : List Int) (r : Int) (w : World) (hr0_1 : Kd.C k106 w A0_1 l0_1.length l0_1) (hc0_1 : l0_1.length ≤ c0_1) (hr0_2 : Kd.C k106 w A0_2 l0_2.length l0_2) (hc0_2 : l0_2.length ≤ c0_2) (hr0_4 : Kd.C (Kd.int .i64) w A0_4 l0_4.length l0_4) (hc0_4 : l0_4.length ≤ c0_4) (hr0_5 : Kd.C k114 w A0_5 l0_5.length l0_5) (hc0_5 : l0_5.length ≤ c0_5) (hr1 : Kd.C (Kd.int .i64) w A1 l1.length l1) (hc1 : l1.length ≤ c1) (hr2 : Kd.C (Kd.int .i64) w A2 l2.length l2) (hc2 : l2.length ≤ c2) (h : impl_NumberOf.f k a0_0 l0_1 l0_2 a0_3 l0_4 l0_5 l1 l2 = some r) :
 Calls Try.prog 47 #[.agg #[.int .i64 a0_0, .slice A0_1 l0_1.length c0_1, .slice A0_2 l0_2.length c0_2, .int .i64 a0_3, .slice A0_4 l0_4.length c0_4, .slice A0_5 l0_5.length c0_5], .slice A1 l1.length c1, .slice A2 l2.length c2] w fun e w' => e = .returned (.int .i64 r) ∧ Below w.heap.size w w' := by
 have hu36 := Try.underlying36
 have hu38 := Try.underlying38
 have q := n12_ hr0_1 hc0_1 hr0_2 hc0_2 hr0_4 hc0_4 hr0_5 hc0_5 hr1 hc1 hr2 hc2
 clear hr0_1 hc0_1 hr0_2 hc0_2 hr0_4 hc0_4 hr0_5 hc0_5 hr1 hc1 hr2 hc2
 obtain ⟨HR0_1, HC0_1, HR0_2, HC0_2, HR0_4, HC0_4, HR0_5, HC0_5, HR1, HC1, HR2, HC2⟩ := q
 have HB := Aside0.mk (Below.refl w.heap.size w)
 unfold impl_NumberOf.f at h
 have H := h
 clear h
 replace H := bS H; obtain ⟨⟨t854, t857, t860⟩, A4, H⟩ := H
 replace H := ifB H; rcases H with ⟨rfl, H⟩ | ⟨rfl, H⟩
 ·replace H := bS H; obtain ⟨t862, A6, H⟩ := H
  obtain ⟨y865, hy865⟩ : ∃ y_ : List Int, y_ = (([] : List Int)) := ⟨_, rfl⟩
  replace H : (if y865.length + l1.length < 17592186044416 then ((some (y865 ++ l1 : List Int)).bind fun y868 => (if y868.length + l2.length < 17592186044416 then ((some (y868 ++ l2 : List Int)).bind fun y871 => (impl_NumberOf.l0 k 0 t862 y871 (wrap64 ((y871.length : Int) - 1)))) else (none))) else (none)) = some r := by first | (rw [hy865]; with_reducible exact H) | (have H2_ := (Option.bind_some _ _).symm.trans H; rw [hy865]; with_reducible exact H2_) | (have H2_ := (Option.bind_some _ _).symm.trans H; with_reducible exact H2_) | with_reducible exact H | (rw [hy865]; exact H) | exact H
  have Ny865 := Aside0.mk hy865
  clear hy865
  by_cases c7 : y865.length + l1.length < 17592186044416
  ·rw [if_pos c7] at H
   have LMc7 := Aside0.mk c7
   clear c7
   obtain ⟨y868, hy868⟩ : ∃ y_ : List Int, y_ = (y865 ++ l1) := ⟨_, rfl⟩
   replace H : (if y868.length + l2.length < 17592186044416 then ((some (y868 ++ l2 : List Int)).bind fun y871 => (impl_NumberOf.l0 k 0 t862 y871 (wrap64 ((y871.length : Int) - 1)))) else (none)) = some r := by first | (rw [hy868]; with_reducible exact H) | (have H2_ := (Option.bind_some _ _).symm.trans H; rw [hy868]; with_reducible exact H2_) | (have H2_ := (Option.bind_some _ _).symm.trans H; with_reducible exact H2_) | with_reducible exact H | (rw [hy868]; exact H) | exact H
   have Ny868 := Aside0.mk hy868
   clear hy868
   by_cases c8 : y868.length + l2.length < 17592186044416
   ·rw [if_pos c8] at H
    have LMc8 := Aside0.mk c8
    clear c8
    obtain ⟨y871, hy871⟩ : ∃ y_ : List Int, y_ = (y868 ++ l2) := ⟨_, rfl⟩
    replace H : (impl_NumberOf.l0 k 0 t862 y871 (wrap64 ((y871.length : Int) - 1))) = some r := by first | (rw [hy871]; with_reducible exact H) | (have H2_ := (Option.bind_some _ _).symm.trans H; rw [hy871]; with_reducible exact H2_) | (have H2_ := (Option.bind_some _ _).symm.trans H; with_reducible exact H2_) | with_reducible exact H | (rw [hy871]; exact H) | exact H
    have Ny871 := Aside0.mk hy871
    clear hy871
    have H' := Aside0.mk H
    clear H
    go_enter Try.func47, Try.ntmps47
    go_wp2_with (first | ((with_reducible refine gate_dst (N := 3) rfl ?_); refine bE 3 #[.int .i64 a0_0, .slice A0_1 l0_1.length c0_1, .slice A0_2 l0_2.length c0_2, .int .i64 a0_3, .slice A0_4 l0_4.length c0_4, .slice A0_5 l0_5.length c0_5] 36 ?_; intro gb10 hg w9 hbox hb; have q := n4_ (below_step ψ25 hb) (hbox) ((ψ115 : w.heap.size ≤ gb10)) ((ψ115 : w.heap.size ≤ gb10)); clear HB; obtain ⟨HB, BK10, GW10, GE10⟩ := q; clear hb hbox hg; obtain ⟨y10_0, y10_1, y10_2, y10_3, y10_4, y10_5, u10_0, u10_1, u10_2, u10_3, u10_4, u10_5⟩ := cells6 BK10.out) | (go_at_call 31; (with_reducible refine (impl_StartOf.calls k a0_0 _ _ l0_1 _ _ l0_2 a0_3 _ _ l0_4 _ _ l0_5 _ _ l1 _ _ l2 _ _ _ _ ?_ ?_ ?_ ?_ ?_ ?_ ?_ ?_ ?_ ?_ ?_ ?_ A4.out).mono ?_); exact ψ9; exact HC0_1.out; exact ψ3; exact HC0_2.out; exact ψ16; exact HC0_4.out; exact ψ17; exact HC0_5.out; exact ψ23; exact HC1.out; exact ψ103; exact HC2.out; rintro e w11 ⟨v855, v858, rfl, ho0, ho1, hb⟩; have q := n4_ (Kd.R_lower ho0 (below_size ψ25)) (Kd.S_lower ho1 (below_size ψ25)) (blk_below (g := gb10) ψ10 hb) (below_step ψ25 hb); clear BK10 HB; obtain ⟨HO856, HO859, BK10, HB⟩ := q; (try clear hb); (try clear ho0); (try clear ho1)) | ((with_reducible refine gate_dst (N := 7) rfl ?_); refine bE 7 #[.slice none 0 0, .slice none 0 0] 38 ?_; intro gb11 hg w12 hbox hb; have q := n9_ (Kd.R_below (have hZ := HO856; kR_) hb) (Kd.S_below (have hZ := HO859; kS_) hb) (blk_below (g := gb10) ψ10 hb) (below_step ψ25 hb) (hbox) ((ψ115 : w.heap.size ≤ gb11)) ((ψ115 : w.heap.size ≤ gb11)) ((ψ116 : gb10 ≠ gb11)) ((ψ117 : gb11 ≠ gb10)); clear HO856 HO859 BK10 HB; obtain ⟨HO856, HO859, BK10, HB, BK11, GW11, GE11, NB10_11, NB11_10⟩ := q; clear hb hbox hg; obtain ⟨Ao13, co13, eo13⟩ := Kd.R_slice HO856.out; subst eo13; have hnb14 := NB11_10.out; have hnc14 := NB10_11.out; obtain ⟨y15_0, y15_1, u15_0, u15_1⟩ := cells2 BK11.out; obtain ⟨Ao16, co16, eo16⟩ := Kd.S_slice HO859.out; subst eo16) | (go_at_call 96; (with_reducible refine (impl_allInputs.calls _ 1 [(⟨a0_0, l0_1, l0_2, a0_3, l0_4, l0_5⟩ : S36)] _ _ ?_ ?_ ?_ A6.out).mono ?_); exact rfl; exact (by refine impl_NumberOf.box_T36 ψ99 ?_ ?_ ?_ ?_ ?_ ?_ ?_ ?_; exact HC0_1.out; exact Kd.C_below HR0_1.out ψ25; exact HC0_2.out; exact Kd.C_below HR0_2.out ψ25; exact HC0_4.out; exact Kd.C_below HR0_4.out ψ25; exact HC0_5.out; exact Kd.C_below HR0_5.out ψ25); exact Nat.le_refl 1; rintro e w17 ⟨v863, rfl, ho0, hb⟩; have q := n6_ (Kd.R_below (by (with_reducible repeat (first | apply Kd.R_alloc | apply Kd.R_drewN | apply Kd.R_drew)); exact (Kd.R_mono (Kd.R_far (p := ⟨gb11, 1, none⟩) (Kd.R_far (p := ⟨gb11, 0, none⟩) (Kd.R_types HO856.out BK11.out ψ13) (fun _ hk => hk.2) (.slice Ao13 t854.length co13)) (fun _ hk => hk.2) (.slice Ao16 t857.length co16)) (fun _ h_ => h_.1))) hb) (Kd.S_below (by (with_reducible repeat (first | apply Kd.S_alloc | apply Kd.S_drewN | apply Kd.S_drew)); exact (Kd.S_mono (Kd.S_far (p := ⟨gb11, 1, none⟩) (Kd.S_far (p := ⟨gb11, 0, none⟩) (Kd.S_types HO859.out BK11.out ψ13) (fun _ hk => hk.2) (.slice Ao13 t854.length co13)) (fun _ hk => hk.2) (.slice Ao16 t857.length co16)) (fun _ h_ => h_.1))) hb) (Kd.R_lower ho0 (below_size ψ25)) (blk_below (g := gb10) (o := .cells #[.int .i64 a0_0, .slice A0_1 l0_1.length c0_1, .slice A0_2 l0_2.length c0_2, .int .i64 a0_3, .slice A0_4 l0_4.length c0_4, .slice A0_5 l0_5.length c0_5] 36 (0, 0)) ψ99 hb) (blk_below (g := gb11) (o := .cells #[.slice Ao13 t854.length co13, .slice Ao16 t857.length co16] 38 (0, 0)) (by (with_reducible repeat (first | refine blk_drewN ?_ _ | refine blk_drew ?_ | refine blk_alloc ?_ _)); refine blk_put (cs := #[.slice Ao13 t854.length co13, .slice none 0 0]) ?_ 1 _ rfl; (with_reducible repeat (first | refine blk_drewN ?_ _ | refine blk_drew ?_ | refine blk_alloc ?_ _)); refine blk_put (cs := #[.slice none 0 0, .slice none 0 0]) ?_ 0 _ rfl; (with_reducible repeat (first | refine blk_drewN ?_ _ | refine blk_drew ?_ | refine blk_alloc ?_ _)); exact BK11.out) hb) (below_step ψ25 hb); clear HO856 HO859 BK10 BK11 HB; obtain ⟨HO856, HO859, HO864, BK10, BK11, HB⟩ := q; (try clear hb); (try clear ho0)) | ((with_reducible refine gate_dst (N := 23) rfl ?_); refine Kd.R_lit (Kd.int .i64) _ 2 ?hg (N := 23) ?hd (xs := ([] : List Int)) (inner := []) (ok := fun _ => True) (okp := fun _ => True) ?hr ?hp (fun _ hk => hk) trivial (Below.refl _ _) (Nat.le_refl _) ψ22 ?_; (case hd => rfl); (case hg => rfl); (case hr => first | (go_simp; done) | (go_simp; rfl)); (case hp => exact (Reps.none _ _)); intro v866 w18 ho19 hb hg_ hnew_; clear hg_ hnew_; (first | rw [← Ny865.out] at ho19 | (simp only [Int.reduceToNat] at ho19; rw [← Ny865.out] at ho19)); have q := n7_ (Kd.R_elder' (have hZ := HO856; kR_) (Kd.R_base ho19) hb) (Kd.S_elder' (have hZ := HO859; kS_) (Kd.R_base ho19) hb) (Kd.R_below (have hZ := HO864; kR_) hb) (Kd.R_lower (Kd.R_new' ho19 (Kd.R_lt (have hZ := HO856; kR_))) (below_size ψ25)) (blk_below (g := gb10) ψ10 hb) (blk_below (g := gb11) ψ24 hb) (below_step ψ25 hb); clear HO856 HO859 HO864 BK10 BK11 HB; obtain ⟨HO856, HO859, HO864, HO867, BK10, BK11, HB⟩ := q; clear hb ho19) | ((with_reducible refine gate_builtin (b := .append) (xs := #[.tmp 23, .tmp 24]) rfl ?_); at_builtin; refine Kd.R_append_rows (Kd.int .i64) (w0 := w) w.heap.size rfl (.tmp 23) (.tmp 24) 23 2 (.int .i64 0) 8 rfl Try.underlying23 info2 rfl ψ13 ψ21 v866 y865 l1 _ _ _ (fun k_ => some k_ ≠ (.slice Ao13 t854.length co13 : Value).ownBlock) (fun _ => False) rfl rfl ?aO ?aR (fun _ _ h => h) (fun _ h => h.elim) ?aF ?aB ?aS ?aL ?_; (case aR => repeat (first | exact (Kd.C_below HR1.out HB.out) | (with_reducible refine Kd.C_alloc ?_ _) | (with_reducible refine Kd.C_drewN ?_ _) | (with_reducible refine Kd.C_drew ?_))); (case aB => exact ψ25); (case aF => exact (fun k_ hk => Kd.fresh' (Kd.R_lt (have hZ := HO856; kR_)) k_ hk)); (case aO => exact (by (with_reducible repeat (first | apply Kd.R_alloc | apply Kd.R_drewN | apply Kd.R_drew)); exact Kd.R_mono HO867.out (fun _ hk => hk.2))); (case aS => exact (below_size ψ25)); (case aL => have := LMc7.out; omega); intro v869 w20 ho hb hg hat; rw [← Ny868.out] at ho; have q := n7_ (blk_grown (g := gb10) ψ10 hg (Kd.R_ne HO867.out BK10.out ψ13)) (Kd.R_after (ok := (fun _ => True)) (have hZ := HO856; kR_) hg hat) (Kd.S_after (ok := (fun k_ => some k_ ≠ (.slice Ao13 t854.length co13 : Value).ownBlock)) (have hZ := HO859; kS_) hg hat) (blk_grown (g := gb11) ψ24 hg (Kd.R_ne HO867.out BK11.out ψ13)) (Kd.R_over' (have hZ := HO864; kR_) (Kd.R_typed (have hZ := HO867; kR_)) ψ13 hg) (hb) (ho); clear BK10 HO856 HO859 BK11 HO864 HB HO867; obtain ⟨BK10, HO856, HO859, BK11, HO864, HB, HO870⟩ := q; clear ho hb hg hat) | ((with_reducible refine gate_builtin (b := .append) (xs := #[.tmp 25, .tmp 26]) rfl ?_); at_builtin; refine Kd.R_append_rows (Kd.int .i64) (w0 := w) w.heap.size rfl (.tmp 25) (.tmp 26) 23 2 (.int .i64 0) 8 rfl Try.underlying23 info2 rfl ψ13 ψ21 v869 y868 l2 _ _ _ (fun k_ => some k_ ≠ (.slice Ao13 t854.length co13 : Value).ownBlock) (fun _ => False) rfl rfl ?aO ?aR (fun _ _ h => h) (fun _ h => h.elim) ?aF ?aB ?aS ?aL ?_; (case aR => repeat (first | exact (Kd.C_below HR2.out HB.out) | (with_reducible refine Kd.C_alloc ?_ _) | (with_reducible refine Kd.C_drewN ?_ _) | (with_reducible refine Kd.C_drew ?_))); (case aB => exact ψ25); (case aF => exact (fun k_ hk => Kd.fresh' (Kd.R_lt (have hZ := HO856; kR_)) k_ hk)); (case aO => exact (have hZ := HO870; kR_)); (case aS => exact (below_size ψ25)); (case aL => have := LMc8.out; omega); intro v872 w21 ho hb hg hat; rw [← Ny871.out] at ho; have q := n7_ (blk_grown (g := gb10) ψ10 hg (Kd.R_ne HO870.out BK10.out ψ13)) (Kd.R_after (ok := (fun _ => True)) (have hZ := HO856; kR_) hg hat) (Kd.S_after (ok := (fun k_ => some k_ ≠ (.slice Ao13 t854.length co13 : Value).ownBlock)) (have hZ := HO859; kS_) hg hat) (blk_grown (g := gb11) ψ24 hg (Kd.R_ne HO870.out BK11.out ψ13)) (Kd.R_over' (have hZ := HO864; kR_) (Kd.R_typed (have hZ := HO870; kR_)) ψ13 hg) (hb) (ho); clear BK10 HO856 HO859 BK11 HO864 HB HO870; obtain ⟨BK10, HO856, HO859, BK11, HO864, HB, HO873⟩ := q; clear ho hb hg hat; obtain ⟨Ao22, co22, eo22⟩ := Kd.R_slice HO873.out; subst eo22) | ((with_reducible refine qR_ ?_)) | ((with_reducible refine wpQuiet_step (fun K hK => ?_)); go_simp; first | (refine hK _ ?_; clear hK K) | (apply Exists.intro; refine ⟨fun _ => ?_, hK _ ?_⟩)) | ((with_reducible refine wpQuiet_nil ?_); rintro _ ⟨nq, rfl⟩))
    go_loopg [9, 12] k (fun kq v9 v12 w' => ∃ (x9_1 : Int) (x12_1 : Int), v9 = .int .i64 x9_1 ∧ v12 = .int .i64 x12_1 ∧ Aside0 (impl_NumberOf.l0 kq x9_1 t862 y871 x12_1 = some r) ∧ Aside0 (kq ≤ k) ∧ Aside0 (Kd.R k106 106 w' w.heap.size (fun _ => True) v863 t862) ∧ Aside0 (Kd.R (Kd.int .i64) 2 w' w.heap.size (fun k_ => some k_ ≠ ((.slice Ao13 t854.length co13) : Value).ownBlock) (.slice Ao22 y871.length co22) y871) ∧ Aside0 (Kd.R (Kd.int .i64) 2 w' w.heap.size (fun k_ => some k_ ≠ ((.slice Ao22 y871.length co22) : Value).ownBlock) (.slice Ao13 t854.length co13) t854) ∧ Aside0 (Kd.S (Kd.slice 2 (Kd.int .i64)) 23 w' w.heap.size (fun k_ => some k_ ≠ ((.slice Ao22 y871.length co22) : Value).ownBlock ∧ some k_ ≠ ((.slice Ao13 t854.length co13) : Value).ownBlock) (.slice Ao16 t857.length co16) t857) ∧ Aside0 (w'.heap[gb10]? = some (.cells #[.int .i64 a0_0, (.slice A0_1 l0_1.length c0_1), (.slice A0_2 l0_2.length c0_2), .int .i64 a0_3, (.slice A0_4 l0_4.length c0_4), (.slice A0_5 l0_5.length c0_5)] 36 (0, 0))) ∧ Aside0 (w'.heap[gb11]? = some (.cells #[(.slice Ao13 t854.length co13), (.slice Ao16 t857.length co16)] 38 (0, 0))) ∧ Aside0 (Below w.heap.size w w'))
    case atStart => exact ⟨(0), (wrap64 ((y871.length : Int) - 1)), ψ7, ψ7, H', ⟨Nat.le_refl _⟩, ⟨have hZ := HO864; kR_⟩, ⟨have hZ := HO873; kR_⟩, ⟨by (with_reducible repeat (first | apply Kd.R_alloc | apply Kd.R_drewN | apply Kd.R_drew)); exact Kd.R_mono HO856.out (fun _ hk => hk.2)⟩, ⟨by (with_reducible repeat (first | apply Kd.S_alloc | apply Kd.S_drewN | apply Kd.S_drew)); exact Kd.S_mono HO859.out (fun _ hk => ⟨hk.2, hk.1⟩)⟩, ⟨ψ10⟩, ⟨ψ24⟩, ⟨ψ25⟩⟩
    case round =>
     clear H'
     try clear c1
     try clear c2
     try clear c5
     try clear c7
     try clear c8
     try clear y10_0 y10_1 y10_2 y10_3 y10_4 y10_5
     try clear y15_0 y15_1
     try clear u10_0 u10_1 u10_2 u10_3 u10_4 u10_5
     try clear u15_0 u15_1
     obtain ⟨x9_1, x12_1, rfl, rfl, HA, HK1, HO_10, HO_11, HO_862000, HO_862001, BK10, BK11, HB⟩ := hrel
     cases gk with
     | zero => exact absurd HA.out (by simp [impl_NumberOf.l0])
     | succ k1 =>
      have H := HA.out
      clear HA
      simp only [impl_NumberOf.l0] at H
      replace H := ifL H; rcases H with ⟨c23b0, H⟩ | ⟨c23b0, H⟩
      ·replace H := ifN H; obtain ⟨c24b0, H⟩ := H
       replace H := ifN H; obtain ⟨c25b0, H⟩ := H
       replace H := ifN H; obtain ⟨c26b0, H⟩ := H
       exact τ76
      ·exact τ76
   ·rw [if_neg c8] at H
    exact absurd H ψ22
  ·rw [if_neg c7] at H
   exact absurd H ψ22
 ·obtain rfl := Option.some.inj H
  go_enter Try.func47, Try.ntmps47
  go_wp2_with (first | ((with_reducible refine gate_dst (N := 3) rfl ?_); refine bE 3 #[.int .i64 a0_0, .slice A0_1 l0_1.length c0_1, .slice A0_2 l0_2.length c0_2, .int .i64 a0_3, .slice A0_4 l0_4.length c0_4, .slice A0_5 l0_5.length c0_5] 36 ?_; intro gb10 hg w28 hbox hb; have q := n4_ (below_step ψ25 hb) (hbox) ((ψ115 : w.heap.size ≤ gb10)) ((ψ115 : w.heap.size ≤ gb10)); clear HB; obtain ⟨HB, BK10, GW10, GE10⟩ := q; clear hb hbox hg; obtain ⟨y29_0, y29_1, y29_2, y29_3, y29_4, y29_5, u29_0, u29_1, u29_2, u29_3, u29_4, u29_5⟩ := cells6 BK10.out) | (go_at_call 31; (with_reducible refine (impl_StartOf.calls k a0_0 _ _ l0_1 _ _ l0_2 a0_3 _ _ l0_4 _ _ l0_5 _ _ l1 _ _ l2 _ _ _ _ ?_ ?_ ?_ ?_ ?_ ?_ ?_ ?_ ?_ ?_ ?_ ?_ A4.out).mono ?_); exact ψ9; exact HC0_1.out; exact ψ3; exact HC0_2.out; exact ψ16; exact HC0_4.out; exact ψ17; exact HC0_5.out; exact ψ23; exact HC1.out; exact ψ103; exact HC2.out; rintro e w30 ⟨v855, v858, rfl, ho0, ho1, hb⟩; have q := n4_ (Kd.R_lower ho0 (below_size ψ25)) (Kd.S_lower ho1 (below_size ψ25)) (blk_below (g := gb10) ψ10 hb) (below_step ψ25 hb); clear BK10 HB; obtain ⟨HO856, HO859, BK10, HB⟩ := q; (try clear hb); (try clear ho0); (try clear ho1)) | ((with_reducible refine gate_dst (N := 7) rfl ?_); refine bE 7 #[.slice none 0 0, .slice none 0 0] 38 ?_; intro gb11 hg w31 hbox hb; have q := n9_ (Kd.R_below (have hZ := HO856; kR_) hb) (Kd.S_below (have hZ := HO859; kS_) hb) (blk_below (g := gb10) ψ10 hb) (below_step ψ25 hb) (hbox) ((ψ115 : w.heap.size ≤ gb11)) ((ψ115 : w.heap.size ≤ gb11)) ((ψ116 : gb10 ≠ gb11)) ((ψ117 : gb11 ≠ gb10)); clear HO856 HO859 BK10 HB; obtain ⟨HO856, HO859, BK10, HB, BK11, GW11, GE11, NB10_11, NB11_10⟩ := q; clear hb hbox hg; obtain ⟨Ao32, co32, eo32⟩ := Kd.R_slice HO856.out; subst eo32; have hnb33 := NB11_10.out; have hnc33 := NB10_11.out; obtain ⟨y34_0, y34_1, u34_0, u34_1⟩ := cells2 BK11.out; obtain ⟨Ao35, co35, eo35⟩ := Kd.S_slice HO859.out; subst eo35) | ((with_reducible refine qR_ ?_)) | ((with_reducible refine wpQuiet_step (fun K hK => ?_)); go_simp; first | (refine hK _ ?_; clear hK K) | (apply Exists.intro; refine ⟨fun _ => ?_, hK _ ?_⟩)) | ((with_reducible refine wpQuiet_nil ?_); rintro _ ⟨nq, rfl⟩))
  go_ret
  exact ⟨ψ4, ψ25⟩

end Go.Proofs.Ytakmkdlkipfnhaa.PCore

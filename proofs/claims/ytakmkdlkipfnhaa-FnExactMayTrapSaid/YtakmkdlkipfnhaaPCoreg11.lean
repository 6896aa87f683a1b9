/- The walks of the functions that the laws come to, part 11: turned out of the kit's print, and mended where that fell. -/
import Derived.Test.YtakmkdlkipfnhaaPCoreg
import Derived.Test.YtakmkdlkipfnhaaPCoreg10
namespace Go.Proofs.Ytakmkdlkipfnhaa.PCore
open Go.RowKit Go.Proofs.YtakmkdlkipfnhaaW.PrintWords Go.Proofs.YtakmkdlkipfnhaaW.PrintLast Go.Proofs.YtakmkdlkipfnhaaW.PrintMore
attribute [local go_sem] max2_int min2_int max_two min_two max_three min_three max_four min_four   -- for this text's walks alone
set_option linter.unusedVariables false
set_option maxHeartbeats 8000000
set_option maxRecDepth 100000
set_option linter.unusedSimpArgs false

/-! ### laws_eqProg: function 21 -/
def laws_eqProg.f (k : Nat) (a0_0 : Int) (l0_1 : List (S106)) (l0_2 : List (S106)) (a0_3 : Int) (l0_4 : List Int) (l0_5 : List (S114)) (a1_0 : Int) (l1_1 : List (S106)) (l1_2 : List (S106)) (a1_3 : Int) (l1_4 : List Int) (l1_5 : List (S114)) : Option (Bool) := if a0_0 = a1_0 then ((laws_eqInputS.f k l0_1 l1_1).bind fun t694 => (if t694 = true then ((laws_eqInputS.f k l0_2 l1_2).bind fun t697 => (if t697 = true then (if a0_3 = a1_3 then ((laws_eqInt64S.f k l0_4 l1_4).bind fun t702 => (if t702 = true then ((laws_eqStmtS.f k l0_5 l1_5).bind fun t705 => (if t705 = true then (some true) else (some false))) else (some false))) else (some false)) else (some false))) else (some false))) else (some false)
theorem τ69 {P : Prop} (h : P := by
 obtain rfl := Option.some.inj H
 go_enter Try.func21, Try.ntmps21
 go_wp2_with (first | ((with_reducible refine gate_dst (N := 2) rfl ?_); refine bE 2 #[.int .i64 a0_0, .slice A0_1 l0_1.length c0_1, .slice A0_2 l0_2.length c0_2, .int .i64 a0_3, .slice A0_4 l0_4.length c0_4, .slice A0_5 l0_5.length c0_5] 36 ?_; intro gb10 hg w1_ hbox hb; have q := n4_ (below_step ψ25 hb) (hbox) ((ψ115 : w.heap.size ≤ gb10)) ((ψ115 : w.heap.size ≤ gb10)); clear HB; obtain ⟨HB, BK10, GW10, GE10⟩ := q; clear hb hbox hg) | ((with_reducible refine gate_dst (N := 3) rfl ?_); refine bE 3 #[.int .i64 a1_0, .slice A1_1 l1_1.length c1_1, .slice A1_2 l1_2.length c1_2, .int .i64 a1_3, .slice A1_4 l1_4.length c1_4, .slice A1_5 l1_5.length c1_5] 36 ?_; intro gb11 hg w2_ hbox hb; have q := n7_ (blk_below (g := gb10) ψ10 hb) (below_step ψ25 hb) (hbox) ((ψ115 : w.heap.size ≤ gb11)) ((ψ115 : w.heap.size ≤ gb11)) ((ψ116 : gb10 ≠ gb11)) ((ψ117 : gb11 ≠ gb10)); clear BK10 HB; obtain ⟨BK10, HB, BK11, GW11, GE11, NB10_11, NB11_10⟩ := q; clear hb hbox hg; have hnb1_ := NB10_11.out; have hnc1_ := NB11_10.out; obtain ⟨hczB10_0, hczB10_1, hczB10_2, hczB10_3, hczB10_4, hczB10_5, hfzB10_0, hfzB10_1, hfzB10_2, hfzB10_3, hfzB10_4, hfzB10_5⟩ := cells6 BK10.out; obtain ⟨hczB11_0, hczB11_1, hczB11_2, hczB11_3, hczB11_4, hczB11_5, hfzB11_0, hfzB11_1, hfzB11_2, hfzB11_3, hfzB11_4, hfzB11_5⟩ := cells6 BK11.out) | ((with_reducible refine gate_callee (f := 76) rfl ?_); refine gL 14 Try.func76 #[.slice A0_1 l0_1.length c0_1, .slice A1_1 l1_1.length c1_1] ?_; (with_reducible refine (laws_eqInputS.calls k _ _ l0_1 _ _ l1_1 _ _ ?_ ?_ ?_ ?_ A4.out).mono ?_); exact ψ9; exact HC0_1.out; exact ψ91; exact HC1_1.out; rintro e w3_ ⟨rfl, hb⟩; refine ⟨_, rfl, ?_⟩; have q := n3_ (blk_below (g := gb10) ψ10 hb) (blk_below (g := gb11) ψ24 hb) (below_step ψ25 hb); clear BK10 BK11 HB; obtain ⟨BK10, BK11, HB⟩ := q; (try clear hb); (try (obtain ⟨hczB10_0, hczB10_1, hczB10_2, hczB10_3, hczB10_4, hczB10_5, hfzB10_0, hfzB10_1, hfzB10_2, hfzB10_3, hfzB10_4, hfzB10_5⟩ := cells6 BK10.out)); (try (obtain ⟨hczB11_0, hczB11_1, hczB11_2, hczB11_3, hczB11_4, hczB11_5, hfzB11_0, hfzB11_1, hfzB11_2, hfzB11_3, hfzB11_4, hfzB11_5⟩ := cells6 BK11.out))) | ((with_reducible refine gate_callee (f := 76) rfl ?_); refine gL 20 Try.func76 #[.slice A0_2 l0_2.length c0_2, .slice A1_2 l1_2.length c1_2] ?_; (with_reducible refine (laws_eqInputS.calls k _ _ l0_2 _ _ l1_2 _ _ ?_ ?_ ?_ ?_ A6.out).mono ?_); exact ψ3; exact HC0_2.out; exact ψ28; exact HC1_2.out; rintro e w4_ ⟨rfl, hb⟩; refine ⟨_, rfl, ?_⟩; have q := n3_ (blk_below (g := gb10) ψ10 hb) (blk_below (g := gb11) ψ24 hb) (below_step ψ25 hb); clear BK10 BK11 HB; obtain ⟨BK10, BK11, HB⟩ := q; (try clear hb); (try (obtain ⟨hczB10_0, hczB10_1, hczB10_2, hczB10_3, hczB10_4, hczB10_5, hfzB10_0, hfzB10_1, hfzB10_2, hfzB10_3, hfzB10_4, hfzB10_5⟩ := cells6 BK10.out)); (try (obtain ⟨hczB11_0, hczB11_1, hczB11_2, hczB11_3, hczB11_4, hczB11_5, hfzB11_0, hfzB11_1, hfzB11_2, hfzB11_3, hfzB11_4, hfzB11_5⟩ := cells6 BK11.out))) | ((with_reducible refine gate_callee (f := 25) rfl ?_); refine gL 31 Try.func25 #[.slice A0_4 l0_4.length c0_4, .slice A1_4 l1_4.length c1_4] ?_; (with_reducible refine (laws_eqInt64S.calls k _ _ l0_4 _ _ l1_4 _ _ ?_ ?_ ?_ ?_ A9.out).mono ?_); exact ψ16; exact HC0_4.out; exact (by repeat (first | exact (Kd.C_below HR1_4.out HB.out) | (with_reducible refine Kd.C_alloc ?_ _) | (with_reducible refine Kd.C_drewN ?_ _) | (with_reducible refine Kd.C_drew ?_))); exact HC1_4.out; rintro e w' ⟨rfl, ⟨nd, rfl⟩⟩; refine ⟨_, rfl, ?_⟩) | ((with_reducible refine gate_callee (f := 77) rfl ?_); refine gL 37 Try.func77 #[.slice A0_5 l0_5.length c0_5, .slice A1_5 l1_5.length c1_5] ?_; (with_reducible refine (laws_eqStmtS.calls k _ _ l0_5 _ _ l1_5 _ _ ?_ ?_ ?_ ?_ A11.out).mono ?_); exact (by repeat (first | exact (Kd.C_below HR0_5.out ψ25) | (with_reducible refine Kd.C_alloc ?_ _) | (with_reducible refine Kd.C_drewN ?_ _) | (with_reducible refine Kd.C_drew ?_))); exact HC0_5.out; exact (by repeat (first | exact (Kd.C_below HR1_5.out ψ25) | (with_reducible refine Kd.C_alloc ?_ _) | (with_reducible refine Kd.C_drewN ?_ _) | (with_reducible refine Kd.C_drew ?_))); exact HC1_5.out; rintro e w5_ ⟨rfl, hb⟩; refine ⟨_, rfl, ?_⟩; have q := n3_ (blk_below (g := gb10) ψ10 hb) (blk_below (g := gb11) ψ24 hb) (below_step ψ25 hb); clear BK10 BK11 HB; obtain ⟨BK10, BK11, HB⟩ := q; (try clear hb)))
 go_ret
 exact ⟨ψ4, ψ25⟩) : P := h
theorem laws_eqProg.calls (k : Nat) (a0_0 : Int) (A0_1 : Option Addr) (c0_1 : Nat) (l0_1 : List (S106)) (A0_2 : Option Addr) (c0_2 : Nat) (l0_2 : List (S106)) (a0_3 : Int) (A0_4 : Option Addr) (c0_4 : Nat) (l0_4 : List Int) (A0_5 : Option Addr) (c0_5 : Nat) (l0_5 : List (S114)) (a1_0 : Int) (A1_1 : Option Addr) (c1_1 : Nat) (l1_1 : List (S106)) (A1_2 : Option Addr) (c1_2 : Nat) (l1_2 : List (S106)) (a1_3 : Int) (A1_4 : Option Addr) (c1_4 : Nat) (l1_4 : List Int) (A1_5 : Option Addr) (c1_5 : Nat) (l1_5 : List (S114)) (r : Bool) (w : World) (hr0_1 : Kd.C k106 w A0_1 l0_1.length l0_1) (hc0_1 : l0_1.length ≤ c0_1) (hr0_2 : Kd.C k106 w A0_2 l0_2.length l0_2) (hc0_2 : l0_2.length ≤ c0_2) (hr0_4 : Kd.C (Kd.int .i64) w A0_4 l0_4.length l0_4) (hc0_4 : l0_4.length ≤ c0_4) (hr0_5 : Kd.C k114 w A0_5 l0_5.length l0_5) (hc0_5 : l0_5.length ≤ c0_5) (hr1_1 : Kd.C k106 w A1_1 l1_1.length l1_1) (hc1_1 : l1_1.length ≤ c1_1) (hr1_2 : Kd.C k106 w A1_2 l1_2.length l1_2) (hc1_2 : l1_2.length ≤ c1_2) (hr1_4 : Kd.C (Kd.int .i64) w A1_4 l1_4.length l1_4) (hc1_4 : l1_4.length ≤ c1_4) (hr1_5 : Kd.C k114 w A1_5 l1_5.length l1_5) (hc1_5 : l1_5.length ≤ c1_5) (h : laws_eqProg.f k a0_0 l0_1 l0_2 a0_3 l0_4 l0_5 a1_0 l1_1 l1_2 a1_3 l1_4 l1_5 = some r) :
 Calls Try.prog 21 #[.agg #[.int .i64 a0_0, .slice A0_1 l0_1.length c0_1, .slice A0_2 l0_2.length c0_2, .int .i64 a0_3, .slice A0_4 l0_4.length c0_4, .slice A0_5 l0_5.length c0_5], .agg #[.int .i64 a1_0, .slice A1_1 l1_1.length c1_1, .slice A1_2 l1_2.length c1_2, .int .i64 a1_3, .slice A1_4 l1_4.length c1_4, .slice A1_5 l1_5.length c1_5]] w fun e w' => e = .returned (.bool r) ∧ Below w.heap.size w w' := by
 have hu36 := Try.underlying36
 have q := n16_ hr0_1 hc0_1 hr0_2 hc0_2 hr0_4 hc0_4 hr0_5 hc0_5 hr1_1 hc1_1 hr1_2 hc1_2 hr1_4 hc1_4 hr1_5 hc1_5
 clear hr0_1 hc0_1 hr0_2 hc0_2 hr0_4 hc0_4 hr0_5 hc0_5 hr1_1 hc1_1 hr1_2 hc1_2 hr1_4 hc1_4 hr1_5 hc1_5
 obtain ⟨HR0_1, HC0_1, HR0_2, HC0_2, HR0_4, HC0_4, HR0_5, HC0_5, HR1_1, HC1_1, HR1_2, HC1_2, HR1_4, HC1_4, HR1_5, HC1_5⟩ := q
 have HB := Aside0.mk (Below.refl w.heap.size w)
 unfold laws_eqProg.f at h
 have H := h
 clear h
 replace H := ifF H; rcases H with ⟨c3b0, c3b1, H⟩ | ⟨c3b0, c3b1, c3, H⟩
 ·replace H := bS H; obtain ⟨t694, A4, H⟩ := H
  replace H := ifB H; rcases H with ⟨rfl, H⟩ | ⟨rfl, H⟩
  ·replace H := bS H; obtain ⟨t697, A6, H⟩ := H
   replace H := ifB H; rcases H with ⟨rfl, H⟩ | ⟨rfl, H⟩
   ·by_cases c8 : a0_3 = a1_3
    ·rw [if_pos c8] at H
     have c8b0 : (a0_3 == a1_3) = true := beq_iff_eq.mpr c8
     have c8b1 : (a0_3 != a1_3) = false := bne_eq_false_iff_eq.mpr c8
     clear c8
     replace H := bS H; obtain ⟨t702, A9, H⟩ := H
     replace H := ifB H; rcases H with ⟨rfl, H⟩ | ⟨rfl, H⟩
     ·replace H := bS H; obtain ⟨t705, A11, H⟩ := H
      replace H := ifB H; rcases H with ⟨rfl, H⟩ | ⟨rfl, H⟩
      ·exact τ69
      ·exact τ69
     ·exact τ69
    ·rw [if_neg c8] at H
     have c8b0 : (a0_3 == a1_3) = false := beq_eq_false_iff_ne.mpr c8
     have c8b1 : (a0_3 != a1_3) = true := bne_iff_ne.mpr c8
     exact τ69
   ·exact τ69
  ·exact τ69
 ·exact τ69

end Go.Proofs.Ytakmkdlkipfnhaa.PCore

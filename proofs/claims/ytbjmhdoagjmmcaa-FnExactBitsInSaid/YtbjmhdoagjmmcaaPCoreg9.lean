/- The walks of the functions that the laws come to, part 9: turned out of the kit's print, and mended where that fell. -/
import Derived.Test.YtbjmhdoagjmmcaaPCoreg
import Derived.Test.YtbjmhdoagjmmcaaPCoreg7
namespace Go.Proofs.Ytbjmhdoagjmmcaa.PCore
open Go.RowKit Go.Proofs.YtbjmhdoagjmmcaaW.PrintWords Go.Proofs.YtbjmhdoagjmmcaaW.PrintLast Go.Proofs.YtbjmhdoagjmmcaaW.PrintMore
attribute [local go_sem] max2_int min2_int max_two min_two max_three min_three max_four min_four   -- for this text's walks alone
set_option linter.unusedVariables false
set_option linter.unusedSimpArgs false

/-! ### impl_ProgOk: function 26 -/
def impl_ProgOk.f (k : Nat) (a0_0 : Int) (l0_1 : List (S77)) (l0_2 : List (S77)) (a0_3 : Int) (l0_4 : List Int) (l0_5 : List (S42)) : Option (Bool) := (impl_CodeOf.f k a0_0 l0_1 l0_2 a0_3 l0_4 l0_5).bind fun t1046 => (some (t1046 == 0))
set_option maxHeartbeats 8000000 in
set_option maxRecDepth 100000 in
theorem impl_ProgOk.calls (k : Nat) (a0_0 : Int) (A0_1 : Option Addr) (c0_1 : Nat) (l0_1 : List (S77)) (A0_2 : Option Addr) (c0_2 : Nat) (l0_2 : List (S77)) (a0_3 : Int) (A0_4 : Option Addr) (c0_4 : Nat) (l0_4 : List Int) (A0_5 : Option Addr) (c0_5 : Nat) (l0_5 : List (S42)) (r : Bool) (w : World) (hr0_1 : Kd.C k77 w A0_1 l0_1.length l0_1) (hc0_1 : l0_1.length ≤ c0_1) (hr0_2 : Kd.C k77 w A0_2 l0_2.length l0_2) (hc0_2 : l0_2.length ≤ c0_2) (hr0_4 : Kd.C (Kd.int .i64) w A0_4 l0_4.length l0_4) (hc0_4 : l0_4.length ≤ c0_4) (hr0_5 : Kd.C k42 w A0_5 l0_5.length l0_5) (hc0_5 : l0_5.length ≤ c0_5) (h : impl_ProgOk.f k a0_0 l0_1 l0_2 a0_3 l0_4 l0_5 = some r) :
 Calls Try.prog 26 #[.agg #[.int .i64 a0_0, .slice A0_1 l0_1.length c0_1, .slice A0_2 l0_2.length c0_2, .int .i64 a0_3, .slice A0_4 l0_4.length c0_4, .slice A0_5 l0_5.length c0_5]] w fun e w' => e = .returned (.bool r) ∧ Below w.heap.size w w' := by
 have hu35 := Try.underlying35
 have HR0_1 := Aside0.mk hr0_1
 have HC0_1 := Aside0.mk hc0_1
 clear hr0_1 hc0_1
 have HR0_2 := Aside0.mk hr0_2
 have HC0_2 := Aside0.mk hc0_2
 clear hr0_2 hc0_2
 have HR0_4 := Aside0.mk hr0_4
 have HC0_4 := Aside0.mk hc0_4
 clear hr0_4 hc0_4
 have HR0_5 := Aside0.mk hr0_5
 have HC0_5 := Aside0.mk hc0_5
 clear hr0_5 hc0_5
 have HB := Aside0.mk (Below.refl w.heap.size w)
 have H : ((impl_CodeOf.f k a0_0 l0_1 l0_2 a0_3 l0_4 l0_5).bind fun t1046 => (some (t1046 == 0))) = some r := h
 clear h
 replace H := Option.bind_eq_some_iff.mp H
 obtain ⟨t1046, A20, H⟩ := H
 have A2 := Aside0.mk A20
 clear A20
 obtain rfl := Option.some.inj H
 go_enter Try.func26, Try.ntmps26
 go_wp2_with (first | ((with_reducible refine gate_dst (N := 1) rfl ?_); refine bE 1 #[.int .i64 a0_0, .slice A0_1 l0_1.length c0_1, .slice A0_2 l0_2.length c0_2, .int .i64 a0_3, .slice A0_4 l0_4.length c0_4, .slice A0_5 l0_5.length c0_5] 35 ?_; intro gb10 hg w3 hbox hb; have q := n4_ (below_step ψ52 hb) (hbox) ((ψ311 : w.heap.size ≤ gb10)) ((ψ311 : w.heap.size ≤ gb10)); clear HB; obtain ⟨HB, BK10, GW10, GE10⟩ := q; clear hb hbox hg; obtain ⟨y4_0, y4_1, y4_2, y4_3, y4_4, y4_5, u4_0, u4_1, u4_2, u4_3, u4_4, u4_5⟩ := cells6 BK10.out) | ((with_reducible refine gate_callee (f := 23) rfl ?_); refine gL 4 Try.func23 #[.agg #[.int .i64 a0_0, .slice A0_1 l0_1.length c0_1, .slice A0_2 l0_2.length c0_2, .int .i64 a0_3, .slice A0_4 l0_4.length c0_4, .slice A0_5 l0_5.length c0_5]] ?_; (with_reducible refine (impl_CodeOf.calls k a0_0 _ _ l0_1 _ _ l0_2 a0_3 _ _ l0_4 _ _ l0_5 _ _ ?_ ?_ ?_ ?_ ?_ ?_ ?_ ?_ A2.out).mono ?_); exact ψ54; exact HC0_1.out; exact ψ55; exact HC0_2.out; exact ψ56; exact HC0_4.out; exact ψ57; exact HC0_5.out; rintro e w5 ⟨rfl, hb⟩; refine ⟨_, rfl, ?_⟩; have q := n2_ (blk_below (g := gb10) ψ23 hb) (below_step ψ52 hb); clear BK10 HB; obtain ⟨BK10, HB⟩ := q; (try clear hb)))
 go_ret
 exact ⟨ψ9, ψ52⟩

end Go.Proofs.Ytbjmhdoagjmmcaa.PCore

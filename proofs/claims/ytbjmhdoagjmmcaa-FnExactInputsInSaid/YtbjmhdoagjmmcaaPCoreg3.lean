/- The walks of the functions that the laws come to, part 3: turned out of the kit's print, and mended where that fell. -/
import Derived.Test.YtbjmhdoagjmmcaaPCoreg
import Derived.Test.YtbjmhdoagjmmcaaPCoreg0
import Derived.Test.YtbjmhdoagjmmcaaPCoreg2
namespace Go.Proofs.Ytbjmhdoagjmmcaa.PCore
open Go.RowKit Go.Proofs.YtbjmhdoagjmmcaaW.PrintWords Go.Proofs.YtbjmhdoagjmmcaaW.PrintLast Go.Proofs.YtbjmhdoagjmmcaaW.PrintMore
attribute [local go_sem] max2_int min2_int max_two min_two max_three min_three max_four min_four   -- for this text's walks alone
set_option linter.unusedVariables false
set_option linter.unusedSimpArgs false

theorem ψ64 {P : Prop} (h : P := by have := HJ2.out; have := HJ16.out; first | omega | exact Nat.le_refl _) : P := h
/-! ### spec_l3Stmt: function 85 -/
mutual
def spec_l3Stmt.j0 : Nat → Bool → Int → List (S77) → List (S77) → Int → List Int → List (S42) → Int → Int → List (S100) → List (S100) → Option (Bool)
 | 0, _, _, _, _, _, _, _, _, _, _, _ => none
 | k + 1, x5, x322000, x322001, x322002, x322003, x322004, x322005, x323000, x323001, x323002, x323003 => (spec_l1In.f x323000 0 9).bind fun t328 => (if t328 = true then (if (x5 != (decide ((x323003.length : Int) > 0))) = true then (spec_l3Stmt.j1 k x5 true x322000 x322001 x322002 x322003 x322004 x322005 x323000 x323001 x323002 x323003) else (spec_l3Stmt.j1 k x5 ((x323000 == 1) != (decide ((x323002.length : Int) > 0))) x322000 x322001 x322002 x322003 x322004 x322005 x323000 x323001 x323002 x323003)) else (spec_l3Stmt.j1 k x5 true x322000 x322001 x322002 x322003 x322004 x322005 x323000 x323001 x323002 x323003))
def spec_l3Stmt.j1 : Nat → Bool → Bool → Int → List (S77) → List (S77) → Int → List Int → List (S42) → Int → Int → List (S100) → List (S100) → Option (Bool)
 | 0, _, _, _, _, _, _, _, _, _, _, _, _ => none
 | k + 1, x5, x46, x322000, x322001, x322002, x322003, x322004, x322005, x323000, x323001, x323002, x323003 => if x46 = true then (some false) else (if x5 = true then ((spec_l3Exp.f k x322000 x322001 x322002 x322003 x322004 x322005 x323003).bind fun t334 => (if t334 = true then (if x323000 = 1 then ((spec_l3Exp.f k x322000 x322001 x322002 x322003 x322004 x322005 x323002).bind fun t338 => (spec_l3Stmt.j2 k (!t338) x322000 x322001 x322002 x322003 x322004 x322005 x323000 x323001 x323002 x323003)) else (spec_l3Stmt.j2 k false x322000 x322001 x322002 x322003 x322004 x322005 x323000 x323001 x323002 x323003)) else (spec_l3Stmt.j2 k true x322000 x322001 x322002 x322003 x322004 x322005 x323000 x323001 x323002 x323003))) else (if x323000 = 1 then ((spec_l3Exp.f k x322000 x322001 x322002 x322003 x322004 x322005 x323002).bind fun t342 => (spec_l3Stmt.j2 k (!t342) x322000 x322001 x322002 x322003 x322004 x322005 x323000 x323001 x323002 x323003)) else (spec_l3Stmt.j2 k false x322000 x322001 x322002 x322003 x322004 x322005 x323000 x323001 x323002 x323003)))
def spec_l3Stmt.j2 : Nat → Bool → Int → List (S77) → List (S77) → Int → List Int → List (S42) → Int → Int → List (S100) → List (S100) → Option (Bool)
 | 0, _, _, _, _, _, _, _, _, _, _, _ => none
 | k + 1, x66, x322000, x322001, x322002, x322003, x322004, x322005, x323000, x323001, x323002, x323003 => if x66 = true then (some false) else (if x323000 = 0 then ((spec_l1In.f x323001 (wrap64 ((x322001.length : Int) + (x322002.length : Int))) (wrap64 ((wrap64 ((wrap64 ((x322001.length : Int) + (x322002.length : Int))) + x322003)) - 1))).bind fun t348 => (some t348)) else (if x323000 = 1 then ((spec_l1In.f x323001 0 (wrap64 ((x322004.length : Int) - 1))).bind fun t351 => (some t351)) else (if x323000 = 5 then ((spec_l1In.f x323001 0 4).bind fun t353 => (some t353)) else (if x323000 = 7 then ((spec_l1In.f x323001 0 9).bind fun t355 => (some t355)) else (if x323000 = 9 then ((spec_l1In.f x323001 0 9).bind fun t357 => (some t357)) else (some (x323001 == 0)))))))
end
def spec_l3Stmt.f (k : Nat) (a0_0 : Int) (l0_1 : List (S77)) (l0_2 : List (S77)) (a0_3 : Int) (l0_4 : List Int) (l0_5 : List (S42)) (a1_0 : Int) (a1_1 : Int) (l1_2 : List (S100)) (l1_3 : List (S100)) : Option (Bool) := if a1_0 = 0 then (spec_l3Stmt.j0 k true a0_0 l0_1 l0_2 a0_3 l0_4 l0_5 a1_0 a1_1 l1_2 l1_3) else (if a1_0 = 1 then (spec_l3Stmt.j0 k true a0_0 l0_1 l0_2 a0_3 l0_4 l0_5 a1_0 a1_1 l1_2 l1_3) else (if a1_0 = 2 then (spec_l3Stmt.j0 k true a0_0 l0_1 l0_2 a0_3 l0_4 l0_5 a1_0 a1_1 l1_2 l1_3) else (spec_l3Stmt.j0 k (a1_0 == 6) a0_0 l0_1 l0_2 a0_3 l0_4 l0_5 a1_0 a1_1 l1_2 l1_3)))
set_option maxRecDepth 100000 in
theorem τ25 {P : Prop} (h : P := by
 have H' := Aside0.mk H
 clear H
 have hnb1_ := NB11_10.out
 have hnc1_ := NB10_11.out
 obtain ⟨hczB11_0, hczB11_1, hczB11_2, hczB11_3, hfzB11_0, hfzB11_1, hfzB11_2, hfzB11_3⟩ := cells4 BK11.out
 go_wp2
 first | (go_meet; (case rel => exact ⟨_, (true), ψ0, H', ⟨ψ25⟩, ⟨ψ23⟩, ⟨ψ34⟩, ⟨ψ61⟩⟩)) | (go_meet; (case rel => exact ⟨_, ((a1_0 == 6)), ψ0, H', ⟨ψ25⟩, ⟨ψ23⟩, ⟨ψ34⟩, ⟨ψ61⟩⟩))) : P := h
set_option maxRecDepth 100000 in
theorem τ26 {P : Prop} (h : P := by
 have H' := Aside0.mk H
 clear H
 have hnb1_ := NB11_10.out
 have hnc1_ := NB10_11.out
 obtain ⟨hczB11_0, hczB11_1, hczB11_2, hczB11_3, hfzB11_0, hfzB11_1, hfzB11_2, hfzB11_3⟩ := cells4 BK11.out
 go_wp2_with (first | ((with_reducible refine gate_callee (f := 43) rfl ?_); refine gL 27 Try.func43 #[.int .i64 a1_0, .int .i64 0, .int .i64 9] ?_; (with_reducible refine (spec_l1In.calls a1_0 0 9 _ _ A18.out).mono ?_); rintro e w' ⟨rfl, ⟨nd, rfl⟩⟩; refine ⟨_, rfl, ?_⟩))
 first | (go_meet; (case rel => exact ⟨_, (true), ψ0, H', ⟨ψ49⟩, ⟨ψ23⟩, ⟨ψ34⟩, ⟨ψ61⟩⟩)) | (go_meet; (case rel => exact ⟨_, (((a1_0 == 1) != (decide ((l1_2.length : Int) > 0)))), (by first | rfl | (simp; done) | (simp [*]; done) | (simp; cases (a1_0 == 1) <;> cases (decide (0 < l1_2.length)) <;> rfl) | (simp [*]; cases (a1_0 == 1) <;> cases (decide (0 < l1_2.length)) <;> rfl)), H', ⟨ψ49⟩, ⟨ψ23⟩, ⟨ψ34⟩, ⟨ψ61⟩⟩))) : P := h
set_option maxRecDepth 100000 in
theorem τ27 {P : Prop} (h : P := by
 have H' := Aside0.mk H
 clear H
 try (have hnb1_ := NB11_10.out)
 try (have hnc1_ := NB10_11.out)
 try (have hnb1_ := NB10_11.out)
 try (have hnc1_ := NB11_10.out)
 try (obtain ⟨hczB10_0, hczB10_1, hczB10_2, hczB10_3, hczB10_4, hczB10_5, hfzB10_0, hfzB10_1, hfzB10_2, hfzB10_3, hfzB10_4, hfzB10_5⟩ := cells6 BK10.out)
 obtain ⟨hczB11_0, hczB11_1, hczB11_2, hczB11_3, hfzB11_0, hfzB11_1, hfzB11_2, hfzB11_3⟩ := cells4 BK11.out
 go_wp2_with (first | (go_at_call 70; (with_reducible refine (spec_l3Exp.calls kj16 a0_0 _ _ l0_1 _ _ l0_2 a0_3 _ _ l0_4 _ _ l0_5 _ _ l1_3 _ _ ?_ ?_ ?_ ?_ ?_ ?_ ?_ ?_ ?_ ?_ A30.out).mono ?_); exact ψ54; exact HC0_1.out; exact ψ55; exact HC0_2.out; exact ψ56; exact HC0_4.out; exact ψ57; exact HC0_5.out; exact ψ62; exact HC1_3.out; rintro e w1_ ⟨rfl, hb⟩; have q := n3_ (blk_below (g := gb10) ψ23 hb) (blk_below (g := gb11) ψ34 hb) (below_step ψ61 hb); clear BK10 BK11 HB; obtain ⟨BK10, BK11, HB⟩ := q; (try clear hb); (try (obtain ⟨hczB11_0, hczB11_1, hczB11_2, hczB11_3, hfzB11_0, hfzB11_1, hfzB11_2, hfzB11_3⟩ := cells4 BK11.out)); (try (obtain ⟨hczB10_0, hczB10_1, hczB10_2, hczB10_3, hczB10_4, hczB10_5, hfzB10_0, hfzB10_1, hfzB10_2, hfzB10_3, hfzB10_4, hfzB10_5⟩ := cells6 BK10.out))) | (go_at_call 70; (with_reducible refine (spec_l3Exp.calls kj16 a0_0 _ _ l0_1 _ _ l0_2 a0_3 _ _ l0_4 _ _ l0_5 _ _ l1_2 _ _ ?_ ?_ ?_ ?_ ?_ ?_ ?_ ?_ ?_ ?_ A33.out).mono ?_); exact ψ54; exact HC0_1.out; exact ψ55; exact HC0_2.out; exact ψ56; exact HC0_4.out; exact ψ57; exact HC0_5.out; exact ψ63; exact HC1_2.out; rintro e w2_ ⟨rfl, hb⟩; have q := n3_ (blk_below (g := gb10) ψ23 hb) (blk_below (g := gb11) ψ34 hb) (below_step ψ61 hb); clear BK10 BK11 HB; obtain ⟨BK10, BK11, HB⟩ := q; (try clear hb)) | (go_at_call 70; (with_reducible refine (spec_l3Exp.calls kj16 a0_0 _ _ l0_1 _ _ l0_2 a0_3 _ _ l0_4 _ _ l0_5 _ _ l1_2 _ _ ?_ ?_ ?_ ?_ ?_ ?_ ?_ ?_ ?_ ?_ A51.out).mono ?_); exact ψ54; exact HC0_1.out; exact ψ55; exact HC0_2.out; exact ψ56; exact HC0_4.out; exact ψ57; exact HC0_5.out; exact ψ63; exact HC1_2.out; rintro e w1_ ⟨rfl, hb⟩; have q := n3_ (blk_below (g := gb10) ψ23 hb) (blk_below (g := gb11) ψ34 hb) (below_step ψ61 hb); clear BK10 BK11 HB; obtain ⟨BK10, BK11, HB⟩ := q; (try clear hb)))
 first | (go_meet; (case rel => exact ⟨_, (!t338), ψ0, H', ⟨ψ64⟩, ⟨ψ23⟩, ⟨ψ34⟩, ⟨ψ61⟩⟩)) | (go_meet; (case rel => exact ⟨_, (false), ψ0, H', ⟨ψ64⟩, ⟨ψ23⟩, ⟨ψ34⟩, ⟨ψ61⟩⟩)) | (go_meet; (case rel => exact ⟨_, (true), ψ0, H', ⟨ψ64⟩, ⟨ψ23⟩, ⟨ψ34⟩, ⟨ψ61⟩⟩)) | (go_meet; (case rel => exact ⟨_, (!t342), ψ0, H', ⟨ψ64⟩, ⟨ψ23⟩, ⟨ψ34⟩, ⟨ψ61⟩⟩))) : P := h
set_option maxRecDepth 100000 in
theorem τ28 {P : Prop} (h : P := by
 obtain rfl := Option.some.inj H
 try (have hnb1_ := NB10_11.out)
 try (have hnc1_ := NB11_10.out)
 try (obtain ⟨hczB10_0, hczB10_1, hczB10_2, hczB10_3, hczB10_4, hczB10_5, hfzB10_0, hfzB10_1, hfzB10_2, hfzB10_3, hfzB10_4, hfzB10_5⟩ := cells6 BK10.out)
 try (obtain ⟨hczB11_0, hczB11_1, hczB11_2, hczB11_3, hfzB11_0, hfzB11_1, hfzB11_2, hfzB11_3⟩ := cells4 BK11.out)
 go_wp2_with (first | ((with_reducible refine gate_callee (f := 43) rfl ?_); refine gL 86 Try.func43 #[.int .i64 a1_1, .int .i64 (wrap64 ((l0_1.length : Int) + (l0_2.length : Int))), .int .i64 (wrap64 ((wrap64 ((wrap64 ((l0_1.length : Int) + (l0_2.length : Int))) + a0_3)) - 1))] ?_; (with_reducible refine (spec_l1In.calls a1_1 (wrap64 ((l0_1.length : Int) + (l0_2.length : Int))) (wrap64 ((wrap64 ((wrap64 ((l0_1.length : Int) + (l0_2.length : Int))) + a0_3)) - 1)) _ _ A60.out).mono ?_); rintro e w' ⟨rfl, ⟨nd, rfl⟩⟩; refine ⟨_, rfl, ?_⟩) | ((with_reducible refine gate_callee (f := 43) rfl ?_); refine gL 95 Try.func43 #[.int .i64 a1_1, .int .i64 0, .int .i64 (wrap64 ((l0_4.length : Int) - 1))] ?_; (with_reducible refine (spec_l1In.calls a1_1 0 (wrap64 ((l0_4.length : Int) - 1)) _ _ A65.out).mono ?_); rintro e w' ⟨rfl, ⟨nd, rfl⟩⟩; refine ⟨_, rfl, ?_⟩) | ((with_reducible refine gate_callee (f := 43) rfl ?_); refine gL 100 Try.func43 #[.int .i64 a1_1, .int .i64 0, .int .i64 4] ?_; (with_reducible refine (spec_l1In.calls a1_1 0 4 _ _ A70.out).mono ?_); rintro e w' ⟨rfl, ⟨nd, rfl⟩⟩; refine ⟨_, rfl, ?_⟩) | ((with_reducible refine gate_callee (f := 43) rfl ?_); refine gL 106 Try.func43 #[.int .i64 a1_1, .int .i64 0, .int .i64 9] ?_; (with_reducible refine (spec_l1In.calls a1_1 0 9 _ _ A75.out).mono ?_); rintro e w' ⟨rfl, ⟨nd, rfl⟩⟩; refine ⟨_, rfl, ?_⟩) | ((with_reducible refine gate_callee (f := 43) rfl ?_); refine gL 106 Try.func43 #[.int .i64 a1_1, .int .i64 0, .int .i64 9] ?_; (with_reducible refine (spec_l1In.calls a1_1 0 9 _ _ A80.out).mono ?_); rintro e w' ⟨rfl, ⟨nd, rfl⟩⟩; refine ⟨_, rfl, ?_⟩))
 go_ret
 exact ⟨ψ9, ψ61⟩) : P := h
set_option maxHeartbeats 8000000 in
set_option maxRecDepth 100000 in
theorem spec_l3Stmt.calls (k : Nat) (a0_0 : Int) (A0_1 : Option Addr) (c0_1 : Nat) (l0_1 : List (S77)) (A0_2 : Option Addr) (c0_2 : Nat) (l0_2 : List (S77)) (a0_3 : Int) (A0_4 : Option Addr) (c0_4 : Nat) (l0_4 : List Int) (A0_5 : Option Addr) (c0_5 : Nat) (l0_5 : List (S42)) (a1_0 : Int) (a1_1 : Int) (A1_2 : Option Addr) (c1_2 : Nat) (l1_2 : List (S100)) (A1_3 : Option Addr) (c1_3 : Nat) (l1_3 : List (S100)) (r : Bool) (w : World) (hr0_1 : Kd.C k77 w A0_1 l0_1.length l0_1) (hc0_1 : l0_1.length ≤ c0_1) (hr0_2 : Kd.C k77 w A0_2 l0_2.length l0_2) (hc0_2 : l0_2.length ≤ c0_2) (hr0_4 : Kd.C (Kd.int .i64) w A0_4 l0_4.length l0_4) (hc0_4 : l0_4.length ≤ c0_4) (hr0_5 : Kd.C k42 w A0_5 l0_5.length l0_5) (hc0_5 : l0_5.length ≤ c0_5) (hr1_2 : Kd.C k100 w A1_2 l1_2.length l1_2) (hc1_2 : l1_2.length ≤ c1_2) (hr1_3 : Kd.C k100 w A1_3 l1_3.length l1_3) (hc1_3 : l1_3.length ≤ c1_3) (h : spec_l3Stmt.f k a0_0 l0_1 l0_2 a0_3 l0_4 l0_5 a1_0 a1_1 l1_2 l1_3 = some r) :
 Calls Try.prog 85 #[.agg #[.int .i64 a0_0, .slice A0_1 l0_1.length c0_1, .slice A0_2 l0_2.length c0_2, .int .i64 a0_3, .slice A0_4 l0_4.length c0_4, .slice A0_5 l0_5.length c0_5], .agg #[.int .i64 a1_0, .int .i64 a1_1, .slice A1_2 l1_2.length c1_2, .slice A1_3 l1_3.length c1_3]] w fun e w' => e = .returned (.bool r) ∧ Below w.heap.size w w' := by
 have hu35 := Try.underlying35
 have hu42 := Try.underlying42
 have HR0_1 := Aside0.mk hr0_1
 have HC0_1 := Aside0.mk hc0_1
 clear hr0_1 hc0_1
 have HR0_2 := Aside0.mk hr0_2
 have HC0_2 := Aside0.mk hc0_2
 clear hr0_2 hc0_2
 have HR0_4 := Aside0.mk hr0_4
 have HC0_4 := Aside0.mk hc0_4
 clear hr0_4 hc0_4
 have HR0_5 := Aside0.mk hr0_5
 have HC0_5 := Aside0.mk hc0_5
 clear hr0_5 hc0_5
 have HR1_2 := Aside0.mk hr1_2
 have HC1_2 := Aside0.mk hc1_2
 clear hr1_2 hc1_2
 have HR1_3 := Aside0.mk hr1_3
 have HC1_3 := Aside0.mk hc1_3
 clear hr1_3 hc1_3
 have HB := Aside0.mk (Below.refl w.heap.size w)
 have H : (if a1_0 = 0 then (spec_l3Stmt.j0 k true a0_0 l0_1 l0_2 a0_3 l0_4 l0_5 a1_0 a1_1 l1_2 l1_3) else (if a1_0 = 1 then (spec_l3Stmt.j0 k true a0_0 l0_1 l0_2 a0_3 l0_4 l0_5 a1_0 a1_1 l1_2 l1_3) else (if a1_0 = 2 then (spec_l3Stmt.j0 k true a0_0 l0_1 l0_2 a0_3 l0_4 l0_5 a1_0 a1_1 l1_2 l1_3) else (spec_l3Stmt.j0 k (a1_0 == 6) a0_0 l0_1 l0_2 a0_3 l0_4 l0_5 a1_0 a1_1 l1_2 l1_3)))) = some r := h
 clear h
 have HC3 := Aside0.mk H
 clear H
 go_enter Try.func85, Try.ntmps85
 go_upto_region 1 with (first | ((with_reducible refine gate_dst (N := 2) rfl ?_); (try (refine gate_guard ψ16 ?_; dsimp only)); refine bE 2 #[.int .i64 a0_0, .slice A0_1 l0_1.length c0_1, .slice A0_2 l0_2.length c0_2, .int .i64 a0_3, .slice A0_4 l0_4.length c0_4, .slice A0_5 l0_5.length c0_5] 35 ?_; intro gb10 hg w4 hbox hb; have q := n4_ (below_step ψ61 hb) (hbox) ((ψ312 : w.heap.size ≤ gb10)) ((ψ312 : w.heap.size ≤ gb10)); clear HB; obtain ⟨HB, BK10, GW10, GE10⟩ := q; clear hb hbox hg) | ((with_reducible refine gate_dst (N := 3) rfl ?_); (try (refine gate_guard ψ16 ?_; dsimp only)); refine bE 3 #[.int .i64 a1_0, .int .i64 a1_1, .slice A1_2 l1_2.length c1_2, .slice A1_3 l1_3.length c1_3] 42 ?_; intro gb11 hg w5 hbox hb; have q := n7_ (blk_below (g := gb10) ψ23 hb) (below_step ψ61 hb) (hbox) ((ψ312 : w.heap.size ≤ gb11)) ((ψ312 : w.heap.size ≤ gb11)) ((ψ304 : gb10 ≠ gb11)) ((ψ305 : gb11 ≠ gb10)); clear BK10 HB; obtain ⟨BK10, HB, BK11, GW11, GE11, NB10_11, NB11_10⟩ := q; clear hb hbox hg))
 (try simp only [Act.put, List.setIfInBounds_toArray, List.set_cons_zero, List.set_cons_succ])
 go_cut [5] (fun v5 wc => ∃ (kq : Nat) (x5_2 : Bool), v5 = .bool x5_2 ∧ Aside0 (spec_l3Stmt.j0 kq x5_2 a0_0 l0_1 l0_2 a0_3 l0_4 l0_5 a1_0 a1_1 l1_2 l1_3 = some r) ∧ Aside0 (kq ≤ k) ∧ Aside0 (wc.heap[gb10]? = some (.cells #[.int .i64 a0_0, (.slice A0_1 l0_1.length c0_1), (.slice A0_2 l0_2.length c0_2), .int .i64 a0_3, (.slice A0_4 l0_4.length c0_4), (.slice A0_5 l0_5.length c0_5)] 35 (0, 0))) ∧ Aside0 (wc.heap[gb11]? = some (.cells #[.int .i64 a1_0, .int .i64 a1_1, (.slice A1_2 l1_2.length c1_2), (.slice A1_3 l1_3.length c1_3)] 42 (0, 0))) ∧ Aside0 (Below w.heap.size w wc))
 case first =>
  have H := HC3.out
  clear HC3
  replace H := ifF H; rcases H with ⟨c6b0, c6b1, H⟩ | ⟨c6b0, c6b1, c6, H⟩
  ·(first | rw [c6b0] | rw [c6b1] | (simp only [i64_w, i32_w]; rw [c6b0]) | skip)
   exact τ25
  ·(first | rw [c6b0] | rw [c6b1] | (simp only [i64_w, i32_w]; rw [c6b0]) | skip)
   replace H := ifF H; rcases H with ⟨c9b0, c9b1, H⟩ | ⟨c9b0, c9b1, c9, H⟩
   ·exact τ25
   ·by_cases c12 : a1_0 = 2
    ·rw [if_pos c12] at H
     have c12b0 : (a1_0 == 2) = true := beq_iff_eq.mpr c12
     have c12b1 : (a1_0 != 2) = false := bne_eq_false_iff_eq.mpr c12
     clear c12
     exact τ25
    ·rw [if_neg c12] at H
     have c12b0 : (a1_0 == 2) = false := beq_eq_false_iff_ne.mpr c12
     have c12b1 : (a1_0 != 2) = true := bne_iff_ne.mpr c12
     exact τ25
 case rest =>
  clear HC3
  try clear c1
  try clear p2
  try clear c6
  try clear c6b0
  try clear c6b1
  try clear c7
  try clear c8
  try clear c9
  try clear c9b0
  try clear c9b1
  try clear c10
  try clear c12
  try clear c12b0
  try clear c12b1
  try clear c13
  try clear c15
  try clear y11_0 y11_1 y11_2 y11_3
  try clear y14_0 y14_1 y14_2 y14_3
  try clear y16_0 y16_1 y16_2 y16_3
  try clear y8_0 y8_1 y8_2 y8_3
  try clear u11_0 u11_1 u11_2 u11_3
  try clear u14_0 u14_1 u14_2 u14_3
  try clear u16_0 u16_1 u16_2 u16_3
  try clear u8_0 u8_1 u8_2 u8_3
  obtain ⟨kq, x5_2, rfl, HA, HJ2, BK10, BK11, HB⟩ := hcut
  cases kq with
  | zero => exact absurd HA.out (by simp [spec_l3Stmt.j0])
  | succ kj2 =>
   have H := HA.out
   clear HA
   simp only [spec_l3Stmt.j0] at H
   have HC17 := Aside0.mk H
   clear H
   go_upto_region 2 with (fail)
   go_cut [46] (fun v46 wc => ∃ (kq : Nat) (x46_16 : Bool), v46 = .bool x46_16 ∧ Aside0 (spec_l3Stmt.j1 kq x5_2 x46_16 a0_0 l0_1 l0_2 a0_3 l0_4 l0_5 a1_0 a1_1 l1_2 l1_3 = some r) ∧ Aside0 (kq ≤ kj2) ∧ Aside0 (wc.heap[gb10]? = some (.cells #[.int .i64 a0_0, (.slice A0_1 l0_1.length c0_1), (.slice A0_2 l0_2.length c0_2), .int .i64 a0_3, (.slice A0_4 l0_4.length c0_4), (.slice A0_5 l0_5.length c0_5)] 35 (0, 0))) ∧ Aside0 (wc.heap[gb11]? = some (.cells #[.int .i64 a1_0, .int .i64 a1_1, (.slice A1_2 l1_2.length c1_2), (.slice A1_3 l1_3.length c1_3)] 42 (0, 0))) ∧ Aside0 (Below w.heap.size w wc))
   case first =>
    have H := HC17.out
    clear HC17
    replace H := Option.bind_eq_some_iff.mp H
    obtain ⟨t328, A180, H⟩ := H
    have A18 := Aside0.mk A180
    clear A180
    replace H := ifB H; rcases H with ⟨rfl, H⟩ | ⟨rfl, H⟩
    ·by_cases c20 : (x5_2 != (decide ((l1_3.length : Int) > 0))) = true
     ·rw [if_pos c20] at H
      have c20b0 : (x5_2 != (decide ((l1_3.length : Int) > 0))) = true := c20
      (try (have c20n0 : (x5_2 != (decide (0 < l1_3.length))) = true := by have e0_ : (decide ((l1_3.length : Int) > 0)) = decide (0 < l1_3.length) := decide_eq_decide.2 ψ7; have h_ := c20b0; rw [e0_] at h_; exact h_))
      (try (have c20b1 : decide (x5_2 = (decide ((l1_3.length : Int) > 0))) = false := by simpa using c20))
      (try (have c20n1 : decide (x5_2 = (decide (0 < l1_3.length))) = false := by have e0_ : (decide ((l1_3.length : Int) > 0)) = decide (0 < l1_3.length) := decide_eq_decide.2 ψ7; have h_ := c20b1; rw [e0_] at h_; exact h_))
      (try (have c20b2 : (x5_2 == (decide ((l1_3.length : Int) > 0))) = false := by simpa using c20))
      (try (have c20n2 : (x5_2 == (decide (0 < l1_3.length))) = false := by have e0_ : (decide ((l1_3.length : Int) > 0)) = decide (0 < l1_3.length) := decide_eq_decide.2 ψ7; have h_ := c20b2; rw [e0_] at h_; exact h_))
      (try (have c20b3 : ¬ (x5_2 = (decide ((l1_3.length : Int) > 0))) := by simpa using c20))
      (try (have c20n3 : ¬ (x5_2 = (decide (0 < l1_3.length))) := by have e0_ : (decide ((l1_3.length : Int) > 0)) = decide (0 < l1_3.length) := decide_eq_decide.2 ψ7; have h_ := c20b3; rw [e0_] at h_; exact h_))
      clear c20
      (first | rw [c20b0] | rw [c20b1] | (simp only [i64_w, i32_w]; rw [c20b0]) | skip)
      exact τ26
     ·rw [if_neg c20] at H
      have c20b0 : (x5_2 != (decide ((l1_3.length : Int) > 0))) = false := by simpa using c20
      (try (have c20n0 : (x5_2 != (decide (0 < l1_3.length))) = false := by have e0_ : (decide ((l1_3.length : Int) > 0)) = decide (0 < l1_3.length) := decide_eq_decide.2 ψ7; have h_ := c20b0; rw [e0_] at h_; exact h_))
      (try (have c20b1 : decide (x5_2 = (decide ((l1_3.length : Int) > 0))) = true := by simpa using c20))
      (try (have c20n1 : decide (x5_2 = (decide (0 < l1_3.length))) = true := by have e0_ : (decide ((l1_3.length : Int) > 0)) = decide (0 < l1_3.length) := decide_eq_decide.2 ψ7; have h_ := c20b1; rw [e0_] at h_; exact h_))
      (try (have c20b2 : (x5_2 == (decide ((l1_3.length : Int) > 0))) = true := by simpa using c20))
      (try (have c20n2 : (x5_2 == (decide (0 < l1_3.length))) = true := by have e0_ : (decide ((l1_3.length : Int) > 0)) = decide (0 < l1_3.length) := decide_eq_decide.2 ψ7; have h_ := c20b2; rw [e0_] at h_; exact h_))
      clear c20
      (first | rw [c20b0] | rw [c20b1] | (simp only [i64_w, i32_w]; rw [c20b0]) | skip)
      exact τ26
    ·exact τ26
   case rest =>
    clear HC17
    try clear c1
    try clear c2
    try clear p2
    try clear c4
    try clear c6
    try clear c6b0
    try clear c6b1
    try clear c7
    try clear c8
    try clear c9
    try clear c9b0
    try clear c9b1
    try clear c10
    try clear c12
    try clear c12b0
    try clear c12b1
    try clear c13
    try clear c15
    try clear c19
    try clear c20
    try clear c20b0
    try clear c20b1
    try clear c20b2
    try clear c21
    try clear c23
    try clear c25
    try clear y11_0 y11_1 y11_2 y11_3
    try clear y14_0 y14_1 y14_2 y14_3
    try clear y16_0 y16_1 y16_2 y16_3
    try clear y22_0 y22_1 y22_2 y22_3
    try clear y24_0 y24_1 y24_2 y24_3
    try clear y26_0 y26_1 y26_2 y26_3
    try clear y8_0 y8_1 y8_2 y8_3
    try clear u11_0 u11_1 u11_2 u11_3
    try clear u14_0 u14_1 u14_2 u14_3
    try clear u16_0 u16_1 u16_2 u16_3
    try clear u22_0 u22_1 u22_2 u22_3
    try clear u24_0 u24_1 u24_2 u24_3
    try clear u26_0 u26_1 u26_2 u26_3
    try clear u8_0 u8_1 u8_2 u8_3
    try clear p2
    obtain ⟨kq, x46_16, rfl, HA, HJ16, BK10, BK11, HB⟩ := hcut
    cases kq with
    | zero => exact absurd HA.out (by simp [spec_l3Stmt.j1])
    | succ kj16 =>
     have H := HA.out
     clear HA
     simp only [spec_l3Stmt.j1] at H
     replace H := ifB H; rcases H with ⟨rfl, H⟩ | ⟨rfl, H⟩
     ·obtain rfl := Option.some.inj H
      go_wp2
      go_ret
      exact ⟨ψ9, ψ61⟩
     ·have HC28 := Aside0.mk H
      clear H
      go_upto_region 4 with (fail)
      go_cut [66] (fun v66 wc => ∃ (kq : Nat) (x66_27 : Bool), v66 = .bool x66_27 ∧ Aside0 (spec_l3Stmt.j2 kq x66_27 a0_0 l0_1 l0_2 a0_3 l0_4 l0_5 a1_0 a1_1 l1_2 l1_3 = some r) ∧ Aside0 (kq ≤ kj16) ∧ Aside0 (wc.heap[gb10]? = some (.cells #[.int .i64 a0_0, (.slice A0_1 l0_1.length c0_1), (.slice A0_2 l0_2.length c0_2), .int .i64 a0_3, (.slice A0_4 l0_4.length c0_4), (.slice A0_5 l0_5.length c0_5)] 35 (0, 0))) ∧ Aside0 (wc.heap[gb11]? = some (.cells #[.int .i64 a1_0, .int .i64 a1_1, (.slice A1_2 l1_2.length c1_2), (.slice A1_3 l1_3.length c1_3)] 42 (0, 0))) ∧ Aside0 (Below w.heap.size w wc))
      case first =>
       have H := HC28.out
       clear HC28
       replace H := ifB H; rcases H with ⟨rfl, H⟩ | ⟨rfl, H⟩
       ·replace H := Option.bind_eq_some_iff.mp H
        obtain ⟨t334, A300, H⟩ := H
        have A30 := Aside0.mk A300
        clear A300
        replace H := ifB H; rcases H with ⟨rfl, H⟩ | ⟨rfl, H⟩
        ·by_cases c32 : a1_0 = 1
         ·rw [if_pos c32] at H
          have c32b0 : (a1_0 == 1) = true := beq_iff_eq.mpr c32
          have c32b1 : (a1_0 != 1) = false := bne_eq_false_iff_eq.mpr c32
          clear c32
          (first | rw [c32b0] | rw [c32b1] | (simp only [i64_w, i32_w]; rw [c32b0]) | skip)
          replace H := Option.bind_eq_some_iff.mp H
          obtain ⟨t338, A330, H⟩ := H
          have A33 := Aside0.mk A330
          clear A330
          exact τ27
         ·rw [if_neg c32] at H
          have c32b0 : (a1_0 == 1) = false := beq_eq_false_iff_ne.mpr c32
          have c32b1 : (a1_0 != 1) = true := bne_iff_ne.mpr c32
          (first | rw [c32b0] | rw [c32b1] | (simp only [i64_w, i32_w]; rw [c32b0]) | skip)
          exact τ27
        ·exact τ27
       ·by_cases c50 : a1_0 = 1
        ·rw [if_pos c50] at H
         have c50b0 : (a1_0 == 1) = true := beq_iff_eq.mpr c50
         have c50b1 : (a1_0 != 1) = false := bne_eq_false_iff_eq.mpr c50
         clear c50
         replace H := Option.bind_eq_some_iff.mp H
         obtain ⟨t342, A510, H⟩ := H
         have A51 := Aside0.mk A510
         clear A510
         exact τ27
        ·rw [if_neg c50] at H
         have c50b0 : (a1_0 == 1) = false := beq_eq_false_iff_ne.mpr c50
         have c50b1 : (a1_0 != 1) = true := bne_iff_ne.mpr c50
         exact τ27
      case rest =>
       clear HC28
       try clear c1
       try clear c2
       try clear p2
       try clear c3
       try clear c4
       try clear c5
       try clear c6
       try clear c6b0
       try clear c6b1
       try clear c7
       try clear c8
       try clear c9
       try clear c9b0
       try clear c9b1
       try clear c10
       try clear c12
       try clear c12b0
       try clear c12b1
       try clear c13
       try clear c15
       try clear c19
       try clear c20
       try clear c20b0
       try clear c20b1
       try clear c20b2
       try clear c21
       try clear c23
       try clear c25
       try clear c27
       try clear c29
       try clear c31
       try clear c32
       try clear c32b0
       try clear c32b1
       try clear c34
       try clear c41
       try clear c43
       try clear c46
       try clear c50
       try clear c50b0
       try clear c50b1
       try clear c52
       try clear c56
       try clear y11_0 y11_1 y11_2 y11_3
       try clear y14_0 y14_1 y14_2 y14_3
       try clear y16_0 y16_1 y16_2 y16_3
       try clear y22_0 y22_1 y22_2 y22_3
       try clear y24_0 y24_1 y24_2 y24_3
       try clear y26_0 y26_1 y26_2 y26_3
       try clear y35_0 y35_1 y35_2 y35_3 y35_4 y35_5
       try clear y36_0 y36_1 y36_2 y36_3
       try clear y38_0 y38_1 y38_2 y38_3
       try clear y39_0 y39_1 y39_2 y39_3 y39_4 y39_5
       try clear y42_0 y42_1 y42_2 y42_3 y42_4 y42_5
       try clear y43_0 y43_1 y43_2 y43_3
       try clear y45_0 y45_1 y45_2 y45_3
       try clear y47_0 y47_1 y47_2 y47_3 y47_4 y47_5
       try clear y48_0 y48_1 y48_2 y48_3
       try clear y53_0 y53_1 y53_2 y53_3
       try clear y54_0 y54_1 y54_2 y54_3 y54_4 y54_5
       try clear y57_0 y57_1 y57_2 y57_3
       try clear y8_0 y8_1 y8_2 y8_3
       try clear u11_0 u11_1 u11_2 u11_3
       try clear u14_0 u14_1 u14_2 u14_3
       try clear u16_0 u16_1 u16_2 u16_3
       try clear u22_0 u22_1 u22_2 u22_3
       try clear u24_0 u24_1 u24_2 u24_3
       try clear u26_0 u26_1 u26_2 u26_3
       try clear u35_0 u35_1 u35_2 u35_3 u35_4 u35_5
       try clear u36_0 u36_1 u36_2 u36_3
       try clear u38_0 u38_1 u38_2 u38_3
       try clear u39_0 u39_1 u39_2 u39_3 u39_4 u39_5
       try clear u42_0 u42_1 u42_2 u42_3 u42_4 u42_5
       try clear u43_0 u43_1 u43_2 u43_3
       try clear u45_0 u45_1 u45_2 u45_3
       try clear u47_0 u47_1 u47_2 u47_3 u47_4 u47_5
       try clear u48_0 u48_1 u48_2 u48_3
       try clear u53_0 u53_1 u53_2 u53_3
       try clear u54_0 u54_1 u54_2 u54_3 u54_4 u54_5
       try clear u57_0 u57_1 u57_2 u57_3
       try clear u8_0 u8_1 u8_2 u8_3
       try clear p2
       obtain ⟨kq, x66_27, rfl, HA, HJ27, BK10, BK11, HB⟩ := hcut
       cases kq with
       | zero => exact absurd HA.out (by simp [spec_l3Stmt.j2])
       | succ kj27 =>
        have H := HA.out
        clear HA
        simp only [spec_l3Stmt.j2] at H
        replace H := ifB H; rcases H with ⟨rfl, H⟩ | ⟨rfl, H⟩
        ·exact τ28
        ·by_cases c59 : a1_0 = 0
         ·rw [if_pos c59] at H
          have c59b0 : (a1_0 == 0) = true := beq_iff_eq.mpr c59
          have c59b1 : (a1_0 != 0) = false := bne_eq_false_iff_eq.mpr c59
          clear c59
          replace H := Option.bind_eq_some_iff.mp H
          obtain ⟨t348, A600, H⟩ := H
          have A60 := Aside0.mk A600
          clear A600
          exact τ28
         ·rw [if_neg c59] at H
          have c59b0 : (a1_0 == 0) = false := beq_eq_false_iff_ne.mpr c59
          have c59b1 : (a1_0 != 0) = true := bne_iff_ne.mpr c59
          replace H := ifF H; rcases H with ⟨c64b0, c64b1, H⟩ | ⟨c64b0, c64b1, c64, H⟩
          ·replace H := Option.bind_eq_some_iff.mp H
           obtain ⟨t351, A650, H⟩ := H
           have A65 := Aside0.mk A650
           clear A650
           exact τ28
          ·by_cases c69 : a1_0 = 5
           ·rw [if_pos c69] at H
            have c69b0 : (a1_0 == 5) = true := beq_iff_eq.mpr c69
            have c69b1 : (a1_0 != 5) = false := bne_eq_false_iff_eq.mpr c69
            clear c69
            replace H := Option.bind_eq_some_iff.mp H
            obtain ⟨t353, A700, H⟩ := H
            have A70 := Aside0.mk A700
            clear A700
            exact τ28
           ·rw [if_neg c69] at H
            have c69b0 : (a1_0 == 5) = false := beq_eq_false_iff_ne.mpr c69
            have c69b1 : (a1_0 != 5) = true := bne_iff_ne.mpr c69
            replace H := ifF H; rcases H with ⟨c74b0, c74b1, H⟩ | ⟨c74b0, c74b1, c74, H⟩
            ·replace H := Option.bind_eq_some_iff.mp H
             obtain ⟨t355, A750, H⟩ := H
             have A75 := Aside0.mk A750
             clear A750
             exact τ28
            ·by_cases c79 : a1_0 = 9
             ·rw [if_pos c79] at H
              have c79b0 : (a1_0 == 9) = true := beq_iff_eq.mpr c79
              have c79b1 : (a1_0 != 9) = false := bne_eq_false_iff_eq.mpr c79
              clear c79
              replace H := Option.bind_eq_some_iff.mp H
              obtain ⟨t357, A800, H⟩ := H
              have A80 := Aside0.mk A800
              clear A800
              exact τ28
             ·rw [if_neg c79] at H
              have c79b0 : (a1_0 == 9) = false := beq_eq_false_iff_ne.mpr c79
              have c79b1 : (a1_0 != 9) = true := bne_iff_ne.mpr c79
              exact τ28

/-! ### spec_l3Stmts: function 56 -/
def spec_l3Stmts.l0 : Nat → Int → Int → List (S77) → List (S77) → Int → List Int → List (S42) → Option (Bool)
 | 0, _, _, _, _, _, _, _ => none
 | k + 1, x3, x360000, x360001, x360002, x360003, x360004, x360005 => if x3 < (x360005.length : Int) then (if 0 ≤ x3 then ((spec_l3Stmt.f k x360000 x360001 x360002 x360003 x360004 x360005 ((rd_T42 x360005 x3).f0) ((rd_T42 x360005 x3).f1) ((rd_T42 x360005 x3).f2) ((rd_T42 x360005 x3).f3)).bind fun t364 => (if t364 = true then (spec_l3Stmts.l0 k (wrap64 (x3 + 1)) x360000 x360001 x360002 x360003 x360004 x360005) else (some false))) else (none)) else (some true)
def spec_l3Stmts.f (k : Nat) (a0_0 : Int) (l0_1 : List (S77)) (l0_2 : List (S77)) (a0_3 : Int) (l0_4 : List Int) (l0_5 : List (S42)) : Option (Bool) := spec_l3Stmts.l0 k 0 a0_0 l0_1 l0_2 a0_3 l0_4 l0_5
def spec_l3Stmts.T4 : Bool × List (List Nat × List Nat) := (true, [([], []), ([], []), ([1], [1]), ([], []), ([2, 3], [2, 3]), ([4], [4]), ([0, 5], [0, 5]), ([6], [6])])
def spec_l3Stmts.B4 : List Nat := [0, 0, 2, 0, 14, 30, 63, 127]
theorem spec_l3Stmts.tab4 : rtab .any (opsOf Try.f56 4) = spec_l3Stmts.T4 := by kernel_rfl
theorem spec_l3Stmts.bits4 : waitsOk spec_l3Stmts.T4.2 spec_l3Stmts.B4 = true := by kernel_rfl
set_option maxRecDepth 100000 in
theorem τ29 {P : Prop} (h : P := by
 first | obtain rfl := Option.some.inj H | (have H' := Aside0.mk H; clear H)
 obtain ⟨hczB10_0, hczB10_1, hczB10_2, hczB10_3, hczB10_4, hczB10_5, hfzB10_0, hfzB10_1, hfzB10_2, hfzB10_3, hfzB10_4, hfzB10_5⟩ := cells6 BK10.out
 try go_wp2
 have q := n2_ (blk_drew BK10.out) (below_drew1 HB.out)
 clear BK10 HB
 obtain ⟨BK10, HB⟩ := q
 have p363 : 0 ≤ (x3_1 : Int) := of_decide_eq_true ψ2
 have q363 : x3_1 < (l0_5.length : Int) := of_decide_eq_true ψ2
 obtain ⟨ad363, A363_2, c363_2, A363_3, c363_3, e363, hx363_0, hx363_1, hx363_2, hx363_3, hl363_2, hi363_2, hl363_3, hi363_3⟩ := at_T42 HR0_5.out x3_1 p363 q363
 have hw363_3 := hx363_3
 have hw363_2 := hx363_2
 have hw363_1 := hx363_1
 have hw363_0 := hx363_0
 cases e363
 replace hx363_0 := (HB.out.cell (World.block_lt_of_cell? w _ hx363_0)).trans hx363_0
 replace hx363_1 := (HB.out.cell (World.block_lt_of_cell? w _ hx363_1)).trans hx363_1
 replace hx363_2 := (HB.out.cell (World.block_lt_of_cell? w _ hx363_2)).trans hx363_2
 replace hx363_3 := (HB.out.cell (World.block_lt_of_cell? w _ hx363_3)).trans hx363_3
 have HR363_2 := Aside0.mk hi363_2
 have HC363_2 := Aside0.mk hl363_2
 clear hi363_2 hl363_2
 have HR363_3 := Aside0.mk hi363_3
 have HC363_3 := Aside0.mk hl363_3
 clear hi363_3 hl363_3
 replace p363 := eq_true p363
 replace q363 := eq_true q363
 refine start_ (n := 8) (S := fun w' => w'.cell? ⟨gb10, 0, none⟩ = some (.int .i64 a0_0) ∧ w'.cell? ⟨gb10, 1, none⟩ = some (.slice A0_1 l0_1.length c0_1) ∧ w'.cell? ⟨gb10, 2, none⟩ = some (.slice A0_2 l0_2.length c0_2) ∧ w'.cell? ⟨gb10, 3, none⟩ = some (.int .i64 a0_3) ∧ w'.cell? ⟨gb10, 4, none⟩ = some (.slice A0_4 l0_4.length c0_4) ∧ w'.cell? ⟨gb10, 5, none⟩ = some (.slice (some ad363) l0_5.length c0_5) ∧ w'.cell? (ad363.add ((x3_1).toNat * 4)) = some (.int .i64 ((rd_T42 l0_5 x3_1).f0)) ∧ w'.cell? ⟨(ad363.add ((x3_1).toNat * 4)).block, (ad363.add ((x3_1).toNat * 4)).off + 1, none⟩ = some (.int .i64 ((rd_T42 l0_5 x3_1).f1)) ∧ w'.cell? ⟨(ad363.add ((x3_1).toNat * 4)).block, (ad363.add ((x3_1).toNat * 4)).off + 2, none⟩ = some (.slice A363_2 ((rd_T42 l0_5 x3_1).f2).length c363_2) ∧ w'.cell? ⟨(ad363.add ((x3_1).toNat * 4)).block, (ad363.add ((x3_1).toNat * 4)).off + 3, none⟩ = some (.slice A363_3 ((rd_T42 l0_5 x3_1).f3).length c363_3)) (ds := []) #[false, false, false, false, false, false, false, false] ψ14 rfl rfl ⟨(blk_cell BK10.out 0).trans rfl, (blk_cell BK10.out 1).trans rfl, (blk_cell BK10.out 2).trans rfl, (blk_cell BK10.out 3).trans rfl, (blk_cell BK10.out 4).trans rfl, (blk_cell BK10.out 5).trans rfl, ((HB.out.cell (World.block_lt_of_cell? w _ hw363_0)).trans hw363_0), ((HB.out.cell (World.block_lt_of_cell? w _ hw363_1)).trans hw363_1), ((HB.out.cell (World.block_lt_of_cell? w _ hw363_2)).trans hw363_2), ((HB.out.cell (World.block_lt_of_cell? w _ hw363_3)).trans hw363_3)⟩ (fun hHeld => ?_); refine with_tabW spec_l3Stmts.tab4 spec_l3Stmts.bits4 (fun HT_ HW_ => ?_)
 generalize wr.drew = w1_ at BK10 HB HR363_2 HR363_3 hx363_0 hx363_1 hx363_2 hx363_3 hHeld ⊢
 refine rP 1 12 ?_; refine rP 3 14 ?_; refine rT 0 11 ?_; refine rT 2 13 ?_; refine rP 4 15 ?_; refine rT 5 16 ?_
 refine one_ (i := 6) (N := some 17) #[true, true, true, true, true, true, true, false] rfl rfl (one_of HT_.out ψ14) ψ15 (fun K hK => ?_)
 refine goes_ Try.func85 ψ14 rfl #[.agg #[.int .i64 a0_0, .slice A0_1 l0_1.length c0_1, .slice A0_2 l0_2.length c0_2, .int .i64 a0_3, .slice A0_4 l0_4.length c0_4, .slice (some ad363) l0_5.length c0_5], .agg #[.int .i64 ((rd_T42 l0_5 x3_1).f0), .int .i64 ((rd_T42 l0_5 x3_1).f1), .slice A363_2 ((rd_T42 l0_5 x3_1).f2).length c363_2, .slice A363_3 ((rd_T42 l0_5 x3_1).f3).length c363_3]] ψ16 rfl rfl ψ17 ?_
 with_reducible refine (spec_l3Stmt.calls k1 a0_0 _ _ l0_1 _ _ l0_2 a0_3 _ _ l0_4 _ _ l0_5 ((rd_T42 l0_5 x3_1).f0) ((rd_T42 l0_5 x3_1).f1) _ _ ((rd_T42 l0_5 x3_1).f2) _ _ ((rd_T42 l0_5 x3_1).f3) _ _ ?_ ?_ ?_ ?_ ?_ ?_ ?_ ?_ ?_ ?_ ?_ ?_ A5.out).mono ?_
 exact ψ54; exact HC0_1.out; exact ψ55; exact HC0_2.out; exact ψ56; exact HC0_4.out; exact ψ57; exact HC0_5.out; exact (by repeat (first | exact (Kd.C_below HR363_2.out HB.out) | (with_reducible refine Kd.C_alloc ?_ _) | (with_reducible refine Kd.C_drewN ?_ _) | (with_reducible refine Kd.C_drew ?_))); exact HC363_2.out; exact (by repeat (first | exact (Kd.C_below HR363_3.out HB.out) | (with_reducible refine Kd.C_alloc ?_ _) | (with_reducible refine Kd.C_drewN ?_ _) | (with_reducible refine Kd.C_drew ?_))); exact HC363_3.out
 rintro e w2_ ⟨rfl, hb⟩
 refine ⟨_, rfl, ?_⟩
 have q := n2_ (blk_below (g := gb10) ψ23 hb) (below_step ψ52 hb)
 clear BK10 HB
 obtain ⟨BK10, HB⟩ := q
 (try clear hb)
 refine hK.out _ _ ⟨(blk_cell BK10.out 0).trans rfl, (blk_cell BK10.out 1).trans rfl, (blk_cell BK10.out 2).trans rfl, (blk_cell BK10.out 3).trans rfl, (blk_cell BK10.out 4).trans rfl, (blk_cell BK10.out 5).trans rfl, ((HB.out.cell (World.block_lt_of_cell? w _ hw363_0)).trans hw363_0), ((HB.out.cell (World.block_lt_of_cell? w _ hw363_1)).trans hw363_1), ((HB.out.cell (World.block_lt_of_cell? w _ hw363_2)).trans hw363_2), ((HB.out.cell (World.block_lt_of_cell? w _ hw363_3)).trans hw363_3)⟩ (fun hHeld => ?_)
 clear hK K
 refine rN 17 ?_; refine rP 7 18 ?_
 refine done_ (done_of HT_.out ψ14) ?_
 try go_wp2
 first | (go_roundg k1; (case measure => have := HK1.out; omega); (case rel => exact ⟨(wrap64 (x3_1 + 1)), ψ0, H', ⟨ψ53⟩, ⟨ψ23⟩, ⟨ψ52⟩⟩)) | (go_ret; exact ⟨ψ9, ψ52⟩)) : P := h
set_option maxHeartbeats 8000000 in
set_option maxRecDepth 100000 in
theorem spec_l3Stmts.calls (k : Nat) (a0_0 : Int) (A0_1 : Option Addr) (c0_1 : Nat) (l0_1 : List (S77)) (A0_2 : Option Addr) (c0_2 : Nat) (l0_2 : List (S77)) (a0_3 : Int) (A0_4 : Option Addr) (c0_4 : Nat) (l0_4 : List Int) (A0_5 : Option Addr) (c0_5 : Nat) (l0_5 : List (S42)) (r : Bool) (w : World) (hr0_1 : Kd.C k77 w A0_1 l0_1.length l0_1) (hc0_1 : l0_1.length ≤ c0_1) (hr0_2 : Kd.C k77 w A0_2 l0_2.length l0_2) (hc0_2 : l0_2.length ≤ c0_2) (hr0_4 : Kd.C (Kd.int .i64) w A0_4 l0_4.length l0_4) (hc0_4 : l0_4.length ≤ c0_4) (hr0_5 : Kd.C k42 w A0_5 l0_5.length l0_5) (hc0_5 : l0_5.length ≤ c0_5) (h : spec_l3Stmts.f k a0_0 l0_1 l0_2 a0_3 l0_4 l0_5 = some r) :
 Calls Try.prog 56 #[.agg #[.int .i64 a0_0, .slice A0_1 l0_1.length c0_1, .slice A0_2 l0_2.length c0_2, .int .i64 a0_3, .slice A0_4 l0_4.length c0_4, .slice A0_5 l0_5.length c0_5]] w fun e w' => e = .returned (.bool r) ∧ Below w.heap.size w w' := by
 have hu35 := Try.underlying35
 have hu42 := Try.underlying42
 have HR0_1 := Aside0.mk hr0_1
 have HC0_1 := Aside0.mk hc0_1
 clear hr0_1 hc0_1
 have HR0_2 := Aside0.mk hr0_2
 have HC0_2 := Aside0.mk hc0_2
 clear hr0_2 hc0_2
 have HR0_4 := Aside0.mk hr0_4
 have HC0_4 := Aside0.mk hc0_4
 clear hr0_4 hc0_4
 have HR0_5 := Aside0.mk hr0_5
 have HC0_5 := Aside0.mk hc0_5
 clear hr0_5 hc0_5
 have HB := Aside0.mk (Below.refl w.heap.size w)
 have H : (spec_l3Stmts.l0 k 0 a0_0 l0_1 l0_2 a0_3 l0_4 l0_5) = some r := h
 clear h
 have H' := Aside0.mk H
 clear H
 go_enter Try.func56, Try.ntmps56
 go_wp2_with (first | ((with_reducible refine gate_dst (N := 1) rfl ?_); refine bE 1 #[.int .i64 a0_0, .slice A0_1 l0_1.length c0_1, .slice A0_2 l0_2.length c0_2, .int .i64 a0_3, .slice A0_4 l0_4.length c0_4, .slice A0_5 l0_5.length c0_5] 35 ?_; intro gb10 hg w2 hbox hb; have q := n4_ (below_step ψ52 hb) (hbox) ((ψ311 : w.heap.size ≤ gb10)) ((ψ311 : w.heap.size ≤ gb10)); clear HB; obtain ⟨HB, BK10, GW10, GE10⟩ := q; clear hb hbox hg))
 go_loopg [3] k (fun kq v3 w' => ∃ (x3_1 : Int), v3 = .int .i64 x3_1 ∧ Aside0 (spec_l3Stmts.l0 kq x3_1 a0_0 l0_1 l0_2 a0_3 l0_4 l0_5 = some r) ∧ Aside0 (kq ≤ k) ∧ Aside0 (w'.heap[gb10]? = some (.cells #[.int .i64 a0_0, (.slice A0_1 l0_1.length c0_1), (.slice A0_2 l0_2.length c0_2), .int .i64 a0_3, (.slice A0_4 l0_4.length c0_4), (.slice A0_5 l0_5.length c0_5)] 35 (0, 0))) ∧ Aside0 (Below w.heap.size w w'))
 case atStart => exact ⟨(0), ψ0, H', ⟨Nat.le_refl _⟩, ⟨ψ23⟩, ⟨ψ52⟩⟩
 case round =>
  clear H'
  try clear p2
  obtain ⟨x3_1, rfl, HA, HK1, BK10, HB⟩ := hrel
  cases gk with
  | zero => exact absurd HA.out (by simp [spec_l3Stmts.l0])
  | succ k1 =>
   have H := HA.out
   clear HA
   simp only [spec_l3Stmts.l0] at H
   replace H := ifD H; rcases H with ⟨c3b0, H⟩ | ⟨c3b0, H⟩
   ·replace H := ifN H; obtain ⟨c4b0, H⟩ := H
    replace H := Option.bind_eq_some_iff.mp H
    obtain ⟨t364, A50, H⟩ := H
    have A5 := Aside0.mk A50
    clear A50
    replace H := ifB H; rcases H with ⟨rfl, H⟩ | ⟨rfl, H⟩
    ·exact τ29
    ·exact τ29
   ·obtain rfl := Option.some.inj H
    obtain ⟨y13_0, y13_1, y13_2, y13_3, y13_4, y13_5, u13_0, u13_1, u13_2, u13_3, u13_4, u13_5⟩ := cells6 BK10.out
    go_wp2
    go_ret
    exact ⟨ψ9, ψ52⟩

/-! ### spec_l1Max: function 86 -/
def spec_l1Max.f (a0 : Int) (a1 : Int) : Option (Int) := if a0 > a1 then (some a0) else (some a1)
set_option maxRecDepth 100000 in
theorem τ30 {P : Prop} (h : P := by
 obtain rfl := Option.some.inj H
 go_enter Try.func86, Try.ntmps86
 go_wp2
 go_ret
 exact ⟨ψ0, ψ1⟩) : P := h
set_option maxHeartbeats 8000000 in
set_option maxRecDepth 100000 in
theorem spec_l1Max.calls (a0 : Int) (a1 : Int) (r : Int) (w : World) (h : spec_l1Max.f a0 a1 = some r) :
 Calls Try.prog 86 #[.int .i64 a0, .int .i64 a1] w fun e w' => e = .returned (.int .i64 r) ∧ Drawn0 w w' := by
 have H : (if a0 > a1 then (some a0) else (some a1)) = some r := h
 clear h
 replace H := ifG H; rcases H with ⟨c3b0, H⟩ | ⟨c3b0, H⟩
 ·exact τ30
 ·exact τ30

/-! ### spec_l3Steps: function 58 -/
mutual
def spec_l3Steps.l0 : Nat → List (S42) → Int → Int → Int → Option (Int)
 | 0, _, _, _, _ => none
 | k + 1, x0, x2, x7, x8 => if x8 < x2 then ((spec_l3End.f k x0 x8).bind fun bt365 => (if 0 ≤ x8 then (if x8 < (x0.length : Int) then (if ((rd_T42 x0 x8).f0) = 2 then (if bt365.1 < 0 then ((spec_l3Steps.f k x0 (wrap64 (x8 + 1)) bt365.2).bind fun t368 => (if bt365.2 < 0 then (spec_l3Steps.l0 k x0 x2 (wrap64 ((wrap64 (x7 + 1)) + t368)) (wrap64 (x8 + 1))) else (spec_l3Steps.l0 k x0 x2 (wrap64 ((wrap64 (x7 + 1)) + t368)) (wrap64 (bt365.2 + 1))))) else ((spec_l3Steps.f k x0 (wrap64 (x8 + 1)) bt365.1).bind fun t369 => ((spec_l3Steps.f k x0 (wrap64 (bt365.1 + 1)) bt365.2).bind fun t370 => ((spec_l1Max.f t369 t370).bind fun t371 => (if bt365.2 < 0 then (spec_l3Steps.l0 k x0 x2 (wrap64 ((wrap64 (x7 + 1)) + t371)) (wrap64 (x8 + 1))) else (spec_l3Steps.l0 k x0 x2 (wrap64 ((wrap64 (x7 + 1)) + t371)) (wrap64 (bt365.2 + 1)))))))) else (if ((rd_T42 x0 x8).f0) = 5 then ((spec_l3Steps.f k x0 (wrap64 (x8 + 1)) bt365.2).bind fun t373 => (if bt365.2 < 0 then (spec_l3Steps.l0 k x0 x2 (wrap64 ((wrap64 (x7 + 1)) + (wrap64 (((rd_T42 x0 x8).f1) * (wrap64 (1 + t373)))))) (wrap64 (x8 + 1))) else (spec_l3Steps.l0 k x0 x2 (wrap64 ((wrap64 (x7 + 1)) + (wrap64 (((rd_T42 x0 x8).f1) * (wrap64 (1 + t373)))))) (wrap64 (bt365.2 + 1))))) else (if ((rd_T42 x0 x8).f0) = 8 then ((spec_l3Steps.f k x0 (wrap64 (x8 + 1)) bt365.1).bind fun t374 => ((spec_l3Steps.f k x0 (wrap64 (bt365.1 + 1)) bt365.2).bind fun t375 => (if bt365.2 < 0 then (spec_l3Steps.l0 k x0 x2 (wrap64 ((wrap64 ((wrap64 (x7 + 1)) + t374)) + t375)) (wrap64 (x8 + 1))) else (spec_l3Steps.l0 k x0 x2 (wrap64 ((wrap64 ((wrap64 (x7 + 1)) + t374)) + t375)) (wrap64 (bt365.2 + 1)))))) else (if bt365.2 < 0 then (spec_l3Steps.l0 k x0 x2 (wrap64 (x7 + 1)) (wrap64 (x8 + 1))) else (spec_l3Steps.l0 k x0 x2 (wrap64 (x7 + 1)) (wrap64 (bt365.2 + 1))))))) else (none)) else (none))) else (some x7)
def spec_l3Steps.f : Nat → List (S42) → Int → Int → Option (Int)
 | 0, _, _, _ => none
 | k + 1, l0, a1, a2 => spec_l3Steps.l0 k l0 a2 0 a1
end
def spec_l3Steps.T12 : Bool × List (List Nat × List Nat) := (true, [([], []), ([0], [0]), ([], []), ([], []), ([2, 3], [2, 3]), ([4], [4]), ([5], [5]), ([], []), ([], []), ([8], [8]), ([], []), ([7, 9, 10], [7, 9, 10]), ([11], [11]), ([6, 12], [6, 12]), ([1, 13], [1, 13]), ([14, 11, 0, 1, 2, 3, 4, 5, 6, 7, 8, 9, 10, 11, 12, 13, 14], [0, 14])])
def spec_l3Steps.B12 : List Nat := [0, 1, 0, 0, 12, 28, 60, 0, 0, 256, 0, 1920, 3968, 8188, 16383, 32767]
theorem spec_l3Steps.tab12 : rtab .any (opsOf Try.f58 12) = spec_l3Steps.T12 := by kernel_rfl
theorem spec_l3Steps.bits12 : waitsOk spec_l3Steps.T12.2 spec_l3Steps.B12 = true := by kernel_rfl
set_option maxRecDepth 100000 in
theorem τ31 {P : Prop} (h : P := by
 first | obtain rfl := Option.some.inj H | (have H' := Aside0.mk H; clear H)
 go_wp2_with (first | ((with_reducible refine gate_callee (f := 44) rfl ?_); refine gL 18 Try.func44 #[.slice A0 l0.length c0, .int .i64 x8_1] ?_; (with_reducible refine (spec_l3End.calls k1 _ _ l0 x8_1 t365 t366 _ ?_ ?_ A5.out).mono ?_); exact ψ65; exact HC0.out; rintro e w' ⟨rfl, ⟨nd, rfl⟩⟩; refine ⟨_, rfl, ?_⟩; have p367 : 0 ≤ (x8_1 : Int) := of_decide_eq_true ψ2; have q367 : x8_1 < (l0.length : Int) := of_decide_eq_true ψ2; obtain ⟨ad367, A367_2, c367_2, A367_3, c367_3, e367, hx367_0, hx367_1, hx367_2, hx367_3, hl367_2, hi367_2, hl367_3, hi367_3⟩ := at_T42 HR0.out x8_1 p367 q367; cases e367; replace hx367_0 := (HB.out.cell (World.block_lt_of_cell? w _ hx367_0)).trans hx367_0; replace hx367_1 := (HB.out.cell (World.block_lt_of_cell? w _ hx367_1)).trans hx367_1; replace hx367_2 := (HB.out.cell (World.block_lt_of_cell? w _ hx367_2)).trans hx367_2; replace hx367_3 := (HB.out.cell (World.block_lt_of_cell? w _ hx367_3)).trans hx367_3; have HR367_2 := Aside0.mk hi367_2; have HC367_2 := Aside0.mk hl367_2; clear hi367_2 hl367_2; have HR367_3 := Aside0.mk hi367_3; have HC367_3 := Aside0.mk hl367_3; clear hi367_3 hl367_3; replace p367 := eq_true p367; replace q367 := eq_true q367) | ((with_reducible refine gate_callee (f := 58) rfl ?_); refine gL 38 Try.func58 #[.slice (some ad367) l0.length c0, .int .i64 (wrap64 (x8_1 + 1)), .int .i64 t366] ?_; (with_reducible refine (ih k1 ψ53 _ _ l0 (wrap64 (x8_1 + 1)) t366 t368 _ ?_ ?_ A10.out).mono ?_); exact ψ313; exact HC0.out; rintro e w1_ ⟨rfl, hb⟩; refine ⟨_, rfl, ?_⟩; replace HB := Aside0.mk (below_step ψ59 hb); (try clear hb)) | ((with_reducible refine gate_callee (f := 58) rfl ?_); refine gL 46 Try.func58 #[.slice (some ad367) l0.length c0, .int .i64 (wrap64 (x8_1 + 1)), .int .i64 t365] ?_; (with_reducible refine (ih k1 ψ53 _ _ l0 (wrap64 (x8_1 + 1)) t365 t369 _ ?_ ?_ A14.out).mono ?_); exact ψ313; exact HC0.out; rintro e w1_ ⟨rfl, hb⟩; refine ⟨_, rfl, ?_⟩; replace HB := Aside0.mk (below_step ψ59 hb); (try clear hb)) | ((with_reducible refine gate_callee (f := 58) rfl ?_); refine gL 51 Try.func58 #[.slice (some ad367) l0.length c0, .int .i64 (wrap64 (t365 + 1)), .int .i64 t366] ?_; (with_reducible refine (ih k1 ψ53 _ _ l0 (wrap64 (t365 + 1)) t366 t370 _ ?_ ?_ A15.out).mono ?_); exact ψ65; exact HC0.out; rintro e w2_ ⟨rfl, hb⟩; refine ⟨_, rfl, ?_⟩; replace HB := Aside0.mk (below_step ψ59 hb); (try clear hb)) | ((with_reducible refine gate_callee (f := 86) rfl ?_); refine gL 52 Try.func86 #[.int .i64 t369, .int .i64 t370] ?_; (with_reducible refine (spec_l1Max.calls t369 t370 _ _ A16.out).mono ?_); rintro e w' ⟨rfl, ⟨nd, rfl⟩⟩; refine ⟨_, rfl, ?_⟩) | ((with_reducible refine gate_callee (f := 58) rfl ?_); refine gL 79 Try.func58 #[.slice (some ad367) l0.length c0, .int .i64 (wrap64 (x8_1 + 1)), .int .i64 t365] ?_; (with_reducible refine (ih k1 ψ53 _ _ l0 (wrap64 (x8_1 + 1)) t365 t374 _ ?_ ?_ A30.out).mono ?_); exact ψ313; exact HC0.out; rintro e w1_ ⟨rfl, hb⟩; refine ⟨_, rfl, ?_⟩; replace HB := Aside0.mk (below_step ψ59 hb); (try clear hb)) | ((with_reducible refine gate_callee (f := 58) rfl ?_); refine gL 85 Try.func58 #[.slice (some ad367) l0.length c0, .int .i64 (wrap64 (t365 + 1)), .int .i64 t366] ?_; (with_reducible refine (ih k1 ψ53 _ _ l0 (wrap64 (t365 + 1)) t366 t375 _ ?_ ?_ A31.out).mono ?_); exact ψ65; exact HC0.out; rintro e w2_ ⟨rfl, hb⟩; refine ⟨_, rfl, ?_⟩; replace HB := Aside0.mk (below_step ψ59 hb); (try clear hb)))
 first | (go_roundg k1; (case measure => have := HK1.out; omega); (case rel => exact ⟨(wrap64 ((wrap64 (x7_1 + 1)) + t368)), (wrap64 (x8_1 + 1)), ψ0, ψ0, H', ⟨ψ53⟩, ⟨ψ59⟩⟩)) | (go_roundg k1; (case measure => have := HK1.out; omega); (case rel => exact ⟨(wrap64 ((wrap64 (x7_1 + 1)) + t368)), (wrap64 (t366 + 1)), ψ0, ψ0, H', ⟨ψ53⟩, ⟨ψ59⟩⟩)) | (go_roundg k1; (case measure => have := HK1.out; omega); (case rel => exact ⟨(wrap64 ((wrap64 (x7_1 + 1)) + t371)), (wrap64 (x8_1 + 1)), ψ0, ψ0, H', ⟨ψ53⟩, ⟨ψ59⟩⟩)) | (go_roundg k1; (case measure => have := HK1.out; omega); (case rel => exact ⟨(wrap64 ((wrap64 (x7_1 + 1)) + t371)), (wrap64 (t366 + 1)), ψ0, ψ0, H', ⟨ψ53⟩, ⟨ψ59⟩⟩)) | (go_roundg k1; (case measure => have := HK1.out; omega); (case rel => exact ⟨(wrap64 ((wrap64 ((wrap64 (x7_1 + 1)) + t374)) + t375)), (wrap64 (x8_1 + 1)), ψ0, ψ0, H', ⟨ψ53⟩, ⟨ψ59⟩⟩)) | (go_roundg k1; (case measure => have := HK1.out; omega); (case rel => exact ⟨(wrap64 ((wrap64 ((wrap64 (x7_1 + 1)) + t374)) + t375)), (wrap64 (t366 + 1)), ψ0, ψ0, H', ⟨ψ53⟩, ⟨ψ59⟩⟩)) | (go_roundg k1; (case measure => have := HK1.out; omega); (case rel => exact ⟨(wrap64 (x7_1 + 1)), (wrap64 (x8_1 + 1)), ψ0, ψ0, H', ⟨ψ53⟩, ⟨ψ59⟩⟩)) | (go_roundg k1; (case measure => have := HK1.out; omega); (case rel => exact ⟨(wrap64 (x7_1 + 1)), (wrap64 (t366 + 1)), ψ0, ψ0, H', ⟨ψ53⟩, ⟨ψ59⟩⟩)) | (go_ret; exact ⟨ψ9, ψ59⟩)) : P := h
set_option maxRecDepth 100000 in
theorem τ32 {P : Prop} (h : P := by
 have H' := Aside0.mk H
 clear H
 try go_wp2_with (first | ((with_reducible refine gate_callee (f := 44) rfl ?_); refine gL 18 Try.func44 #[.slice A0 l0.length c0, .int .i64 x8_1] ?_; (with_reducible refine (spec_l3End.calls k1 _ _ l0 x8_1 t365 t366 _ ?_ ?_ A5.out).mono ?_); exact ψ65; exact HC0.out; rintro e w' ⟨rfl, ⟨nd, rfl⟩⟩; refine ⟨_, rfl, ?_⟩; have p367 : 0 ≤ (x8_1 : Int) := of_decide_eq_true ψ2; have q367 : x8_1 < (l0.length : Int) := of_decide_eq_true ψ2; obtain ⟨ad367, A367_2, c367_2, A367_3, c367_3, e367, hx367_0, hx367_1, hx367_2, hx367_3, hl367_2, hi367_2, hl367_3, hi367_3⟩ := at_T42 HR0.out x8_1 p367 q367; cases e367; replace hx367_0 := (HB.out.cell (World.block_lt_of_cell? w _ hx367_0)).trans hx367_0; replace hx367_1 := (HB.out.cell (World.block_lt_of_cell? w _ hx367_1)).trans hx367_1; replace hx367_2 := (HB.out.cell (World.block_lt_of_cell? w _ hx367_2)).trans hx367_2; replace hx367_3 := (HB.out.cell (World.block_lt_of_cell? w _ hx367_3)).trans hx367_3; have HR367_2 := Aside0.mk hi367_2; have HC367_2 := Aside0.mk hl367_2; clear hi367_2 hl367_2; have HR367_3 := Aside0.mk hi367_3; have HC367_3 := Aside0.mk hl367_3; clear hi367_3 hl367_3; replace p367 := eq_true p367; replace q367 := eq_true q367))
 (try (rw [drewN_self wr]; generalize hq_ : World.drewN wr _ = wr; have n0_ : Aside0 (Below w.heap.size w wr) := ⟨by rw [← hq_]; exact ψ59⟩; clear HB hq_; have HB := n0_; clear n0_))
 replace HB := Aside0.mk (below_drew1 HB.out)
 have p372 : 0 ≤ (x8_1 : Int) := of_decide_eq_true ψ2
 have q372 : x8_1 < (l0.length : Int) := of_decide_eq_true ψ2
 obtain ⟨ad372, A372_2, c372_2, A372_3, c372_3, e372, hx372_0, hx372_1, hx372_2, hx372_3, hl372_2, hi372_2, hl372_3, hi372_3⟩ := at_T42 HR0.out x8_1 p372 q372
 have hw372_3 := hx372_3
 have hw372_2 := hx372_2
 have hw372_1 := hx372_1
 have hw372_0 := hx372_0
 obtain rfl : ad367 = ad372 := (by injection e372)
 replace hx372_0 := (HB.out.cell (World.block_lt_of_cell? w _ hx372_0)).trans hx372_0
 replace hx372_1 := (HB.out.cell (World.block_lt_of_cell? w _ hx372_1)).trans hx372_1
 replace hx372_2 := (HB.out.cell (World.block_lt_of_cell? w _ hx372_2)).trans hx372_2
 replace hx372_3 := (HB.out.cell (World.block_lt_of_cell? w _ hx372_3)).trans hx372_3
 have HR372_2 := Aside0.mk hi372_2
 have HC372_2 := Aside0.mk hl372_2
 clear hi372_2 hl372_2
 have HR372_3 := Aside0.mk hi372_3
 have HC372_3 := Aside0.mk hl372_3
 clear hi372_3 hl372_3
 replace p372 := eq_true p372
 replace q372 := eq_true q372
 refine start_ (n := 16) (S := fun w' => w'.cell? (ad367.add ((x8_1).toNat * 4)) = some (.int .i64 ((rd_T42 l0 x8_1).f0)) ∧ w'.cell? ⟨(ad367.add ((x8_1).toNat * 4)).block, (ad367.add ((x8_1).toNat * 4)).off + 1, none⟩ = some (.int .i64 ((rd_T42 l0 x8_1).f1)) ∧ w'.cell? ⟨(ad367.add ((x8_1).toNat * 4)).block, (ad367.add ((x8_1).toNat * 4)).off + 2, none⟩ = some (.slice A372_2 ((rd_T42 l0 x8_1).f2).length c372_2) ∧ w'.cell? ⟨(ad367.add ((x8_1).toNat * 4)).block, (ad367.add ((x8_1).toNat * 4)).off + 3, none⟩ = some (.slice A372_3 ((rd_T42 l0 x8_1).f3).length c372_3)) (ds := []) #[false, false, false, false, false, false, false, false, false, false, false, false, false, false, false, false] ψ14 rfl rfl ⟨((HB.out.cell (World.block_lt_of_cell? w _ hw372_0)).trans hw372_0), ((HB.out.cell (World.block_lt_of_cell? w _ hw372_1)).trans hw372_1), ((HB.out.cell (World.block_lt_of_cell? w _ hw372_2)).trans hw372_2), ((HB.out.cell (World.block_lt_of_cell? w _ hw372_3)).trans hw372_3)⟩ (fun hHeld => ?_); refine with_tabW spec_l3Steps.tab12 spec_l3Steps.bits12 (fun HT_ HW_ => ?_)
 generalize wr.drew = w1_ at HB HR372_2 HR372_3 hx372_0 hx372_1 hx372_2 hx372_3 hHeld ⊢
 refine rP 0 56 ?_; refine rP 1 57 ?_; refine rP 2 58 ?_; refine rP 3 59 ?_; refine rP 4 60 ?_; refine rP 5 61 ?_; refine rP 7 63 ?_; refine rP 8 64 ?_; refine rP 9 65 ?_; refine rP 10 66 ?_; refine rT 6 62 ?_
 refine one_ (i := 11) (N := some 67) #[true, true, true, true, true, true, true, true, true, true, true, true, false, false, false, false] rfl rfl (one_of HT_.out ψ14) ψ15 (fun K hK => ?_)
 refine goes_ Try.func58 ψ14 rfl #[.slice (some ad367) l0.length c0, .int .i64 (wrap64 (x8_1 + 1)), .int .i64 t366] ψ16 rfl rfl ψ17 ?_
 with_reducible refine (ih k1 ψ53 _ _ l0 (wrap64 (x8_1 + 1)) t366 t373 _ ?_ ?_ A23.out).mono ?_
 exact ψ65; exact HC0.out
 rintro e w2_ ⟨rfl, hb⟩
 refine ⟨_, rfl, ?_⟩
 replace HB := Aside0.mk (below_step ψ59 hb)
 (try clear hb)
 refine hK.out _ _ ⟨((HB.out.cell (World.block_lt_of_cell? w _ hw372_0)).trans hw372_0), ((HB.out.cell (World.block_lt_of_cell? w _ hw372_1)).trans hw372_1), ((HB.out.cell (World.block_lt_of_cell? w _ hw372_2)).trans hw372_2), ((HB.out.cell (World.block_lt_of_cell? w _ hw372_3)).trans hw372_3)⟩ (fun hHeld => ?_)
 clear hK K
 refine rN 67 ?_; refine rP 12 68 ?_; refine rP 13 69 ?_; refine rP 14 70 ?_; refine rP 15 7 ?_
 refine done_ (done_of HT_.out ψ14) ?_
 try go_wp2
 first | (go_roundg k1; (case measure => have := HK1.out; omega); (case rel => exact ⟨(wrap64 ((wrap64 (x7_1 + 1)) + (wrap64 (((rd_T42 l0 x8_1).f1) * (wrap64 (1 + t373)))))), (wrap64 (x8_1 + 1)), ψ0, ψ0, H', ⟨ψ53⟩, ⟨ψ59⟩⟩)) | (go_roundg k1; (case measure => have := HK1.out; omega); (case rel => exact ⟨(wrap64 ((wrap64 (x7_1 + 1)) + (wrap64 (((rd_T42 l0 x8_1).f1) * (wrap64 (1 + t373)))))), (wrap64 (t366 + 1)), ψ0, ψ0, H', ⟨ψ53⟩, ⟨ψ59⟩⟩))) : P := h
set_option maxHeartbeats 8000000 in
set_option maxRecDepth 100000 in
theorem spec_l3Steps.calls (k : Nat) : ∀ (A0 : Option Addr) (c0 : Nat) (l0 : List (S42)) (a1 : Int) (a2 : Int) (r : Int) (w : World) (hr0 : Kd.C k42 w A0 l0.length l0) (hc0 : l0.length ≤ c0) (h : spec_l3Steps.f k l0 a1 a2 = some r),
 Calls Try.prog 58 #[.slice A0 l0.length c0, .int .i64 a1, .int .i64 a2] w fun e w' => e = .returned (.int .i64 r) ∧ Below w.heap.size w w' := by
 induction k using Nat.strongRecOn with
 | _ k ih =>
 intro A0 c0 l0 a1 a2 r w hr0 hc0 h
 cases k with
 | zero => exact absurd h (by simp [spec_l3Steps.f])
 | succ k =>
 simp only [spec_l3Steps.f] at h
 have HR0 := Aside0.mk hr0
 have HC0 := Aside0.mk hc0
 clear hr0 hc0
 have HB := Aside0.mk (Below.refl w.heap.size w)
 have H : (spec_l3Steps.l0 k l0 a2 0 a1) = some r := h
 clear h
 have H' := Aside0.mk H
 clear H
 go_enter Try.func58, Try.ntmps58
 go_wp2
 go_loopg [7, 8] k (fun kq v7 v8 w' => ∃ (x7_1 : Int) (x8_1 : Int), v7 = .int .i64 x7_1 ∧ v8 = .int .i64 x8_1 ∧ Aside0 (spec_l3Steps.l0 kq l0 a2 x7_1 x8_1 = some r) ∧ Aside0 (kq ≤ k) ∧ Aside0 (Below w.heap.size w w'))
 case atStart => exact ⟨(0), (a1), ψ0, ψ0, H', ⟨Nat.le_refl _⟩, ⟨ψ59⟩⟩
 case round =>
  clear H'
  try clear p2
  obtain ⟨x7_1, x8_1, rfl, rfl, HA, HK1, HB⟩ := hrel
  cases gk with
  | zero => exact absurd HA.out (by simp [spec_l3Steps.l0])
  | succ k1 =>
   have H := HA.out
   clear HA
   simp only [spec_l3Steps.l0] at H
   replace H := ifD H; rcases H with ⟨c4b0, H⟩ | ⟨c4b0, H⟩
   ·replace H := Option.bind_eq_some_iff.mp H
    obtain ⟨⟨t365, t366⟩, A50, H⟩ := H
    have A5 := Aside0.mk A50
    clear A50
    replace H := ifN H; obtain ⟨c6b0, H⟩ := H
    replace H := ifN H; obtain ⟨c7b0, H⟩ := H
    replace H := ifF H; rcases H with ⟨c8b0, c8b1, H⟩ | ⟨c8b0, c8b1, c8, H⟩
    ·replace H := ifD H; rcases H with ⟨c9b0, H⟩ | ⟨c9b0, H⟩
     ·replace H := Option.bind_eq_some_iff.mp H
      obtain ⟨t368, A100, H⟩ := H
      have A10 := Aside0.mk A100
      clear A100
      replace H := ifD H; rcases H with ⟨c11b0, H⟩ | ⟨c11b0, H⟩
      ·exact τ31
      ·exact τ31
     ·replace H := Option.bind_eq_some_iff.mp H
      obtain ⟨t369, A140, H⟩ := H
      have A14 := Aside0.mk A140
      clear A140
      replace H := Option.bind_eq_some_iff.mp H
      obtain ⟨t370, A150, H⟩ := H
      have A15 := Aside0.mk A150
      clear A150
      replace H := Option.bind_eq_some_iff.mp H
      obtain ⟨t371, A160, H⟩ := H
      have A16 := Aside0.mk A160
      clear A160
      replace H := ifD H; rcases H with ⟨c17b0, H⟩ | ⟨c17b0, H⟩
      ·exact τ31
      ·exact τ31
    ·by_cases c22 : ((rd_T42 l0 x8_1).f0) = 5
     ·rw [if_pos c22] at H
      have c22b0 : (((rd_T42 l0 x8_1).f0) == 5) = true := beq_iff_eq.mpr c22
      have c22b1 : (((rd_T42 l0 x8_1).f0) != 5) = false := bne_eq_false_iff_eq.mpr c22
      clear c22
      replace H := Option.bind_eq_some_iff.mp H
      obtain ⟨t373, A230, H⟩ := H
      have A23 := Aside0.mk A230
      clear A230
      replace H := ifD H; rcases H with ⟨c24b0, H⟩ | ⟨c24b0, H⟩
      ·exact τ32
      ·exact τ32
     ·rw [if_neg c22] at H
      have c22b0 : (((rd_T42 l0 x8_1).f0) == 5) = false := beq_eq_false_iff_ne.mpr c22
      have c22b1 : (((rd_T42 l0 x8_1).f0) != 5) = true := bne_iff_ne.mpr c22
      replace H := ifF H; rcases H with ⟨c29b0, c29b1, H⟩ | ⟨c29b0, c29b1, c29, H⟩
      ·replace H := Option.bind_eq_some_iff.mp H
       obtain ⟨t374, A300, H⟩ := H
       have A30 := Aside0.mk A300
       clear A300
       replace H := Option.bind_eq_some_iff.mp H
       obtain ⟨t375, A310, H⟩ := H
       have A31 := Aside0.mk A310
       clear A310
       replace H := ifD H; rcases H with ⟨c32b0, H⟩ | ⟨c32b0, H⟩
       ·exact τ31
       ·exact τ31
      ·replace H := ifD H; rcases H with ⟨c37b0, H⟩ | ⟨c37b0, H⟩
       ·exact τ31
       ·exact τ31
   ·exact τ31

/-! ### spec_CodeOf: function 21 -/
def spec_CodeOf.j0 : Nat → Bool → Int → List (S77) → List (S77) → Int → List Int → List (S42) → Option (Int)
 | 0, _, _, _, _, _, _, _ => none
 | k + 1, x24, x377000, x377001, x377002, x377003, x377004, x377005 => if x24 = true then (some 2) else ((spec_l3Room.f k x377000 x377001 x377002 x377003 x377004 x377005).bind fun t388 => (if t388 = true then ((spec_l3Stmts.f k x377000 x377001 x377002 x377003 x377004 x377005).bind fun t390 => (if t390 = true then ((spec_l3Block.f k x377005 0).bind fun t393 => (if t393 = (x377005.length : Int) then ((spec_l3Steps.f k x377005 0 (x377005.length : Int)).bind fun t395 => (if t395 > 400 then (some 6) else (some 0))) else (some 5))) else (some 4))) else (some 3)))
def spec_CodeOf.f (k : Nat) (a0_0 : Int) (l0_1 : List (S77)) (l0_2 : List (S77)) (a0_3 : Int) (l0_4 : List Int) (l0_5 : List (S42)) : Option (Int) := (spec_l1In.f a0_0 1 8).bind fun t378 => (if t378 = true then ((spec_l3Inputs.f k a0_0 l0_1 l0_2 a0_3 l0_4 l0_5 l0_1 true).bind fun t381 => (if t381 = true then ((spec_l3Inputs.f k a0_0 l0_1 l0_2 a0_3 l0_4 l0_5 l0_2 false).bind fun t384 => (if t384 = true then ((spec_l3AllBits.f k a0_0 l0_1 l0_2 a0_3 l0_4 l0_5).bind fun t386 => (spec_CodeOf.j0 k (decide (t386 > 10)) a0_0 l0_1 l0_2 a0_3 l0_4 l0_5)) else (spec_CodeOf.j0 k true a0_0 l0_1 l0_2 a0_3 l0_4 l0_5))) else (spec_CodeOf.j0 k true a0_0 l0_1 l0_2 a0_3 l0_4 l0_5))) else (some 1))
set_option maxRecDepth 100000 in
theorem τ33 {P : Prop} (h : P := by
 have H' := Aside0.mk H
 clear H
 obtain ⟨hczB10_0, hczB10_1, hczB10_2, hczB10_3, hczB10_4, hczB10_5, hfzB10_0, hfzB10_1, hfzB10_2, hfzB10_3, hfzB10_4, hfzB10_5⟩ := cells6 BK10.out
 go_wp2_with (first | ((with_reducible refine gate_callee (f := 53) rfl ?_); refine gL 11 Try.func53 #[.agg #[.int .i64 a0_0, .slice A0_1 l0_1.length c0_1, .slice A0_2 l0_2.length c0_2, .int .i64 a0_3, .slice A0_4 l0_4.length c0_4, .slice A0_5 l0_5.length c0_5], .slice A0_1 l0_1.length c0_1, .bool true] ?_; (with_reducible refine (spec_l3Inputs.calls k a0_0 _ _ l0_1 _ _ l0_2 a0_3 _ _ l0_4 _ _ l0_5 _ _ l0_1 true _ _ ?_ ?_ ?_ ?_ ?_ ?_ ?_ ?_ ?_ ?_ A7.out).mono ?_); exact ψ54; exact HC0_1.out; exact ψ55; exact HC0_2.out; exact ψ56; exact HC0_4.out; exact ψ57; exact HC0_5.out; exact ψ54; exact HC0_1.out; rintro e w1_ ⟨rfl, hb⟩; refine ⟨_, rfl, ?_⟩; have q := n2_ (blk_below (g := gb10) ψ23 hb) (below_step ψ52 hb); clear BK10 HB; obtain ⟨BK10, HB⟩ := q; (try clear hb); (try (obtain ⟨hczB10_0, hczB10_1, hczB10_2, hczB10_3, hczB10_4, hczB10_5, hfzB10_0, hfzB10_1, hfzB10_2, hfzB10_3, hfzB10_4, hfzB10_5⟩ := cells6 BK10.out))) | (go_at_call 53; (with_reducible refine (spec_l3Inputs.calls k a0_0 _ _ l0_1 _ _ l0_2 a0_3 _ _ l0_4 _ _ l0_5 _ _ l0_2 false _ _ ?_ ?_ ?_ ?_ ?_ ?_ ?_ ?_ ?_ ?_ A9.out).mono ?_); exact ψ54; exact HC0_1.out; exact ψ55; exact HC0_2.out; exact ψ56; exact HC0_4.out; exact ψ57; exact HC0_5.out; exact ψ55; exact HC0_2.out; rintro e w2_ ⟨rfl, hb⟩; have q := n2_ (blk_below (g := gb10) ψ23 hb) (below_step ψ52 hb); clear BK10 HB; obtain ⟨BK10, HB⟩ := q; (try clear hb); (try (obtain ⟨hczB10_0, hczB10_1, hczB10_2, hczB10_3, hczB10_4, hczB10_5, hfzB10_0, hfzB10_1, hfzB10_2, hfzB10_3, hfzB10_4, hfzB10_5⟩ := cells6 BK10.out))) | (go_at_call 54; (with_reducible refine (spec_l3AllBits.calls k a0_0 _ _ l0_1 _ _ l0_2 a0_3 _ _ l0_4 _ _ l0_5 _ _ ?_ ?_ ?_ ?_ ?_ ?_ ?_ ?_ A11.out).mono ?_); exact ψ54; exact HC0_1.out; exact ψ55; exact HC0_2.out; exact ψ56; exact HC0_4.out; exact ψ57; exact HC0_5.out; rintro e w3_ ⟨rfl, hb⟩; have q := n2_ (blk_below (g := gb10) ψ23 hb) (below_step ψ52 hb); clear BK10 HB; obtain ⟨BK10, HB⟩ := q; (try clear hb)))
 first | (go_meet; (case rel => exact ⟨_, (decide (t386 > 10)), ψ0, H', ⟨ψ25⟩, ⟨ψ23⟩, ⟨ψ52⟩⟩)) | (go_meet; (case rel => exact ⟨_, (true), ψ0, H', ⟨ψ25⟩, ⟨ψ23⟩, ⟨ψ52⟩⟩))) : P := h
set_option maxRecDepth 100000 in
theorem τ34 {P : Prop} (h : P := by
 obtain rfl := Option.some.inj H
 try (obtain ⟨hczB10_0, hczB10_1, hczB10_2, hczB10_3, hczB10_4, hczB10_5, hfzB10_0, hfzB10_1, hfzB10_2, hfzB10_3, hfzB10_4, hfzB10_5⟩ := cells6 BK10.out)
 go_wp2_with (first | ((with_reducible refine gate_callee (f := 55) rfl ?_); refine gL 26 Try.func55 #[.agg #[.int .i64 a0_0, .slice A0_1 l0_1.length c0_1, .slice A0_2 l0_2.length c0_2, .int .i64 a0_3, .slice A0_4 l0_4.length c0_4, .slice A0_5 l0_5.length c0_5]] ?_; (with_reducible refine (spec_l3Room.calls kj3 a0_0 _ _ l0_1 _ _ l0_2 a0_3 _ _ l0_4 _ _ l0_5 _ _ ?_ ?_ ?_ ?_ ?_ ?_ ?_ ?_ A25.out).mono ?_); exact ψ54; exact HC0_1.out; exact ψ55; exact HC0_2.out; exact ψ56; exact HC0_4.out; exact ψ57; exact HC0_5.out; rintro e w1_ ⟨rfl, hb⟩; refine ⟨_, rfl, ?_⟩; have q := n2_ (blk_below (g := gb10) ψ23 hb) (below_step ψ52 hb); clear BK10 HB; obtain ⟨BK10, HB⟩ := q; (try clear hb); (try (obtain ⟨hczB10_0, hczB10_1, hczB10_2, hczB10_3, hczB10_4, hczB10_5, hfzB10_0, hfzB10_1, hfzB10_2, hfzB10_3, hfzB10_4, hfzB10_5⟩ := cells6 BK10.out))) | ((with_reducible refine gate_callee (f := 56) rfl ?_); refine gL 29 Try.func56 #[.agg #[.int .i64 a0_0, .slice A0_1 l0_1.length c0_1, .slice A0_2 l0_2.length c0_2, .int .i64 a0_3, .slice A0_4 l0_4.length c0_4, .slice A0_5 l0_5.length c0_5]] ?_; (with_reducible refine (spec_l3Stmts.calls kj3 a0_0 _ _ l0_1 _ _ l0_2 a0_3 _ _ l0_4 _ _ l0_5 _ _ ?_ ?_ ?_ ?_ ?_ ?_ ?_ ?_ A27.out).mono ?_); exact ψ54; exact HC0_1.out; exact ψ55; exact HC0_2.out; exact ψ56; exact HC0_4.out; exact ψ57; exact HC0_5.out; rintro e w2_ ⟨rfl, hb⟩; refine ⟨_, rfl, ?_⟩; have q := n2_ (blk_below (g := gb10) ψ23 hb) (below_step ψ52 hb); clear BK10 HB; obtain ⟨BK10, HB⟩ := q; (try clear hb); (try (obtain ⟨hczB10_0, hczB10_1, hczB10_2, hczB10_3, hczB10_4, hczB10_5, hfzB10_0, hfzB10_1, hfzB10_2, hfzB10_3, hfzB10_4, hfzB10_5⟩ := cells6 BK10.out))) | ((with_reducible refine gate_callee (f := 57) rfl ?_); refine gL 36 Try.func57 #[.slice A0_5 l0_5.length c0_5, .int .i64 0] ?_; (with_reducible refine (spec_l3Block.calls kj3 _ _ l0_5 0 t393 _ ?_ ?_ A29.out).mono ?_); exact ψ57; exact HC0_5.out; rintro e w' ⟨rfl, ⟨nd, rfl⟩⟩; refine ⟨_, rfl, ?_⟩) | ((with_reducible refine gate_callee (f := 58) rfl ?_); refine gL 42 Try.func58 #[.slice A0_5 l0_5.length c0_5, .int .i64 0, .int .i64 (l0_5.length : Int)] ?_; (with_reducible refine (spec_l3Steps.calls kj3 _ _ l0_5 0 (l0_5.length : Int) t395 _ ?_ ?_ A31.out).mono ?_); exact ψ314; exact HC0_5.out; rintro e w3_ ⟨rfl, hb⟩; refine ⟨_, rfl, ?_⟩; have q := n2_ (blk_below (g := gb10) ψ23 hb) (below_step ψ52 hb); clear BK10 HB; obtain ⟨BK10, HB⟩ := q; (try clear hb)))
 go_ret
 exact ⟨ψ9, ψ52⟩) : P := h
set_option maxHeartbeats 8000000 in
set_option maxRecDepth 100000 in
theorem spec_CodeOf.calls (k : Nat) (a0_0 : Int) (A0_1 : Option Addr) (c0_1 : Nat) (l0_1 : List (S77)) (A0_2 : Option Addr) (c0_2 : Nat) (l0_2 : List (S77)) (a0_3 : Int) (A0_4 : Option Addr) (c0_4 : Nat) (l0_4 : List Int) (A0_5 : Option Addr) (c0_5 : Nat) (l0_5 : List (S42)) (r : Int) (w : World) (hr0_1 : Kd.C k77 w A0_1 l0_1.length l0_1) (hc0_1 : l0_1.length ≤ c0_1) (hr0_2 : Kd.C k77 w A0_2 l0_2.length l0_2) (hc0_2 : l0_2.length ≤ c0_2) (hr0_4 : Kd.C (Kd.int .i64) w A0_4 l0_4.length l0_4) (hc0_4 : l0_4.length ≤ c0_4) (hr0_5 : Kd.C k42 w A0_5 l0_5.length l0_5) (hc0_5 : l0_5.length ≤ c0_5) (h : spec_CodeOf.f k a0_0 l0_1 l0_2 a0_3 l0_4 l0_5 = some r) :
 Calls Try.prog 21 #[.agg #[.int .i64 a0_0, .slice A0_1 l0_1.length c0_1, .slice A0_2 l0_2.length c0_2, .int .i64 a0_3, .slice A0_4 l0_4.length c0_4, .slice A0_5 l0_5.length c0_5]] w fun e w' => e = .returned (.int .i64 r) ∧ Below w.heap.size w w' := by
 have hu35 := Try.underlying35
 have HR0_1 := Aside0.mk hr0_1
 have HC0_1 := Aside0.mk hc0_1
 clear hr0_1 hc0_1
 have HR0_2 := Aside0.mk hr0_2
 have HC0_2 := Aside0.mk hc0_2
 clear hr0_2 hc0_2
 have HR0_4 := Aside0.mk hr0_4
 have HC0_4 := Aside0.mk hc0_4
 clear hr0_4 hc0_4
 have HR0_5 := Aside0.mk hr0_5
 have HC0_5 := Aside0.mk hc0_5
 clear hr0_5 hc0_5
 have HB := Aside0.mk (Below.refl w.heap.size w)
 have H : ((spec_l1In.f a0_0 1 8).bind fun t378 => (if t378 = true then ((spec_l3Inputs.f k a0_0 l0_1 l0_2 a0_3 l0_4 l0_5 l0_1 true).bind fun t381 => (if t381 = true then ((spec_l3Inputs.f k a0_0 l0_1 l0_2 a0_3 l0_4 l0_5 l0_2 false).bind fun t384 => (if t384 = true then ((spec_l3AllBits.f k a0_0 l0_1 l0_2 a0_3 l0_4 l0_5).bind fun t386 => (spec_CodeOf.j0 k (decide (t386 > 10)) a0_0 l0_1 l0_2 a0_3 l0_4 l0_5)) else (spec_CodeOf.j0 k true a0_0 l0_1 l0_2 a0_3 l0_4 l0_5))) else (spec_CodeOf.j0 k true a0_0 l0_1 l0_2 a0_3 l0_4 l0_5))) else (some 1))) = some r := h
 clear h
 replace H := Option.bind_eq_some_iff.mp H
 obtain ⟨t378, A20, H⟩ := H
 have A2 := Aside0.mk A20
 clear A20
 replace H := ifB H; rcases H with ⟨rfl, H⟩ | ⟨rfl, H⟩
 ·have HC4 := Aside0.mk H
  clear H
  go_enter Try.func21, Try.ntmps21
  go_upto_region 3 with (first | ((with_reducible refine gate_dst (N := 1) rfl ?_); refine bE 1 #[.int .i64 a0_0, .slice A0_1 l0_1.length c0_1, .slice A0_2 l0_2.length c0_2, .int .i64 a0_3, .slice A0_4 l0_4.length c0_4, .slice A0_5 l0_5.length c0_5] 35 ?_; intro gb10 hg w5 hbox hb; have q := n4_ (below_step ψ52 hb) (hbox) ((ψ311 : w.heap.size ≤ gb10)) ((ψ311 : w.heap.size ≤ gb10)); clear HB; obtain ⟨HB, BK10, GW10, GE10⟩ := q; clear hb hbox hg; obtain ⟨y6_0, y6_1, y6_2, y6_3, y6_4, y6_5, u6_0, u6_1, u6_2, u6_3, u6_4, u6_5⟩ := cells6 BK10.out) | ((with_reducible refine gate_callee (f := 43) rfl ?_); refine gL 6 Try.func43 #[.int .i64 a0_0, .int .i64 1, .int .i64 8] ?_; (with_reducible refine (spec_l1In.calls a0_0 1 8 _ _ A2.out).mono ?_); rintro e w' ⟨rfl, ⟨nd, rfl⟩⟩; refine ⟨_, rfl, ?_⟩))
  (try simp only [Act.put, List.setIfInBounds_toArray, List.set_cons_zero, List.set_cons_succ])
  go_cut [24] (fun v24 wc => ∃ (kq : Nat) (x24_3 : Bool), v24 = .bool x24_3 ∧ Aside0 (spec_CodeOf.j0 kq x24_3 a0_0 l0_1 l0_2 a0_3 l0_4 l0_5 = some r) ∧ Aside0 (kq ≤ k) ∧ Aside0 (wc.heap[gb10]? = some (.cells #[.int .i64 a0_0, (.slice A0_1 l0_1.length c0_1), (.slice A0_2 l0_2.length c0_2), .int .i64 a0_3, (.slice A0_4 l0_4.length c0_4), (.slice A0_5 l0_5.length c0_5)] 35 (0, 0))) ∧ Aside0 (Below w.heap.size w wc))
  case first =>
   have H := HC4.out
   clear HC4
   replace H := Option.bind_eq_some_iff.mp H
   obtain ⟨t381, A70, H⟩ := H
   have A7 := Aside0.mk A70
   clear A70
   replace H := ifB H; rcases H with ⟨rfl, H⟩ | ⟨rfl, H⟩
   ·replace H := Option.bind_eq_some_iff.mp H
    obtain ⟨t384, A90, H⟩ := H
    have A9 := Aside0.mk A90
    clear A90
    replace H := ifB H; rcases H with ⟨rfl, H⟩ | ⟨rfl, H⟩
    ·replace H := Option.bind_eq_some_iff.mp H
     obtain ⟨t386, A110, H⟩ := H
     have A11 := Aside0.mk A110
     clear A110
     exact τ33
    ·exact τ33
   ·exact τ33
  case rest =>
   clear HC4
   try clear c1
   try clear c2
   try clear p2
   try clear c3
   try clear c4
   try clear c5
   try clear c8
   try clear c10
   try clear c21
   try clear y12_0 y12_1 y12_2 y12_3 y12_4 y12_5
   try clear y14_0 y14_1 y14_2 y14_3 y14_4 y14_5
   try clear y16_0 y16_1 y16_2 y16_3 y16_4 y16_5
   try clear y18_0 y18_1 y18_2 y18_3 y18_4 y18_5
   try clear y20_0 y20_1 y20_2 y20_3 y20_4 y20_5
   try clear y22_0 y22_1 y22_2 y22_3 y22_4 y22_5
   try clear y6_0 y6_1 y6_2 y6_3 y6_4 y6_5
   try clear u12_0 u12_1 u12_2 u12_3 u12_4 u12_5
   try clear u14_0 u14_1 u14_2 u14_3 u14_4 u14_5
   try clear u16_0 u16_1 u16_2 u16_3 u16_4 u16_5
   try clear u18_0 u18_1 u18_2 u18_3 u18_4 u18_5
   try clear u20_0 u20_1 u20_2 u20_3 u20_4 u20_5
   try clear u22_0 u22_1 u22_2 u22_3 u22_4 u22_5
   try clear u6_0 u6_1 u6_2 u6_3 u6_4 u6_5
   obtain ⟨kq, x24_3, rfl, HA, HJ3, BK10, HB⟩ := hcut
   cases kq with
   | zero => exact absurd HA.out (by simp [spec_CodeOf.j0])
   | succ kj3 =>
    have H := HA.out
    clear HA
    simp only [spec_CodeOf.j0] at H
    replace H := ifB H; rcases H with ⟨rfl, H⟩ | ⟨rfl, H⟩
    ·exact τ34
    ·replace H := Option.bind_eq_some_iff.mp H
     obtain ⟨t388, A250, H⟩ := H
     have A25 := Aside0.mk A250
     clear A250
     replace H := ifB H; rcases H with ⟨rfl, H⟩ | ⟨rfl, H⟩
     ·replace H := Option.bind_eq_some_iff.mp H
      obtain ⟨t390, A270, H⟩ := H
      have A27 := Aside0.mk A270
      clear A270
      replace H := ifB H; rcases H with ⟨rfl, H⟩ | ⟨rfl, H⟩
      ·replace H := Option.bind_eq_some_iff.mp H
       obtain ⟨t393, A290, H⟩ := H
       have A29 := Aside0.mk A290
       clear A290
       replace H := ifF H; rcases H with ⟨c30b0, c30b1, H⟩ | ⟨c30b0, c30b1, c30, H⟩
       ·replace H := Option.bind_eq_some_iff.mp H
        obtain ⟨t395, A310, H⟩ := H
        have A31 := Aside0.mk A310
        clear A310
        replace H := ifG H; rcases H with ⟨c32b0, H⟩ | ⟨c32b0, H⟩
        ·exact τ34
        ·exact τ34
       ·exact τ34
      ·exact τ34
     ·exact τ34
 ·obtain rfl := Option.some.inj H
  go_enter Try.func21, Try.ntmps21
  go_wp2_with (first | ((with_reducible refine gate_dst (N := 1) rfl ?_); refine bE 1 #[.int .i64 a0_0, .slice A0_1 l0_1.length c0_1, .slice A0_2 l0_2.length c0_2, .int .i64 a0_3, .slice A0_4 l0_4.length c0_4, .slice A0_5 l0_5.length c0_5] 35 ?_; intro gb10 hg w56 hbox hb; have q := n4_ (below_step ψ52 hb) (hbox) ((ψ311 : w.heap.size ≤ gb10)) ((ψ311 : w.heap.size ≤ gb10)); clear HB; obtain ⟨HB, BK10, GW10, GE10⟩ := q; clear hb hbox hg; obtain ⟨y57_0, y57_1, y57_2, y57_3, y57_4, y57_5, u57_0, u57_1, u57_2, u57_3, u57_4, u57_5⟩ := cells6 BK10.out) | ((with_reducible refine gate_callee (f := 43) rfl ?_); refine gL 6 Try.func43 #[.int .i64 a0_0, .int .i64 1, .int .i64 8] ?_; (with_reducible refine (spec_l1In.calls a0_0 1 8 _ _ A2.out).mono ?_); rintro e w' ⟨rfl, ⟨nd, rfl⟩⟩; refine ⟨_, rfl, ?_⟩))
  go_ret
  exact ⟨ψ9, ψ52⟩

end Go.Proofs.Ytbjmhdoagjmmcaa.PCore

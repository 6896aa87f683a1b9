/- The walks of the functions that the laws come to, part 0: turned out of the kit's print, and mended where that fell. -/
import Derived.Test.YtakmkdlkipfnhaaPCoreg
namespace Go.Proofs.Ytakmkdlkipfnhaa.PCore
open Go.RowKit Go.Proofs.YtakmkdlkipfnhaaW.PrintWords Go.Proofs.YtakmkdlkipfnhaaW.PrintLast Go.Proofs.YtakmkdlkipfnhaaW.PrintMore
attribute [local go_sem] max2_int min2_int max_two min_two max_three min_three max_four min_four   -- for this text's walks alone
set_option linter.unusedVariables false
set_option maxHeartbeats 8000000
set_option maxRecDepth 100000
set_option linter.unusedSimpArgs false

/-! ### laws_szInputS: function 63 -/
def laws_szInputS.f (l0 : List (S128)) (a1 : Int) : Option (Int) := if (wrap64 (a1 - (l0.length : Int))) < 0 then (some (-1)) else (some (wrap64 (a1 - (l0.length : Int))))
theorem τ1 {P : Prop} (h : P := by
 obtain rfl := Option.some.inj H
 go_enter Try.func63, Try.ntmps63
 go_wp2
 go_ret
 exact ⟨ψ0, ψ1⟩) : P := h
theorem laws_szInputS.calls (A0 : Option Addr) (c0 : Nat) (l0 : List (S128)) (a1 : Int) (r : Int) (w : World) (hr0 : Kd.C k128 w A0 l0.length l0) (hc0 : l0.length ≤ c0) (h : laws_szInputS.f l0 a1 = some r) :
 Calls Try.prog 63 #[.slice A0 l0.length c0, .int .i64 a1] w fun e w' => e = .returned (.int .i64 r) ∧ Drawn0 w w' := by
 have q := n2_ hr0 hc0
 clear hr0 hc0
 obtain ⟨HR0, HC0⟩ := q
 unfold laws_szInputS.f at h
 have H := h
 clear h
 replace H := ifD H; rcases H with ⟨c3b0, H⟩ | ⟨c3b0, H⟩
 ·exact τ1
 ·exact τ1

/-! ### laws_szInt64S: function 64 -/
def laws_szInt64S.f (l0 : List Int) (a1 : Int) : Option (Int) := if (wrap64 (a1 - (l0.length : Int))) < 0 then (some (-1)) else (some (wrap64 (a1 - (l0.length : Int))))
theorem τ2 {P : Prop} (h : P := by
 obtain rfl := Option.some.inj H
 go_enter Try.func64, Try.ntmps64
 go_wp2
 go_ret
 exact ⟨ψ0, ψ1⟩) : P := h
theorem laws_szInt64S.calls (A0 : Option Addr) (c0 : Nat) (l0 : List Int) (a1 : Int) (r : Int) (w : World) (hr0 : Kd.C (Kd.int .i64) w A0 l0.length l0) (hc0 : l0.length ≤ c0) (h : laws_szInt64S.f l0 a1 = some r) :
 Calls Try.prog 64 #[.slice A0 l0.length c0, .int .i64 a1] w fun e w' => e = .returned (.int .i64 r) ∧ Drawn0 w w' := by
 have q := n2_ hr0 hc0
 clear hr0 hc0
 obtain ⟨HR0, HC0⟩ := q
 unfold laws_szInt64S.f at h
 have H := h
 clear h
 replace H := ifD H; rcases H with ⟨c3b0, H⟩ | ⟨c3b0, H⟩
 ·exact τ2
 ·exact τ2

/-! ### laws_szTermS: function 59 -/
def laws_szTermS.f (l0 : List (S122)) (a1 : Int) : Option (Int) := if (wrap64 (a1 - (l0.length : Int))) < 0 then (some (-1)) else (some (wrap64 (a1 - (l0.length : Int))))
theorem τ3 {P : Prop} (h : P := by
 obtain rfl := Option.some.inj H
 go_enter Try.func59, Try.ntmps59
 go_wp2
 go_ret
 exact ⟨ψ0, ψ1⟩) : P := h
theorem laws_szTermS.calls (A0 : Option Addr) (c0 : Nat) (l0 : List (S122)) (a1 : Int) (r : Int) (w : World) (hr0 : Kd.C k122 w A0 l0.length l0) (hc0 : l0.length ≤ c0) (h : laws_szTermS.f l0 a1 = some r) :
 Calls Try.prog 59 #[.slice A0 l0.length c0, .int .i64 a1] w fun e w' => e = .returned (.int .i64 r) ∧ Drawn0 w w' := by
 have q := n2_ hr0 hc0
 clear hr0 hc0
 obtain ⟨HR0, HC0⟩ := q
 unfold laws_szTermS.f at h
 have H := h
 clear h
 replace H := ifD H; rcases H with ⟨c3b0, H⟩ | ⟨c3b0, H⟩
 ·exact τ3
 ·exact τ3

/-! ### laws_szStmt: function 107 -/
def laws_szStmt.f (a0_0 : Int) (a0_1 : Int) (l0_2 : List (S122)) (l0_3 : List (S122)) (a1 : Int) : Option (Int) := (laws_szTermS.f l0_2 a1).bind fun t103 => (if t103 < 0 then (some (-1)) else ((laws_szTermS.f l0_3 t103).bind fun t105 => (if t105 < 0 then (some (-1)) else (some t105))))
theorem τ4 {P : Prop} (h : P := by
 obtain rfl := Option.some.inj H
 go_enter Try.func107, Try.ntmps107
 go_wp2_with (first | ((with_reducible refine gate_dst (N := 2) rfl ?_); refine bE 2 #[.int .i64 a0_0, .int .i64 a0_1, .slice A0_2 l0_2.length c0_2, .slice A0_3 l0_3.length c0_3] 126 ?_; intro gb10 hg w1_ hbox hb; have q := n4_ (below_step ψ2 hb) (hbox) ((ψ113 : w.heap.size ≤ gb10)) ((ψ113 : w.heap.size ≤ gb10)); clear HB; obtain ⟨HB, BK10, GW10, GE10⟩ := q; clear hb hbox hg; obtain ⟨hczB10_0, hczB10_1, hczB10_2, hczB10_3, hfzB10_0, hfzB10_1, hfzB10_2, hfzB10_3⟩ := cells4 BK10.out) | ((with_reducible refine gate_callee (f := 59) rfl ?_); refine gL 8 Try.func59 #[.slice A0_2 l0_2.length c0_2, .int .i64 a1] ?_; (with_reducible refine (laws_szTermS.calls _ _ l0_2 a1 _ _ ?_ ?_ A3.out).mono ?_); exact ψ3; exact HC0_2.out; rintro e w' ⟨rfl, ⟨nd, rfl⟩⟩; refine ⟨_, rfl, ?_⟩) | ((with_reducible refine gate_callee (f := 59) rfl ?_); refine gL 14 Try.func59 #[.slice A0_3 l0_3.length c0_3, .int .i64 t103] ?_; (with_reducible refine (laws_szTermS.calls _ _ l0_3 t103 _ _ ?_ ?_ A7.out).mono ?_); exact (by repeat (first | exact (Kd.C_below HR0_3.out ψ2) | (with_reducible refine Kd.C_alloc ?_ _) | (with_reducible refine Kd.C_drewN ?_ _) | (with_reducible refine Kd.C_drew ?_))); exact HC0_3.out; rintro e w' ⟨rfl, ⟨nd, rfl⟩⟩; refine ⟨_, rfl, ?_⟩))
 go_ret
 exact ⟨ψ4, ψ2⟩) : P := h
theorem laws_szStmt.calls (a0_0 : Int) (a0_1 : Int) (A0_2 : Option Addr) (c0_2 : Nat) (l0_2 : List (S122)) (A0_3 : Option Addr) (c0_3 : Nat) (l0_3 : List (S122)) (a1 : Int) (r : Int) (w : World) (hr0_2 : Kd.C k122 w A0_2 l0_2.length l0_2) (hc0_2 : l0_2.length ≤ c0_2) (hr0_3 : Kd.C k122 w A0_3 l0_3.length l0_3) (hc0_3 : l0_3.length ≤ c0_3) (h : laws_szStmt.f a0_0 a0_1 l0_2 l0_3 a1 = some r) :
 Calls Try.prog 107 #[.agg #[.int .i64 a0_0, .int .i64 a0_1, .slice A0_2 l0_2.length c0_2, .slice A0_3 l0_3.length c0_3], .int .i64 a1] w fun e w' => e = .returned (.int .i64 r) ∧ Below w.heap.size w w' := by
 have hu126 := Try.underlying126
 have q := n4_ hr0_2 hc0_2 hr0_3 hc0_3
 clear hr0_2 hc0_2 hr0_3 hc0_3
 obtain ⟨HR0_2, HC0_2, HR0_3, HC0_3⟩ := q
 have HB := Aside0.mk (Below.refl w.heap.size w)
 unfold laws_szStmt.f at h
 have H := h
 clear h
 replace H := bS H; obtain ⟨t103, A3, H⟩ := H
 replace H := ifD H; rcases H with ⟨c4b0, H⟩ | ⟨c4b0, H⟩
 ·exact τ4
 ·replace H := bS H; obtain ⟨t105, A7, H⟩ := H
  replace H := ifD H; rcases H with ⟨c8b0, H⟩ | ⟨c8b0, H⟩
  ·exact τ4
  ·exact τ4

/-! ### laws_szStmtS: function 65 -/
def laws_szStmtS.l0 : Nat → List (S126) → Int → Int → Option (Int)
 | 0, _, _, _ => none
 | k + 1, x0, x1, x5 => if x5 < (x0.length : Int) then (if 0 ≤ x5 then ((laws_szStmt.f ((rd_T126 x0 x5).f0) ((rd_T126 x0 x5).f1) ((rd_T126 x0 x5).f2) ((rd_T126 x0 x5).f3) x1).bind fun t107 => (if t107 < 0 then (some (-1)) else (laws_szStmtS.l0 k x0 t107 (wrap64 (x5 + 1))))) else (none)) else (some x1)
def laws_szStmtS.f (k : Nat) (l0 : List (S126)) (a1 : Int) : Option (Int) := if (wrap64 (a1 - (l0.length : Int))) < 0 then (some (-1)) else (laws_szStmtS.l0 k l0 (wrap64 (a1 - (l0.length : Int))) 0)
theorem τ5 {P : Prop} (h : P := by
 first | obtain rfl := Option.some.inj H | (have H' := Aside0.mk H; clear H)
 try (have p106 : 0 ≤ (x5_1 : Int) := of_decide_eq_true ψ5; have q106 : x5_1 < (l0.length : Int) := of_decide_eq_true ψ5; obtain ⟨ad106, A106_2, c106_2, A106_3, c106_3, e106, hx106_0, hx106_1, hx106_2, hx106_3, hl106_2, hi106_2, hl106_3, hi106_3⟩ := at_T126 HR0.out x5_1 p106 q106; cases e106; replace hx106_0 := cB HB hx106_0; replace hx106_1 := cB HB hx106_1; replace hx106_2 := cB HB hx106_2; replace hx106_3 := cB HB hx106_3; have q := n4_ hi106_2 hl106_2 hi106_3 hl106_3; clear hi106_2 hl106_2 hi106_3 hl106_3; obtain ⟨HR106_2, HC106_2, HR106_3, HC106_3⟩ := q; replace p106 := eq_true p106; replace q106 := eq_true q106)
 go_wp2_with (first | ((with_reducible refine gate_callee (f := 107) rfl ?_); refine gL 23 Try.func107 #[.agg #[.int .i64 ((rd_T126 l0 x5_1).f0), .int .i64 ((rd_T126 l0 x5_1).f1), .slice A106_2 ((rd_T126 l0 x5_1).f2).length c106_2, .slice A106_3 ((rd_T126 l0 x5_1).f3).length c106_3], .int .i64 x1_1] ?_; (with_reducible refine (laws_szStmt.calls ((rd_T126 l0 x5_1).f0) ((rd_T126 l0 x5_1).f1) _ _ ((rd_T126 l0 x5_1).f2) _ _ ((rd_T126 l0 x5_1).f3) x1_1 _ _ ?_ ?_ ?_ ?_ A6.out).mono ?_); exact (by repeat (first | exact (Kd.C_below HR106_2.out HB.out) | (with_reducible refine Kd.C_alloc ?_ _) | (with_reducible refine Kd.C_drewN ?_ _) | (with_reducible refine Kd.C_drew ?_))); exact HC106_2.out; exact (by repeat (first | exact (Kd.C_below HR106_3.out HB.out) | (with_reducible refine Kd.C_alloc ?_ _) | (with_reducible refine Kd.C_drewN ?_ _) | (with_reducible refine Kd.C_drew ?_))); exact HC106_3.out; rintro e w1_ ⟨rfl, hb⟩; refine ⟨_, rfl, ?_⟩; replace HB := Aside0.mk (below_step ψ6 hb); (try clear hb)))
 first | (go_ret; exact ⟨ψ4, ψ6⟩) | (go_roundg k1; (case measure => have := HK1.out; omega); (case rel => exact ⟨(t107), (wrap64 (x5_1 + 1)), ψ7, ψ7, H', ⟨ψ8⟩, ⟨ψ6⟩⟩))) : P := h
theorem laws_szStmtS.calls (k : Nat) (A0 : Option Addr) (c0 : Nat) (l0 : List (S126)) (a1 : Int) (r : Int) (w : World) (hr0 : Kd.C k126 w A0 l0.length l0) (hc0 : l0.length ≤ c0) (h : laws_szStmtS.f k l0 a1 = some r) :
 Calls Try.prog 65 #[.slice A0 l0.length c0, .int .i64 a1] w fun e w' => e = .returned (.int .i64 r) ∧ Below w.heap.size w w' := by
 have hu126 := Try.underlying126
 have q := n2_ hr0 hc0
 clear hr0 hc0
 obtain ⟨HR0, HC0⟩ := q
 have HB := Aside0.mk (Below.refl w.heap.size w)
 unfold laws_szStmtS.f at h
 have H := h
 clear h
 replace H := ifD H; rcases H with ⟨c3b0, H⟩ | ⟨c3b0, H⟩
 ·obtain rfl := Option.some.inj H
  go_enter Try.func65, Try.ntmps65
  go_wp2
  go_ret
  exact ⟨ψ4, ψ6⟩
 ·have H' := Aside0.mk H
  clear H
  go_enter Try.func65, Try.ntmps65
  go_wp2
  go_loopg [1, 5] k (fun kq v1 v5 w' => ∃ (x1_1 : Int) (x5_1 : Int), v1 = .int .i64 x1_1 ∧ v5 = .int .i64 x5_1 ∧ Aside0 (laws_szStmtS.l0 kq l0 x1_1 x5_1 = some r) ∧ Aside0 (kq ≤ k) ∧ Aside0 (Below w.heap.size w w'))
  case atStart => exact ⟨(wrap64 (a1 - (l0.length : Int))), (0), ψ7, ψ7, H', ⟨Nat.le_refl _⟩, ⟨ψ6⟩⟩
  case round =>
   clear H'
   try clear c3
   try clear c3b0
   obtain ⟨x1_1, x5_1, rfl, rfl, HA, HK1, HB⟩ := hrel
   cases gk with
   | zero => exact absurd HA.out (by simp [laws_szStmtS.l0])
   | succ k1 =>
    have H := HA.out
    clear HA
    simp only [laws_szStmtS.l0] at H
    replace H := ifD H; rcases H with ⟨c4b0, H⟩ | ⟨c4b0, H⟩
    ·replace H := ifN H; obtain ⟨c5b0, H⟩ := H
     replace H := bS H; obtain ⟨t107, A6, H⟩ := H
     replace H := ifD H; rcases H with ⟨c7b0, H⟩ | ⟨c7b0, H⟩
     ·exact τ5
     ·exact τ5
    ·exact τ5

/-! ### laws_szProg: function 15 -/
def laws_szProg.f (k : Nat) (a0_0 : Int) (l0_1 : List (S128)) (l0_2 : List (S128)) (a0_3 : Int) (l0_4 : List Int) (l0_5 : List (S126)) (a1 : Int) : Option (Int) := (laws_szInputS.f l0_1 a1).bind fun t110 => (if t110 < 0 then (some (-1)) else ((laws_szInputS.f l0_2 t110).bind fun t112 => (if t112 < 0 then (some (-1)) else ((laws_szInt64S.f l0_4 t112).bind fun t114 => (if t114 < 0 then (some (-1)) else ((laws_szStmtS.f k l0_5 t114).bind fun t116 => (if t116 < 0 then (some (-1)) else (some t116))))))))
theorem τ6 {P : Prop} (h : P := by
 obtain rfl := Option.some.inj H
 go_enter Try.func15, Try.ntmps15
 go_wp2_with (first | ((with_reducible refine gate_dst (N := 2) rfl ?_); refine bE 2 #[.int .i64 a0_0, .slice A0_1 l0_1.length c0_1, .slice A0_2 l0_2.length c0_2, .int .i64 a0_3, .slice A0_4 l0_4.length c0_4, .slice A0_5 l0_5.length c0_5] 26 ?_; intro gb10 hg w1_ hbox hb; have q := n4_ (below_step ψ2 hb) (hbox) ((ψ113 : w.heap.size ≤ gb10)) ((ψ113 : w.heap.size ≤ gb10)); clear HB; obtain ⟨HB, BK10, GW10, GE10⟩ := q; clear hb hbox hg; obtain ⟨hczB10_0, hczB10_1, hczB10_2, hczB10_3, hczB10_4, hczB10_5, hfzB10_0, hfzB10_1, hfzB10_2, hfzB10_3, hfzB10_4, hfzB10_5⟩ := cells6 BK10.out) | ((with_reducible refine gate_callee (f := 63) rfl ?_); refine gL 8 Try.func63 #[.slice A0_1 l0_1.length c0_1, .int .i64 a1] ?_; (with_reducible refine (laws_szInputS.calls _ _ l0_1 a1 _ _ ?_ ?_ A3.out).mono ?_); exact ψ9; exact HC0_1.out; rintro e w' ⟨rfl, ⟨nd, rfl⟩⟩; refine ⟨_, rfl, ?_⟩) | ((with_reducible refine gate_callee (f := 63) rfl ?_); refine gL 14 Try.func63 #[.slice A0_2 l0_2.length c0_2, .int .i64 t110] ?_; (with_reducible refine (laws_szInputS.calls _ _ l0_2 t110 _ _ ?_ ?_ A7.out).mono ?_); exact (by repeat (first | exact (Kd.C_below HR0_2.out ψ2) | (with_reducible refine Kd.C_alloc ?_ _) | (with_reducible refine Kd.C_drewN ?_ _) | (with_reducible refine Kd.C_drew ?_))); exact HC0_2.out; rintro e w' ⟨rfl, ⟨nd, rfl⟩⟩; refine ⟨_, rfl, ?_⟩) | ((with_reducible refine gate_callee (f := 64) rfl ?_); refine gL 20 Try.func64 #[.slice A0_4 l0_4.length c0_4, .int .i64 t112] ?_; (with_reducible refine (laws_szInt64S.calls _ _ l0_4 t112 _ _ ?_ ?_ A11.out).mono ?_); exact (by repeat (first | exact (Kd.C_below HR0_4.out ψ2) | (with_reducible refine Kd.C_alloc ?_ _) | (with_reducible refine Kd.C_drewN ?_ _) | (with_reducible refine Kd.C_drew ?_))); exact HC0_4.out; rintro e w' ⟨rfl, ⟨nd, rfl⟩⟩; refine ⟨_, rfl, ?_⟩) | ((with_reducible refine gate_callee (f := 65) rfl ?_); refine gL 26 Try.func65 #[.slice A0_5 l0_5.length c0_5, .int .i64 t114] ?_; (with_reducible refine (laws_szStmtS.calls k _ _ l0_5 t114 _ _ ?_ ?_ A15.out).mono ?_); exact ψ114; exact HC0_5.out; rintro e w2_ ⟨rfl, hb⟩; refine ⟨_, rfl, ?_⟩; have q := n2_ (blk_below (g := gb10) ψ10 hb) (below_step ψ2 hb); clear BK10 HB; obtain ⟨BK10, HB⟩ := q; (try clear hb)))
 go_ret
 exact ⟨ψ4, ψ2⟩) : P := h
theorem laws_szProg.calls (k : Nat) (a0_0 : Int) (A0_1 : Option Addr) (c0_1 : Nat) (l0_1 : List (S128)) (A0_2 : Option Addr) (c0_2 : Nat) (l0_2 : List (S128)) (a0_3 : Int) (A0_4 : Option Addr) (c0_4 : Nat) (l0_4 : List Int) (A0_5 : Option Addr) (c0_5 : Nat) (l0_5 : List (S126)) (a1 : Int) (r : Int) (w : World) (hr0_1 : Kd.C k128 w A0_1 l0_1.length l0_1) (hc0_1 : l0_1.length ≤ c0_1) (hr0_2 : Kd.C k128 w A0_2 l0_2.length l0_2) (hc0_2 : l0_2.length ≤ c0_2) (hr0_4 : Kd.C (Kd.int .i64) w A0_4 l0_4.length l0_4) (hc0_4 : l0_4.length ≤ c0_4) (hr0_5 : Kd.C k126 w A0_5 l0_5.length l0_5) (hc0_5 : l0_5.length ≤ c0_5) (h : laws_szProg.f k a0_0 l0_1 l0_2 a0_3 l0_4 l0_5 a1 = some r) :
 Calls Try.prog 15 #[.agg #[.int .i64 a0_0, .slice A0_1 l0_1.length c0_1, .slice A0_2 l0_2.length c0_2, .int .i64 a0_3, .slice A0_4 l0_4.length c0_4, .slice A0_5 l0_5.length c0_5], .int .i64 a1] w fun e w' => e = .returned (.int .i64 r) ∧ Below w.heap.size w w' := by
 have hu26 := Try.underlying26
 have q := n8_ hr0_1 hc0_1 hr0_2 hc0_2 hr0_4 hc0_4 hr0_5 hc0_5
 clear hr0_1 hc0_1 hr0_2 hc0_2 hr0_4 hc0_4 hr0_5 hc0_5
 obtain ⟨HR0_1, HC0_1, HR0_2, HC0_2, HR0_4, HC0_4, HR0_5, HC0_5⟩ := q
 have HB := Aside0.mk (Below.refl w.heap.size w)
 unfold laws_szProg.f at h
 have H := h
 clear h
 replace H := bS H; obtain ⟨t110, A3, H⟩ := H
 replace H := ifD H; rcases H with ⟨c4b0, H⟩ | ⟨c4b0, H⟩
 ·exact τ6
 ·replace H := bS H; obtain ⟨t112, A7, H⟩ := H
  replace H := ifD H; rcases H with ⟨c8b0, H⟩ | ⟨c8b0, H⟩
  ·exact τ6
  ·replace H := bS H; obtain ⟨t114, A11, H⟩ := H
   replace H := ifD H; rcases H with ⟨c12b0, H⟩ | ⟨c12b0, H⟩
   ·exact τ6
   ·replace H := bS H; obtain ⟨t116, A15, H⟩ := H
    replace H := ifD H; rcases H with ⟨c16b0, H⟩ | ⟨c16b0, H⟩
    ·exact τ6
    ·exact τ6

/-! ### spec_l1In: function 79 -/
def spec_l1In.f (a0 : Int) (a1 : Int) (a2 : Int) : Option (Bool) := if a0 ≥ a1 then (some (decide (a0 ≤ a2))) else (some false)
theorem τ9 {P : Prop} (h : P := by
 obtain rfl := Option.some.inj H
 go_enter Try.func79, Try.ntmps79
 go_wp2
 go_ret
 exact ⟨ψ0, ψ1⟩) : P := h
theorem spec_l1In.calls (a0 : Int) (a1 : Int) (a2 : Int) (r : Bool) (w : World) (h : spec_l1In.f a0 a1 a2 = some r) :
 Calls Try.prog 79 #[.int .i64 a0, .int .i64 a1, .int .i64 a2] w fun e w' => e = .returned (.bool r) ∧ Drawn0 w w' := by
 unfold spec_l1In.f at h
 have H := h
 clear h
 replace H := ifL H; rcases H with ⟨c4b0, H⟩ | ⟨c4b0, H⟩
 ·exact τ9
 ·exact τ9

/-! ### spec_l3Bits: function 89 -/
def spec_l3Bits.l0 : Nat → Int → Int → Option (Int)
 | 0, _, _ => none
 | k + 1, x0, x3 => if x0 > 0 then (spec_l3Bits.l0 k (wrap64 (Int.tdiv x0 2)) (wrap64 (x3 + 1))) else (some x3)
def spec_l3Bits.f (k : Nat) (a0 : Int) : Option (Int) := spec_l3Bits.l0 k a0 0
theorem spec_l3Bits.calls (k : Nat) (a0 : Int) (r : Int) (w : World) (h : spec_l3Bits.f k a0 = some r) :
 Calls Try.prog 89 #[.int .i64 a0] w fun e w' => e = .returned (.int .i64 r) ∧ Drawn0 w w' := by
 unfold spec_l3Bits.f at h
 have H := h
 clear h
 have H' := Aside0.mk H
 clear H
 go_enter Try.func89, Try.ntmps89
 go_wp2
 go_loopg [0, 3] k (fun kq v0 v3 w' => ∃ (x0_1 : Int) (x3_1 : Int), v0 = .int .i64 x0_1 ∧ v3 = .int .i64 x3_1 ∧ Aside0 (spec_l3Bits.l0 kq x0_1 x3_1 = some r) ∧ Aside0 (kq ≤ k) ∧ Drawn0 w w')
 case atStart => exact ⟨(a0), (0), ψ7, ψ7, H', ⟨Nat.le_refl _⟩, ψ1⟩
 case round =>
  clear H'
  obtain ⟨x0_1, x3_1, rfl, rfl, HA, HK1, ⟨m1, rfl⟩⟩ := hrel
  cases gk with
  | zero => exact absurd HA.out (by simp [spec_l3Bits.l0])
  | succ k1 =>
   have H := HA.out
   clear HA
   simp only [spec_l3Bits.l0] at H
   replace H := ifG H; rcases H with ⟨c2b0, H⟩ | ⟨c2b0, H⟩
   ·have H' := Aside0.mk H
    clear H
    go_wp2
    go_roundg k1
    case measure => have := HK1.out; omega
    case rel => exact ⟨(wrap64 (Int.tdiv x0_1 2)), (wrap64 (x3_1 + 1)), ψ7, ψ7, H', ⟨ψ8⟩, ψ1⟩
   ·obtain rfl := Option.some.inj H
    go_wp2
    go_ret
    exact ⟨ψ0, ψ1⟩

/-! ### spec_l3AllBits: function 95 -/
mutual
def spec_l3AllBits.l0 : Nat → Int → Int → Int → List (S106) → List (S106) → Int → List Int → List (S114) → Option (Int)
 | 0, _, _, _, _, _, _, _, _ => none
 | k + 1, x3, x4, x125000, x125001, x125002, x125003, x125004, x125005 => if x4 < (x125001.length : Int) then (if 0 ≤ x4 then ((spec_l3Bits.f k ((rd_T106 x125001 x4).f0)).bind fun t128 => (spec_l3AllBits.l0 k (wrap64 (x3 + t128)) (wrap64 (x4 + 1)) x125000 x125001 x125002 x125003 x125004 x125005)) else (none)) else (spec_l3AllBits.l1 k x3 0 x125000 x125001 x125002 x125003 x125004 x125005)
def spec_l3AllBits.l1 : Nat → Int → Int → Int → List (S106) → List (S106) → Int → List Int → List (S114) → Option (Int)
 | 0, _, _, _, _, _, _, _, _ => none
 | k + 1, x3, x5, x125000, x125001, x125002, x125003, x125004, x125005 => if x5 < (x125002.length : Int) then (if 0 ≤ x5 then ((spec_l3Bits.f k ((rd_T106 x125002 x5).f0)).bind fun t132 => (spec_l3AllBits.l1 k (wrap64 (x3 + t132)) (wrap64 (x5 + 1)) x125000 x125001 x125002 x125003 x125004 x125005)) else (none)) else (some x3)
end
def spec_l3AllBits.f (k : Nat) (a0_0 : Int) (l0_1 : List (S106)) (l0_2 : List (S106)) (a0_3 : Int) (l0_4 : List Int) (l0_5 : List (S114)) : Option (Int) := spec_l3AllBits.l0 k 0 0 a0_0 l0_1 l0_2 a0_3 l0_4 l0_5
theorem τ10 {P : Prop} (h : P := by
 first | obtain rfl := Option.some.inj H | (have H' := Aside0.mk H; clear H)
 obtain ⟨hczB10_0, hczB10_1, hczB10_2, hczB10_3, hczB10_4, hczB10_5, hfzB10_0, hfzB10_1, hfzB10_2, hfzB10_3, hfzB10_4, hfzB10_5⟩ := cells6 BK10.out
 try (have p131 : 0 ≤ (x5_2 : Int) := of_decide_eq_true ψ5; have q131 : x5_2 < (l0_2.length : Int) := of_decide_eq_true ψ5; obtain ⟨ad131, e131, hx131_0, hx131_1⟩ := at_T106 HR0_2.out x5_2 p131 q131; cases e131; replace hx131_0 := cB HB hx131_0; replace hx131_1 := cB HB hx131_1; replace p131 := eq_true p131; replace q131 := eq_true q131)
 go_wp2_with (first | ((with_reducible refine gate_callee (f := 89) rfl ?_); refine gL 36 Try.func89 #[.int .i64 ((rd_T106 l0_2 x5_2).f0)] ?_; (with_reducible refine (spec_l3Bits.calls k2 ((rd_T106 l0_2 x5_2).f0) _ _ A10.out).mono ?_); rintro e w' ⟨rfl, ⟨nd, rfl⟩⟩; refine ⟨_, rfl, ?_⟩))
 first | (go_roundg k2; (case measure => have := HK1.out; have := HK2.out; omega); (case rel => exact ⟨(wrap64 (x3_2 + t132)), (wrap64 (x5_2 + 1)), ψ7, ψ7, H', ⟨by have := HK1.out; have := HK2.out; omega⟩, ⟨ψ10⟩, ⟨ψ2⟩⟩)) | (go_ret; exact ⟨ψ4, ψ2⟩)) : P := h
theorem spec_l3AllBits.calls (k : Nat) (a0_0 : Int) (A0_1 : Option Addr) (c0_1 : Nat) (l0_1 : List (S106)) (A0_2 : Option Addr) (c0_2 : Nat) (l0_2 : List (S106)) (a0_3 : Int) (A0_4 : Option Addr) (c0_4 : Nat) (l0_4 : List Int) (A0_5 : Option Addr) (c0_5 : Nat) (l0_5 : List (S114)) (r : Int) (w : World) (hr0_1 : Kd.C k106 w A0_1 l0_1.length l0_1) (hc0_1 : l0_1.length ≤ c0_1) (hr0_2 : Kd.C k106 w A0_2 l0_2.length l0_2) (hc0_2 : l0_2.length ≤ c0_2) (hr0_4 : Kd.C (Kd.int .i64) w A0_4 l0_4.length l0_4) (hc0_4 : l0_4.length ≤ c0_4) (hr0_5 : Kd.C k114 w A0_5 l0_5.length l0_5) (hc0_5 : l0_5.length ≤ c0_5) (h : spec_l3AllBits.f k a0_0 l0_1 l0_2 a0_3 l0_4 l0_5 = some r) :
 Calls Try.prog 95 #[.agg #[.int .i64 a0_0, .slice A0_1 l0_1.length c0_1, .slice A0_2 l0_2.length c0_2, .int .i64 a0_3, .slice A0_4 l0_4.length c0_4, .slice A0_5 l0_5.length c0_5]] w fun e w' => e = .returned (.int .i64 r) ∧ Below w.heap.size w w' := by
 have hu36 := Try.underlying36
 have q := n8_ hr0_1 hc0_1 hr0_2 hc0_2 hr0_4 hc0_4 hr0_5 hc0_5
 clear hr0_1 hc0_1 hr0_2 hc0_2 hr0_4 hc0_4 hr0_5 hc0_5
 obtain ⟨HR0_1, HC0_1, HR0_2, HC0_2, HR0_4, HC0_4, HR0_5, HC0_5⟩ := q
 have HB := Aside0.mk (Below.refl w.heap.size w)
 unfold spec_l3AllBits.f at h
 have H := h
 clear h
 have H' := Aside0.mk H
 clear H
 go_enter Try.func95, Try.ntmps95
 go_wp2_with (first | ((with_reducible refine gate_dst (N := 1) rfl ?_); refine bE 1 #[.int .i64 a0_0, .slice A0_1 l0_1.length c0_1, .slice A0_2 l0_2.length c0_2, .int .i64 a0_3, .slice A0_4 l0_4.length c0_4, .slice A0_5 l0_5.length c0_5] 36 ?_; intro gb10 hg w2 hbox hb; have q := n4_ (below_step ψ2 hb) (hbox) ((ψ113 : w.heap.size ≤ gb10)) ((ψ113 : w.heap.size ≤ gb10)); clear HB; obtain ⟨HB, BK10, GW10, GE10⟩ := q; clear hb hbox hg))
 go_loopg [3, 4] k (fun kq v3 v4 w' => ∃ (x3_1 : Int) (x4_1 : Int), v3 = .int .i64 x3_1 ∧ v4 = .int .i64 x4_1 ∧ Aside0 (spec_l3AllBits.l0 kq x3_1 x4_1 a0_0 l0_1 l0_2 a0_3 l0_4 l0_5 = some r) ∧ Aside0 (kq ≤ k) ∧ Aside0 (w'.heap[gb10]? = some (.cells #[.int .i64 a0_0, (.slice A0_1 l0_1.length c0_1), (.slice A0_2 l0_2.length c0_2), .int .i64 a0_3, (.slice A0_4 l0_4.length c0_4), (.slice A0_5 l0_5.length c0_5)] 36 (0, 0))) ∧ Aside0 (Below w.heap.size w w'))
 case atStart => exact ⟨(0), (0), ψ7, ψ7, H', ⟨Nat.le_refl _⟩, ⟨ψ10⟩, ⟨ψ2⟩⟩
 case round =>
  clear H'
  obtain ⟨x3_1, x4_1, rfl, rfl, HA, HK1, BK10, HB⟩ := hrel
  cases gk with
  | zero => exact absurd HA.out (by simp [spec_l3AllBits.l0])
  | succ k1 =>
   have H := HA.out
   clear HA
   simp only [spec_l3AllBits.l0] at H
   replace H := ifD H; rcases H with ⟨c3b0, H⟩ | ⟨c3b0, H⟩
   ·replace H := ifN H; obtain ⟨c4b0, H⟩ := H
    replace H := bS H; obtain ⟨t128, A5, H⟩ := H
    have H' := Aside0.mk H
    clear H
    obtain ⟨y6_0, y6_1, y6_2, y6_3, y6_4, y6_5, u6_0, u6_1, u6_2, u6_3, u6_4, u6_5⟩ := cells6 BK10.out
    have p127 : 0 ≤ (x4_1 : Int) := of_decide_eq_true ψ5
    have q127 : x4_1 < (l0_1.length : Int) := of_decide_eq_true ψ5
    obtain ⟨ad127, e127, hx127_0, hx127_1⟩ := at_T106 HR0_1.out x4_1 p127 q127
    cases e127
    replace hx127_0 := cB HB hx127_0
    replace hx127_1 := cB HB hx127_1
    replace p127 := eq_true p127
    replace q127 := eq_true q127
    go_wp2_with (first | ((with_reducible refine gate_callee (f := 89) rfl ?_); refine gL 20 Try.func89 #[.int .i64 ((rd_T106 l0_1 x4_1).f0)] ?_; (with_reducible refine (spec_l3Bits.calls k1 ((rd_T106 l0_1 x4_1).f0) _ _ A5.out).mono ?_); rintro e w' ⟨rfl, ⟨nd, rfl⟩⟩; refine ⟨_, rfl, ?_⟩))
    go_roundg k1
    case measure => have := HK1.out; omega
    case rel => exact ⟨(wrap64 (x3_1 + t128)), (wrap64 (x4_1 + 1)), ψ7, ψ7, H', ⟨ψ8⟩, ⟨ψ10⟩, ⟨ψ2⟩⟩
   ·have H' := Aside0.mk H
    clear H
    obtain ⟨y7_0, y7_1, y7_2, y7_3, y7_4, y7_5, u7_0, u7_1, u7_2, u7_3, u7_4, u7_5⟩ := cells6 BK10.out
    go_wp2
    go_loopg [3, 5] k1 (fun kq v3 v5 w' => ∃ (x3_2 : Int) (x5_2 : Int), v3 = .int .i64 x3_2 ∧ v5 = .int .i64 x5_2 ∧ Aside0 (spec_l3AllBits.l1 kq x3_2 x5_2 a0_0 l0_1 l0_2 a0_3 l0_4 l0_5 = some r) ∧ Aside0 (kq ≤ k1) ∧ Aside0 (w'.heap[gb10]? = some (.cells #[.int .i64 a0_0, (.slice A0_1 l0_1.length c0_1), (.slice A0_2 l0_2.length c0_2), .int .i64 a0_3, (.slice A0_4 l0_4.length c0_4), (.slice A0_5 l0_5.length c0_5)] 36 (0, 0))) ∧ Aside0 (Below w.heap.size w w'))
    case atStart => exact ⟨(x3_1), (0), ψ7, ψ7, H', ⟨Nat.le_refl _⟩, ⟨ψ10⟩, ⟨ψ2⟩⟩
    case round =>
     clear H'
     try clear c3
     try clear c3b0
     try clear c4
     try clear c4b0
     try clear y6_0 y6_1 y6_2 y6_3 y6_4 y6_5
     try clear y7_0 y7_1 y7_2 y7_3 y7_4 y7_5
     try clear u6_0 u6_1 u6_2 u6_3 u6_4 u6_5
     try clear u7_0 u7_1 u7_2 u7_3 u7_4 u7_5
     try clear hx127_0
     try clear hx127_1
     try clear p127
     try clear q127
     obtain ⟨x3_2, x5_2, rfl, rfl, HA, HK2, BK10, HB⟩ := hrel
     cases gk with
     | zero => exact absurd HA.out (by simp [spec_l3AllBits.l1])
     | succ k2 =>
      have H := HA.out
      clear HA
      simp only [spec_l3AllBits.l1] at H
      replace H := ifD H; rcases H with ⟨c8b0, H⟩ | ⟨c8b0, H⟩
      ·replace H := ifN H; obtain ⟨c9b0, H⟩ := H
       replace H := bS H; obtain ⟨t132, A10, H⟩ := H
       exact τ10
      ·exact τ10

/-! ### spec_l3Size: function 70 -/
def spec_l3Size.l0 : Nat → Int → Int → Int → List (S106) → List (S106) → Int → List Int → List (S114) → Option (Int)
 | 0, _, _, _, _, _, _, _, _ => none
 | k + 1, x3, x4, x134000, x134001, x134002, x134003, x134004, x134005 => if x4 < x134000 then (spec_l3Size.l0 k (wrap64 (x3 * 2)) (wrap64 (x4 + 1)) x134000 x134001 x134002 x134003 x134004 x134005) else (some x3)
def spec_l3Size.f (k : Nat) (a0_0 : Int) (l0_1 : List (S106)) (l0_2 : List (S106)) (a0_3 : Int) (l0_4 : List Int) (l0_5 : List (S114)) : Option (Int) := spec_l3Size.l0 k 1 0 a0_0 l0_1 l0_2 a0_3 l0_4 l0_5
theorem spec_l3Size.calls (k : Nat) (a0_0 : Int) (A0_1 : Option Addr) (c0_1 : Nat) (l0_1 : List (S106)) (A0_2 : Option Addr) (c0_2 : Nat) (l0_2 : List (S106)) (a0_3 : Int) (A0_4 : Option Addr) (c0_4 : Nat) (l0_4 : List Int) (A0_5 : Option Addr) (c0_5 : Nat) (l0_5 : List (S114)) (r : Int) (w : World) (hr0_1 : Kd.C k106 w A0_1 l0_1.length l0_1) (hc0_1 : l0_1.length ≤ c0_1) (hr0_2 : Kd.C k106 w A0_2 l0_2.length l0_2) (hc0_2 : l0_2.length ≤ c0_2) (hr0_4 : Kd.C (Kd.int .i64) w A0_4 l0_4.length l0_4) (hc0_4 : l0_4.length ≤ c0_4) (hr0_5 : Kd.C k114 w A0_5 l0_5.length l0_5) (hc0_5 : l0_5.length ≤ c0_5) (h : spec_l3Size.f k a0_0 l0_1 l0_2 a0_3 l0_4 l0_5 = some r) :
 Calls Try.prog 70 #[.agg #[.int .i64 a0_0, .slice A0_1 l0_1.length c0_1, .slice A0_2 l0_2.length c0_2, .int .i64 a0_3, .slice A0_4 l0_4.length c0_4, .slice A0_5 l0_5.length c0_5]] w fun e w' => e = .returned (.int .i64 r) ∧ Below w.heap.size w w' := by
 have hu36 := Try.underlying36
 have q := n8_ hr0_1 hc0_1 hr0_2 hc0_2 hr0_4 hc0_4 hr0_5 hc0_5
 clear hr0_1 hc0_1 hr0_2 hc0_2 hr0_4 hc0_4 hr0_5 hc0_5
 obtain ⟨HR0_1, HC0_1, HR0_2, HC0_2, HR0_4, HC0_4, HR0_5, HC0_5⟩ := q
 have HB := Aside0.mk (Below.refl w.heap.size w)
 unfold spec_l3Size.f at h
 have H := h
 clear h
 have H' := Aside0.mk H
 clear H
 go_enter Try.func70, Try.ntmps70
 go_wp2_with (first | ((with_reducible refine gate_dst (N := 1) rfl ?_); refine bE 1 #[.int .i64 a0_0, .slice A0_1 l0_1.length c0_1, .slice A0_2 l0_2.length c0_2, .int .i64 a0_3, .slice A0_4 l0_4.length c0_4, .slice A0_5 l0_5.length c0_5] 36 ?_; intro gb10 hg w2 hbox hb; have q := n4_ (below_step ψ2 hb) (hbox) ((ψ113 : w.heap.size ≤ gb10)) ((ψ113 : w.heap.size ≤ gb10)); clear HB; obtain ⟨HB, BK10, GW10, GE10⟩ := q; clear hb hbox hg))
 go_loopg [3, 4] k (fun kq v3 v4 w' => ∃ (x3_1 : Int) (x4_1 : Int), v3 = .int .i64 x3_1 ∧ v4 = .int .i64 x4_1 ∧ Aside0 (spec_l3Size.l0 kq x3_1 x4_1 a0_0 l0_1 l0_2 a0_3 l0_4 l0_5 = some r) ∧ Aside0 (kq ≤ k) ∧ Aside0 (w'.heap[gb10]? = some (.cells #[.int .i64 a0_0, (.slice A0_1 l0_1.length c0_1), (.slice A0_2 l0_2.length c0_2), .int .i64 a0_3, (.slice A0_4 l0_4.length c0_4), (.slice A0_5 l0_5.length c0_5)] 36 (0, 0))) ∧ Aside0 (Below w.heap.size w w'))
 case atStart => exact ⟨(1), (0), ψ7, ψ7, H', ⟨Nat.le_refl _⟩, ⟨ψ10⟩, ⟨ψ2⟩⟩
 case round =>
  clear H'
  obtain ⟨x3_1, x4_1, rfl, rfl, HA, HK1, BK10, HB⟩ := hrel
  cases gk with
  | zero => exact absurd HA.out (by simp [spec_l3Size.l0])
  | succ k1 =>
   have H := HA.out
   clear HA
   simp only [spec_l3Size.l0] at H
   replace H := ifD H; rcases H with ⟨c3b0, H⟩ | ⟨c3b0, H⟩
   ·have H' := Aside0.mk H
    clear H
    obtain ⟨y4_0, y4_1, y4_2, y4_3, y4_4, y4_5, u4_0, u4_1, u4_2, u4_3, u4_4, u4_5⟩ := cells6 BK10.out
    go_wp2
    go_roundg k1
    case measure => have := HK1.out; omega
    case rel => exact ⟨(wrap64 (x3_1 * 2)), (wrap64 (x4_1 + 1)), ψ7, ψ7, H', ⟨ψ8⟩, ⟨ψ10⟩, ⟨ψ2⟩⟩
   ·obtain rfl := Option.some.inj H
    obtain ⟨y5_0, y5_1, y5_2, y5_3, y5_4, y5_5, u5_0, u5_1, u5_2, u5_3, u5_4, u5_5⟩ := cells6 BK10.out
    go_wp2
    go_ret
    exact ⟨ψ4, ψ2⟩

end Go.Proofs.Ytakmkdlkipfnhaa.PCore

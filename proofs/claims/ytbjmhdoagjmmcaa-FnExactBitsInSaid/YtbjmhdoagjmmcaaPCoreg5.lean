/- The walks of the functions that the laws come to, part 5: turned out of the kit's print, and mended where that fell. -/
import Derived.Test.YtbjmhdoagjmmcaaPCoreg
namespace Go.Proofs.Ytbjmhdoagjmmcaa.PCore
open Go.RowKit Go.Proofs.YtbjmhdoagjmmcaaW.PrintWords Go.Proofs.YtbjmhdoagjmmcaaW.PrintLast Go.Proofs.YtbjmhdoagjmmcaaW.PrintMore
attribute [local go_sem] max2_int min2_int max_two min_two max_three min_three max_four min_four   -- for this text's walks alone
set_option linter.unusedVariables false
set_option linter.unusedSimpArgs false

theorem ψ115 {P : Prop} (h : P := by (with_reducible repeat (first | refine blk_drewN ?_ _ | refine blk_drew ?_ | refine blk_alloc ?_ _)); refine blk_put (cs := #[.int .i64 a0_0, .int .i64 0]) ?_ 1 _ rfl; (with_reducible repeat (first | refine blk_drewN ?_ _ | refine blk_drew ?_ | refine blk_alloc ?_ _)); refine blk_put (cs := #[.int .i64 0, .int .i64 0]) ?_ 0 _ rfl; (with_reducible repeat (first | refine blk_drewN ?_ _ | refine blk_drew ?_ | refine blk_alloc ?_ _)); refine blk_far ?_ NB11_12.out _; (with_reducible repeat (first | refine blk_drewN ?_ _ | refine blk_drew ?_ | refine blk_alloc ?_ _)); refine blk_far ?_ NB11_12.out _; (with_reducible repeat (first | refine blk_drewN ?_ _ | refine blk_drew ?_ | refine blk_alloc ?_ _)); exact BK11.out) : P := h
theorem ψ117 {P : Prop} (h : P := by rw [hw]; exact below_set (below_set (HB.out) GB10.out) GB10.out) : P := h
theorem ψ122 {P : Prop} (h : P := by (with_reducible repeat (first | apply Kd.S_alloc | apply Kd.S_drewN | apply Kd.S_drew)); exact HO_3.out) : P := h
theorem ψ123 {P : Prop} (h : P := by first | exact ⟨_, _, _, (Kd.R_slice HO785.out).choose_spec.choose_spec⟩ | exact ⟨_, _, _, (Kd.R_slice (Kd.S_R HO785.out)).choose_spec.choose_spec⟩ | exact ⟨_, _, _, (Kd.R_slice HO788.out).choose_spec.choose_spec⟩ | exact ⟨_, _, _, (Kd.R_slice (Kd.S_R HO788.out)).choose_spec.choose_spec⟩) : P := h
theorem ψ328 {P : Prop} (h : P := by (with_reducible repeat (first | apply Kd.R_alloc | apply Kd.R_drewN | apply Kd.R_drew)); exact (Kd.R_mono (Kd.R_far (p := ⟨gb12, 2, none⟩) (Kd.R_types HO771.out BK12.out (ψ15)) (fun _ hk => hk.2) (.slice Ao13 t769.length co13)) (fun _ h_ => h_.1))) : P := h
theorem ψ329 {P : Prop} (h : P := by (with_reducible repeat (first | apply Kd.R_alloc | apply Kd.R_drewN | apply Kd.R_drew)); exact (Kd.R_mono (Kd.R_far (p := ⟨gb12, 1, none⟩) (Kd.R_types HO815.out BK12.out (ψ15)) (fun _ hk => hk.2) (.slice Ao15 t813.length co15)) (fun _ h_ => h_.1))) : P := h
/-! ### laws_szTermS: function 33 -/
def laws_szTermS.f (l0 : List (S102)) (a1 : Int) : Option (Int) := if (wrap64 (a1 - (l0.length : Int))) < 0 then (some (-1)) else (some (wrap64 (a1 - (l0.length : Int))))
set_option maxRecDepth 100000 in
theorem τ40 {P : Prop} (h : P := by
 obtain rfl := Option.some.inj H
 go_enter Try.func33, Try.ntmps33
 go_wp2
 go_ret
 exact ⟨ψ0, ψ1⟩) : P := h
set_option maxHeartbeats 8000000 in
set_option maxRecDepth 100000 in
theorem laws_szTermS.calls (A0 : Option Addr) (c0 : Nat) (l0 : List (S102)) (a1 : Int) (r : Int) (w : World) (hr0 : Kd.C k102 w A0 l0.length l0) (hc0 : l0.length ≤ c0) (h : laws_szTermS.f l0 a1 = some r) :
 Calls Try.prog 33 #[.slice A0 l0.length c0, .int .i64 a1] w fun e w' => e = .returned (.int .i64 r) ∧ Drawn0 w w' := by
 have HR0 := Aside0.mk hr0
 have HC0 := Aside0.mk hc0
 clear hr0 hc0
 have H : (if (wrap64 (a1 - (l0.length : Int))) < 0 then (some (-1)) else (some (wrap64 (a1 - (l0.length : Int))))) = some r := h
 clear h
 replace H := ifD H; rcases H with ⟨c3b0, H⟩ | ⟨c3b0, H⟩
 ·exact τ40
 ·exact τ40

/-! ### laws_szStmt: function 42 -/
def laws_szStmt.f (a0_0 : Int) (a0_1 : Int) (l0_2 : List (S102)) (l0_3 : List (S102)) (a1 : Int) : Option (Int) := (laws_szTermS.f l0_2 a1).bind fun t736 => (if t736 < 0 then (some (-1)) else ((laws_szTermS.f l0_3 t736).bind fun t738 => (if t738 < 0 then (some (-1)) else (some t738))))
set_option maxRecDepth 100000 in
theorem τ41 {P : Prop} (h : P := by
 obtain rfl := Option.some.inj H
 go_enter Try.func42, Try.ntmps42
 go_wp2_with (first | ((with_reducible refine gate_dst (N := 2) rfl ?_); refine bE 2 #[.int .i64 a0_0, .int .i64 a0_1, .slice A0_2 l0_2.length c0_2, .slice A0_3 l0_3.length c0_3] 64 ?_; intro gb10 hg w1_ hbox hb; have q := n4_ (below_step ψ52 hb) (hbox) ((ψ311 : w.heap.size ≤ gb10)) ((ψ311 : w.heap.size ≤ gb10)); clear HB; obtain ⟨HB, BK10, GW10, GE10⟩ := q; clear hb hbox hg; obtain ⟨hczB10_0, hczB10_1, hczB10_2, hczB10_3, hfzB10_0, hfzB10_1, hfzB10_2, hfzB10_3⟩ := cells4 BK10.out) | ((with_reducible refine gate_callee (f := 33) rfl ?_); refine gL 8 Try.func33 #[.slice A0_2 l0_2.length c0_2, .int .i64 a1] ?_; (with_reducible refine (laws_szTermS.calls _ _ l0_2 a1 _ _ ?_ ?_ A3.out).mono ?_); exact ψ55; exact HC0_2.out; rintro e w' ⟨rfl, ⟨nd, rfl⟩⟩; refine ⟨_, rfl, ?_⟩) | ((with_reducible refine gate_callee (f := 33) rfl ?_); refine gL 14 Try.func33 #[.slice A0_3 l0_3.length c0_3, .int .i64 t736] ?_; (with_reducible refine (laws_szTermS.calls _ _ l0_3 t736 _ _ ?_ ?_ A7.out).mono ?_); exact (by repeat (first | exact (Kd.C_below HR0_3.out ψ52) | (with_reducible refine Kd.C_alloc ?_ _) | (with_reducible refine Kd.C_drewN ?_ _) | (with_reducible refine Kd.C_drew ?_))); exact HC0_3.out; rintro e w' ⟨rfl, ⟨nd, rfl⟩⟩; refine ⟨_, rfl, ?_⟩))
 go_ret
 exact ⟨ψ9, ψ52⟩) : P := h
set_option maxHeartbeats 8000000 in
set_option maxRecDepth 100000 in
theorem laws_szStmt.calls (a0_0 : Int) (a0_1 : Int) (A0_2 : Option Addr) (c0_2 : Nat) (l0_2 : List (S102)) (A0_3 : Option Addr) (c0_3 : Nat) (l0_3 : List (S102)) (a1 : Int) (r : Int) (w : World) (hr0_2 : Kd.C k102 w A0_2 l0_2.length l0_2) (hc0_2 : l0_2.length ≤ c0_2) (hr0_3 : Kd.C k102 w A0_3 l0_3.length l0_3) (hc0_3 : l0_3.length ≤ c0_3) (h : laws_szStmt.f a0_0 a0_1 l0_2 l0_3 a1 = some r) :
 Calls Try.prog 42 #[.agg #[.int .i64 a0_0, .int .i64 a0_1, .slice A0_2 l0_2.length c0_2, .slice A0_3 l0_3.length c0_3], .int .i64 a1] w fun e w' => e = .returned (.int .i64 r) ∧ Below w.heap.size w w' := by
 have hu64 := Try.underlying64
 have HR0_2 := Aside0.mk hr0_2
 have HC0_2 := Aside0.mk hc0_2
 clear hr0_2 hc0_2
 have HR0_3 := Aside0.mk hr0_3
 have HC0_3 := Aside0.mk hc0_3
 clear hr0_3 hc0_3
 have HB := Aside0.mk (Below.refl w.heap.size w)
 have H : ((laws_szTermS.f l0_2 a1).bind fun t736 => (if t736 < 0 then (some (-1)) else ((laws_szTermS.f l0_3 t736).bind fun t738 => (if t738 < 0 then (some (-1)) else (some t738))))) = some r := h
 clear h
 replace H := Option.bind_eq_some_iff.mp H
 obtain ⟨t736, A30, H⟩ := H
 have A3 := Aside0.mk A30
 clear A30
 replace H := ifD H; rcases H with ⟨c4b0, H⟩ | ⟨c4b0, H⟩
 ·exact τ41
 ·replace H := Option.bind_eq_some_iff.mp H
  obtain ⟨t738, A70, H⟩ := H
  have A7 := Aside0.mk A70
  clear A70
  replace H := ifD H; rcases H with ⟨c8b0, H⟩ | ⟨c8b0, H⟩
  ·exact τ41
  ·exact τ41

/-! ### laws_szStmtS: function 12 -/
def laws_szStmtS.l0 : Nat → List (S64) → Int → Int → Option (Int)
 | 0, _, _, _ => none
 | k + 1, x0, x1, x5 => if x5 < (x0.length : Int) then (if 0 ≤ x5 then ((laws_szStmt.f ((rd_T64 x0 x5).f0) ((rd_T64 x0 x5).f1) ((rd_T64 x0 x5).f2) ((rd_T64 x0 x5).f3) x1).bind fun t740 => (if t740 < 0 then (some (-1)) else (laws_szStmtS.l0 k x0 t740 (wrap64 (x5 + 1))))) else (none)) else (some x1)
def laws_szStmtS.f (k : Nat) (l0 : List (S64)) (a1 : Int) : Option (Int) := if (wrap64 (a1 - (l0.length : Int))) < 0 then (some (-1)) else (laws_szStmtS.l0 k l0 (wrap64 (a1 - (l0.length : Int))) 0)
set_option maxRecDepth 100000 in
theorem τ42 {P : Prop} (h : P := by
 first | obtain rfl := Option.some.inj H | (have H' := Aside0.mk H; clear H)
 try (have p739 : 0 ≤ (x5_1 : Int) := of_decide_eq_true ψ2; have q739 : x5_1 < (l0.length : Int) := of_decide_eq_true ψ2; obtain ⟨ad739, A739_2, c739_2, A739_3, c739_3, e739, hx739_0, hx739_1, hx739_2, hx739_3, hl739_2, hi739_2, hl739_3, hi739_3⟩ := at_T64 HR0.out x5_1 p739 q739; cases e739; replace hx739_0 := (HB.out.cell (World.block_lt_of_cell? w _ hx739_0)).trans hx739_0; replace hx739_1 := (HB.out.cell (World.block_lt_of_cell? w _ hx739_1)).trans hx739_1; replace hx739_2 := (HB.out.cell (World.block_lt_of_cell? w _ hx739_2)).trans hx739_2; replace hx739_3 := (HB.out.cell (World.block_lt_of_cell? w _ hx739_3)).trans hx739_3; have HR739_2 := Aside0.mk hi739_2; have HC739_2 := Aside0.mk hl739_2; clear hi739_2 hl739_2; have HR739_3 := Aside0.mk hi739_3; have HC739_3 := Aside0.mk hl739_3; clear hi739_3 hl739_3; replace p739 := eq_true p739; replace q739 := eq_true q739)
 go_wp2_with (first | ((with_reducible refine gate_callee (f := 42) rfl ?_); refine gL 23 Try.func42 #[.agg #[.int .i64 ((rd_T64 l0 x5_1).f0), .int .i64 ((rd_T64 l0 x5_1).f1), .slice A739_2 ((rd_T64 l0 x5_1).f2).length c739_2, .slice A739_3 ((rd_T64 l0 x5_1).f3).length c739_3], .int .i64 x1_1] ?_; (with_reducible refine (laws_szStmt.calls ((rd_T64 l0 x5_1).f0) ((rd_T64 l0 x5_1).f1) _ _ ((rd_T64 l0 x5_1).f2) _ _ ((rd_T64 l0 x5_1).f3) x1_1 _ _ ?_ ?_ ?_ ?_ A6.out).mono ?_); exact (by repeat (first | exact (Kd.C_below HR739_2.out HB.out) | (with_reducible refine Kd.C_alloc ?_ _) | (with_reducible refine Kd.C_drewN ?_ _) | (with_reducible refine Kd.C_drew ?_))); exact HC739_2.out; exact (by repeat (first | exact (Kd.C_below HR739_3.out HB.out) | (with_reducible refine Kd.C_alloc ?_ _) | (with_reducible refine Kd.C_drewN ?_ _) | (with_reducible refine Kd.C_drew ?_))); exact HC739_3.out; rintro e w1_ ⟨rfl, hb⟩; refine ⟨_, rfl, ?_⟩; replace HB := Aside0.mk (below_step ψ59 hb); (try clear hb)))
 first | (go_ret; exact ⟨ψ9, ψ59⟩) | (go_roundg k1; (case measure => have := HK1.out; omega); (case rel => exact ⟨(t740), (wrap64 (x5_1 + 1)), ψ0, ψ0, H', ⟨ψ53⟩, ⟨ψ59⟩⟩))) : P := h
set_option maxHeartbeats 8000000 in
set_option maxRecDepth 100000 in
theorem laws_szStmtS.calls (k : Nat) (A0 : Option Addr) (c0 : Nat) (l0 : List (S64)) (a1 : Int) (r : Int) (w : World) (hr0 : Kd.C k64 w A0 l0.length l0) (hc0 : l0.length ≤ c0) (h : laws_szStmtS.f k l0 a1 = some r) :
 Calls Try.prog 12 #[.slice A0 l0.length c0, .int .i64 a1] w fun e w' => e = .returned (.int .i64 r) ∧ Below w.heap.size w w' := by
 have hu64 := Try.underlying64
 have HR0 := Aside0.mk hr0
 have HC0 := Aside0.mk hc0
 clear hr0 hc0
 have HB := Aside0.mk (Below.refl w.heap.size w)
 have H : (if (wrap64 (a1 - (l0.length : Int))) < 0 then (some (-1)) else (laws_szStmtS.l0 k l0 (wrap64 (a1 - (l0.length : Int))) 0)) = some r := h
 clear h
 replace H := ifD H; rcases H with ⟨c3b0, H⟩ | ⟨c3b0, H⟩
 ·obtain rfl := Option.some.inj H
  go_enter Try.func12, Try.ntmps12
  go_wp2
  go_ret
  exact ⟨ψ9, ψ59⟩
 ·have H' := Aside0.mk H
  clear H
  go_enter Try.func12, Try.ntmps12
  go_wp2
  go_loopg [1, 5] k (fun kq v1 v5 w' => ∃ (x1_1 : Int) (x5_1 : Int), v1 = .int .i64 x1_1 ∧ v5 = .int .i64 x5_1 ∧ Aside0 (laws_szStmtS.l0 kq l0 x1_1 x5_1 = some r) ∧ Aside0 (kq ≤ k) ∧ Aside0 (Below w.heap.size w w'))
  case atStart => exact ⟨(wrap64 (a1 - (l0.length : Int))), (0), ψ0, ψ0, H', ⟨Nat.le_refl _⟩, ⟨ψ59⟩⟩
  case round =>
   clear H'
   try clear c1
   try clear p2
   try clear c3
   try clear c3b0
   obtain ⟨x1_1, x5_1, rfl, rfl, HA, HK1, HB⟩ := hrel
   cases gk with
   | zero => exact absurd HA.out (by simp [laws_szStmtS.l0])
   | succ k1 =>
    have H := HA.out
    clear HA
    simp only [laws_szStmtS.l0] at H
    replace H := ifD H; rcases H with ⟨c4b0, H⟩ | ⟨c4b0, H⟩
    ·replace H := ifN H; obtain ⟨c5b0, H⟩ := H
     replace H := Option.bind_eq_some_iff.mp H
     obtain ⟨t740, A60, H⟩ := H
     have A6 := Aside0.mk A60
     clear A60
     replace H := ifD H; rcases H with ⟨c7b0, H⟩ | ⟨c7b0, H⟩
     ·exact τ42
     ·exact τ42
    ·exact τ42

/-! ### laws_szInputS: function 51 -/
def laws_szInputS.f (l0 : List (S120)) (a1 : Int) : Option (Int) := if (wrap64 (a1 - (l0.length : Int))) < 0 then (some (-1)) else (some (wrap64 (a1 - (l0.length : Int))))
set_option maxRecDepth 100000 in
theorem τ43 {P : Prop} (h : P := by
 obtain rfl := Option.some.inj H
 go_enter Try.func51, Try.ntmps51
 go_wp2
 go_ret
 exact ⟨ψ0, ψ1⟩) : P := h
set_option maxHeartbeats 8000000 in
set_option maxRecDepth 100000 in
theorem laws_szInputS.calls (A0 : Option Addr) (c0 : Nat) (l0 : List (S120)) (a1 : Int) (r : Int) (w : World) (hr0 : Kd.C k120 w A0 l0.length l0) (hc0 : l0.length ≤ c0) (h : laws_szInputS.f l0 a1 = some r) :
 Calls Try.prog 51 #[.slice A0 l0.length c0, .int .i64 a1] w fun e w' => e = .returned (.int .i64 r) ∧ Drawn0 w w' := by
 have HR0 := Aside0.mk hr0
 have HC0 := Aside0.mk hc0
 clear hr0 hc0
 have H : (if (wrap64 (a1 - (l0.length : Int))) < 0 then (some (-1)) else (some (wrap64 (a1 - (l0.length : Int))))) = some r := h
 clear h
 replace H := ifD H; rcases H with ⟨c3b0, H⟩ | ⟨c3b0, H⟩
 ·exact τ43
 ·exact τ43

/-! ### laws_szInt64S: function 52 -/
def laws_szInt64S.f (l0 : List Int) (a1 : Int) : Option (Int) := if (wrap64 (a1 - (l0.length : Int))) < 0 then (some (-1)) else (some (wrap64 (a1 - (l0.length : Int))))
set_option maxRecDepth 100000 in
theorem τ44 {P : Prop} (h : P := by
 obtain rfl := Option.some.inj H
 go_enter Try.func52, Try.ntmps52
 go_wp2
 go_ret
 exact ⟨ψ0, ψ1⟩) : P := h
set_option maxHeartbeats 8000000 in
set_option maxRecDepth 100000 in
theorem laws_szInt64S.calls (A0 : Option Addr) (c0 : Nat) (l0 : List Int) (a1 : Int) (r : Int) (w : World) (hr0 : Kd.C (Kd.int .i64) w A0 l0.length l0) (hc0 : l0.length ≤ c0) (h : laws_szInt64S.f l0 a1 = some r) :
 Calls Try.prog 52 #[.slice A0 l0.length c0, .int .i64 a1] w fun e w' => e = .returned (.int .i64 r) ∧ Drawn0 w w' := by
 have HR0 := Aside0.mk hr0
 have HC0 := Aside0.mk hc0
 clear hr0 hc0
 have H : (if (wrap64 (a1 - (l0.length : Int))) < 0 then (some (-1)) else (some (wrap64 (a1 - (l0.length : Int))))) = some r := h
 clear h
 replace H := ifD H; rcases H with ⟨c3b0, H⟩ | ⟨c3b0, H⟩
 ·exact τ44
 ·exact τ44

/-! ### laws_szProg: function 20 -/
def laws_szProg.f (k : Nat) (a0_0 : Int) (l0_1 : List (S120)) (l0_2 : List (S120)) (a0_3 : Int) (l0_4 : List Int) (l0_5 : List (S64)) (a1 : Int) : Option (Int) := (laws_szInputS.f l0_1 a1).bind fun t743 => (if t743 < 0 then (some (-1)) else ((laws_szInputS.f l0_2 t743).bind fun t745 => (if t745 < 0 then (some (-1)) else ((laws_szInt64S.f l0_4 t745).bind fun t747 => (if t747 < 0 then (some (-1)) else ((laws_szStmtS.f k l0_5 t747).bind fun t749 => (if t749 < 0 then (some (-1)) else (some t749))))))))
set_option maxRecDepth 100000 in
theorem τ45 {P : Prop} (h : P := by
 obtain rfl := Option.some.inj H
 go_enter Try.func20, Try.ntmps20
 go_wp2_with (first | ((with_reducible refine gate_dst (N := 2) rfl ?_); refine bE 2 #[.int .i64 a0_0, .slice A0_1 l0_1.length c0_1, .slice A0_2 l0_2.length c0_2, .int .i64 a0_3, .slice A0_4 l0_4.length c0_4, .slice A0_5 l0_5.length c0_5] 45 ?_; intro gb10 hg w1_ hbox hb; have q := n4_ (below_step ψ52 hb) (hbox) ((ψ311 : w.heap.size ≤ gb10)) ((ψ311 : w.heap.size ≤ gb10)); clear HB; obtain ⟨HB, BK10, GW10, GE10⟩ := q; clear hb hbox hg; obtain ⟨hczB10_0, hczB10_1, hczB10_2, hczB10_3, hczB10_4, hczB10_5, hfzB10_0, hfzB10_1, hfzB10_2, hfzB10_3, hfzB10_4, hfzB10_5⟩ := cells6 BK10.out) | ((with_reducible refine gate_callee (f := 51) rfl ?_); refine gL 8 Try.func51 #[.slice A0_1 l0_1.length c0_1, .int .i64 a1] ?_; (with_reducible refine (laws_szInputS.calls _ _ l0_1 a1 _ _ ?_ ?_ A3.out).mono ?_); exact ψ54; exact HC0_1.out; rintro e w' ⟨rfl, ⟨nd, rfl⟩⟩; refine ⟨_, rfl, ?_⟩) | ((with_reducible refine gate_callee (f := 51) rfl ?_); refine gL 14 Try.func51 #[.slice A0_2 l0_2.length c0_2, .int .i64 t743] ?_; (with_reducible refine (laws_szInputS.calls _ _ l0_2 t743 _ _ ?_ ?_ A7.out).mono ?_); exact (by repeat (first | exact (Kd.C_below HR0_2.out ψ52) | (with_reducible refine Kd.C_alloc ?_ _) | (with_reducible refine Kd.C_drewN ?_ _) | (with_reducible refine Kd.C_drew ?_))); exact HC0_2.out; rintro e w' ⟨rfl, ⟨nd, rfl⟩⟩; refine ⟨_, rfl, ?_⟩) | ((with_reducible refine gate_callee (f := 52) rfl ?_); refine gL 20 Try.func52 #[.slice A0_4 l0_4.length c0_4, .int .i64 t745] ?_; (with_reducible refine (laws_szInt64S.calls _ _ l0_4 t745 _ _ ?_ ?_ A11.out).mono ?_); exact (by repeat (first | exact (Kd.C_below HR0_4.out ψ52) | (with_reducible refine Kd.C_alloc ?_ _) | (with_reducible refine Kd.C_drewN ?_ _) | (with_reducible refine Kd.C_drew ?_))); exact HC0_4.out; rintro e w' ⟨rfl, ⟨nd, rfl⟩⟩; refine ⟨_, rfl, ?_⟩) | ((with_reducible refine gate_callee (f := 12) rfl ?_); refine gL 26 Try.func12 #[.slice A0_5 l0_5.length c0_5, .int .i64 t747] ?_; (with_reducible refine (laws_szStmtS.calls k _ _ l0_5 t747 _ _ ?_ ?_ A15.out).mono ?_); exact ψ314; exact HC0_5.out; rintro e w2_ ⟨rfl, hb⟩; refine ⟨_, rfl, ?_⟩; have q := n2_ (blk_below (g := gb10) ψ23 hb) (below_step ψ52 hb); clear BK10 HB; obtain ⟨BK10, HB⟩ := q; (try clear hb)))
 go_ret
 exact ⟨ψ9, ψ52⟩) : P := h
set_option maxHeartbeats 8000000 in
set_option maxRecDepth 100000 in
theorem laws_szProg.calls (k : Nat) (a0_0 : Int) (A0_1 : Option Addr) (c0_1 : Nat) (l0_1 : List (S120)) (A0_2 : Option Addr) (c0_2 : Nat) (l0_2 : List (S120)) (a0_3 : Int) (A0_4 : Option Addr) (c0_4 : Nat) (l0_4 : List Int) (A0_5 : Option Addr) (c0_5 : Nat) (l0_5 : List (S64)) (a1 : Int) (r : Int) (w : World) (hr0_1 : Kd.C k120 w A0_1 l0_1.length l0_1) (hc0_1 : l0_1.length ≤ c0_1) (hr0_2 : Kd.C k120 w A0_2 l0_2.length l0_2) (hc0_2 : l0_2.length ≤ c0_2) (hr0_4 : Kd.C (Kd.int .i64) w A0_4 l0_4.length l0_4) (hc0_4 : l0_4.length ≤ c0_4) (hr0_5 : Kd.C k64 w A0_5 l0_5.length l0_5) (hc0_5 : l0_5.length ≤ c0_5) (h : laws_szProg.f k a0_0 l0_1 l0_2 a0_3 l0_4 l0_5 a1 = some r) :
 Calls Try.prog 20 #[.agg #[.int .i64 a0_0, .slice A0_1 l0_1.length c0_1, .slice A0_2 l0_2.length c0_2, .int .i64 a0_3, .slice A0_4 l0_4.length c0_4, .slice A0_5 l0_5.length c0_5], .int .i64 a1] w fun e w' => e = .returned (.int .i64 r) ∧ Below w.heap.size w w' := by
 have hu45 := Try.underlying45
 have HR0_1 := Aside0.mk hr0_1
 have HC0_1 := Aside0.mk hc0_1
 clear hr0_1 hc0_1
 have HR0_2 := Aside0.mk hr0_2
 have HC0_2 := Aside0.mk hc0_2
 clear hr0_2 hc0_2
 have HR0_4 := Aside0.mk hr0_4
 have HC0_4 := Aside0.mk hc0_4
 clear hr0_4 hc0_4
 have HR0_5 := Aside0.mk hr0_5
 have HC0_5 := Aside0.mk hc0_5
 clear hr0_5 hc0_5
 have HB := Aside0.mk (Below.refl w.heap.size w)
 have H : ((laws_szInputS.f l0_1 a1).bind fun t743 => (if t743 < 0 then (some (-1)) else ((laws_szInputS.f l0_2 t743).bind fun t745 => (if t745 < 0 then (some (-1)) else ((laws_szInt64S.f l0_4 t745).bind fun t747 => (if t747 < 0 then (some (-1)) else ((laws_szStmtS.f k l0_5 t747).bind fun t749 => (if t749 < 0 then (some (-1)) else (some t749))))))))) = some r := h
 clear h
 replace H := Option.bind_eq_some_iff.mp H
 obtain ⟨t743, A30, H⟩ := H
 have A3 := Aside0.mk A30
 clear A30
 replace H := ifD H; rcases H with ⟨c4b0, H⟩ | ⟨c4b0, H⟩
 ·exact τ45
 ·replace H := Option.bind_eq_some_iff.mp H
  obtain ⟨t745, A70, H⟩ := H
  have A7 := Aside0.mk A70
  clear A70
  replace H := ifD H; rcases H with ⟨c8b0, H⟩ | ⟨c8b0, H⟩
  ·exact τ45
  ·replace H := Option.bind_eq_some_iff.mp H
   obtain ⟨t747, A110, H⟩ := H
   have A11 := Aside0.mk A110
   clear A110
   replace H := ifD H; rcases H with ⟨c12b0, H⟩ | ⟨c12b0, H⟩
   ·exact τ45
   ·replace H := Option.bind_eq_some_iff.mp H
    obtain ⟨t749, A150, H⟩ := H
    have A15 := Aside0.mk A150
    clear A150
    replace H := ifD H; rcases H with ⟨c16b0, H⟩ | ⟨c16b0, H⟩
    ·exact τ45
    ·exact τ45

/-! ### laws_toTerm: function 72 -/
def laws_toTerm.f (a0_0 : Int) (a0_1 : Int) : Option (Int × Int) := some (a0_0, a0_1)
set_option maxHeartbeats 8000000 in
set_option maxRecDepth 100000 in
theorem laws_toTerm.calls (a0_0 : Int) (a0_1 : Int) (r1 : Int) (r2 : Int) (w : World) (h : laws_toTerm.f a0_0 a0_1 = some (r1, r2)) :
 Calls Try.prog 72 #[.agg #[.int .i64 a0_0, .int .i64 a0_1]] w fun e w' => e = .returned (.agg #[.int .i64 r1, .int .i64 r2]) ∧ Below w.heap.size w w' := by
 have hu102 := Try.underlying102
 have hu100 := Try.underlying100
 have HB := Aside0.mk (Below.refl w.heap.size w)
 have H : (some (a0_0, a0_1)) = some (r1, r2) := h
 clear h
 simp only [Option.some.injEq, Prod.mk.injEq] at H
 obtain ⟨rfl, rfl⟩ := H
 go_enter Try.func72, Try.ntmps72
 go_wp2_with (first | ((with_reducible refine gate_dst (N := 1) rfl ?_); refine bE 1 #[.int .i64 a0_0, .int .i64 a0_1] 102 ?_; intro gb10 hg w2 hbox hb; have q := n4_ (below_step ψ114 hb) (hbox) ((ψ325 : w.heap.size ≤ gb10)) ((ψ325 : w.heap.size ≤ gb10)); clear HB; obtain ⟨HB, BK10, GW10, GE10⟩ := q; clear hb hbox hg) | ((with_reducible refine gate_dst (N := 2) rfl ?_); refine bE 2 #[.int .i64 0, .int .i64 0] 100 ?_; intro gb11 hg w3 hbox hb; have q := n7_ (blk_below (g := gb10) ψ23 hb) (below_step ψ114 hb) (hbox) ((ψ325 : w.heap.size ≤ gb11)) ((ψ325 : w.heap.size ≤ gb11)) ((ψ304 : gb10 ≠ gb11)) ((ψ305 : gb11 ≠ gb10)); clear BK10 HB; obtain ⟨BK10, HB, BK11, GW11, GE11, NB10_11, NB11_10⟩ := q; clear hb hbox hg) | ((with_reducible refine gate_dst (N := 3) rfl ?_); refine bE 3 #[.int .i64 0, .int .i64 0] 100 ?_; intro gb12 hg w4 hbox hb; have q := n10_ (blk_below (g := gb10) ψ23 hb) (blk_below (g := gb11) ψ34 hb) (below_step ψ114 hb) (hbox) ((ψ325 : w.heap.size ≤ gb12)) ((ψ325 : w.heap.size ≤ gb12)) ((ψ304 : gb10 ≠ gb12)) ((ψ305 : gb12 ≠ gb10)) ((ψ326 : gb11 ≠ gb12)) ((ψ327 : gb12 ≠ gb11)); clear BK10 BK11 HB; obtain ⟨BK10, BK11, HB, BK12, GW12, GE12, NB10_12, NB12_10, NB11_12, NB12_11⟩ := q; clear hb hbox hg; have hnb5 := NB10_11.out; have hnc5 := NB11_10.out; have hnb6 := NB10_12.out; have hnc6 := NB12_10.out; obtain ⟨y7_0, y7_1, u7_0, u7_1⟩ := cells2 BK10.out; have hnb8 := NB12_11.out; have hnc8 := NB11_12.out; obtain ⟨y9_0, y9_1, u9_0, u9_1⟩ := cells2 BK12.out; obtain ⟨y10_0, y10_1, u10_0, u10_1⟩ := cells2 BK11.out))
 refine bodyPost_ret (results_cell_row rfl _ _ gb11 100 #[.int .i64 a0_0, .int .i64 a0_1] (0, 0) _ rfl ψ115 Try.underlying100 rfl ψ14) rfl ?_
 exact ⟨ψ9, ψ114⟩

/-! ### laws_toTermS: function 35 -/
def laws_toTermS.l0 : Nat → List (S102) → List (S100) → Int → Option ((List (S100)))
 | 0, _, _, _ => none
 | k + 1, x0, x3, x4 => if x4 < (x0.length : Int) then (if 0 ≤ x4 then ((laws_toTerm.f ((rd_T102 x0 x4).f0) ((rd_T102 x0 x4).f1)).bind fun bt760 => (if x4 < (x3.length : Int) then (laws_toTermS.l0 k x0 (x3.set (x4 : Int).toNat (⟨bt760.1, bt760.2⟩ : S100)) (wrap64 (x4 + 1))) else (none))) else (none)) else (some x3)
def laws_toTermS.f (k : Nat) (l0 : List (S102)) : Option ((List (S100))) := if 0 ≤ (l0.length : Int) then (if ((l0.length : Int) : Int).toNat ≤ 17592186044416 then (laws_toTermS.l0 k l0 (List.replicate ((l0.length : Int) : Int).toNat z100) 0) else (none)) else (none)
set_option maxHeartbeats 8000000 in
set_option maxRecDepth 100000 in
theorem laws_toTermS.calls (k : Nat) (A0 : Option Addr) (c0 : Nat) (l0 : List (S102)) (r : List (S100)) (w : World) (hr0 : Kd.C k102 w A0 l0.length l0) (hc0 : l0.length ≤ c0) (h : laws_toTermS.f k l0 = some r) :
 Calls Try.prog 35 #[.slice A0 l0.length c0] w fun e w' => ∃ v0_ : Value, e = .returned (v0_) ∧ Kd.R k100 100 w' w.heap.size (fun _ => True) v0_ r ∧ Below w.heap.size w w' := by
 have hu102 := Try.underlying102
 have hu100 := Try.underlying100
 have HR0 := Aside0.mk hr0
 have HC0 := Aside0.mk hc0
 clear hr0 hc0
 have HB := Aside0.mk (Below.refl w.heap.size w)
 have H : (if 0 ≤ (l0.length : Int) then (if ((l0.length : Int) : Int).toNat ≤ 17592186044416 then (laws_toTermS.l0 k l0 (List.replicate ((l0.length : Int) : Int).toNat z100) 0) else (none)) else (none)) = some r := h
 clear h
 by_cases c2 : 0 ≤ (l0.length : Int)
 ·rw [if_pos c2] at H
  have c2b0 := eq_true c2
  have c2b1 : decide (0 ≤ (l0.length : Int)) = true := decide_eq_true c2
  clear c2
  by_cases c3 : ((l0.length : Int) : Int).toNat ≤ 17592186044416
  ·rw [if_pos c3] at H
   have c3b0 := eq_true c3
   have c3b1 : decide (((l0.length : Int) : Int).toNat ≤ 17592186044416) = true := decide_eq_true c3
   clear c3
   obtain ⟨y756, hy756⟩ : ∃ y_ : List (S100), y_ = (List.replicate ((l0.length : Int) : Int).toNat z100) := ⟨_, rfl⟩
   replace H : (laws_toTermS.l0 k l0 y756 0) = some r := by first | (rw [hy756]; with_reducible exact H) | (have H2_ := (Option.bind_some _ _).symm.trans H; rw [hy756]; with_reducible exact H2_) | (have H2_ := (Option.bind_some _ _).symm.trans H; with_reducible exact H2_) | with_reducible exact H | (rw [hy756]; exact H) | exact H
   have Ny756 := Aside0.mk hy756
   clear hy756
   have H' := Aside0.mk H
   clear H
   go_enter Try.func35, Try.ntmps35
   go_wp2_with (first | ((with_reducible refine gate_dst (N := 7) rfl ?_); refine Kd.R_make k100 _ 100 rfl (N := 7) rfl 40 _ _ rfl (l0.length : Int) rfl rfl Try.underlying40 (.agg #[(.int .i64 0), (.int .i64 0)]) 16 info100 rfl ψ15 ψ7 z100 (ok := fun _ => True) (okp := fun _ => True) (k100_mkM _ _ _ z100 ) (fun _ hk => hk) trivial (of_decide_eq_true ψ2) (Nat.le_trans (Nat.mul_le_mul_right _ (of_decide_eq_true ψ2 : (l0.length : Int).toNat ≤ 17592186044416)) ψ7) (Below.refl _ _) (Nat.le_refl _) ?_; intro v757 w4 ho5 hb hg_ hnew_; clear hg_ hnew_; (first | rw [← Ny756.out] at ho5 | (simp only [Int.reduceToNat] at ho5; rw [← Ny756.out] at ho5)); have q := n2_ (Kd.R_lower ho5 (below_size ψ59)) (below_step ψ59 hb); clear HB; obtain ⟨HO758, HB⟩ := q; clear hb ho5))
   go_loopg [4] k (fun kq v4 w' => ∃ (x3_1 : List (S100)) (x4_1 : Int), v4 = .int .i64 x4_1 ∧ Aside0 (laws_toTermS.l0 kq l0 x3_1 x4_1 = some r) ∧ Aside0 (kq ≤ k) ∧ Aside0 (Kd.R k100 100 w' w.heap.size (fun _ => True) v757 x3_1) ∧ Aside0 (Below w.heap.size w w'))
   case atStart => exact ⟨(y756), (0), ψ0, H', ⟨Nat.le_refl _⟩, ⟨by (with_reducible repeat (first | apply Kd.R_alloc | apply Kd.R_drewN | apply Kd.R_drew)); exact HO758.out⟩, ⟨ψ59⟩⟩
   case round =>
    clear H'
    try clear c2
    try clear c2b0
    try clear c2b1
    try clear p2
    try clear c3
    try clear c3b0
    try clear c3b1
    obtain ⟨x3_1, x4_1, rfl, HA, HK1, HO_3, HB⟩ := hrel
    cases gk with
    | zero => exact absurd HA.out (by simp [laws_toTermS.l0])
    | succ k1 =>
     have H := HA.out
     clear HA
     simp only [laws_toTermS.l0] at H
     replace H := ifD H; rcases H with ⟨c6b0, H⟩ | ⟨c6b0, H⟩
     ·replace H := ifN H; obtain ⟨c7b0, H⟩ := H
      replace H := Option.bind_eq_some_iff.mp H
      obtain ⟨⟨t760, t761⟩, A80, H⟩ := H
      have A8 := Aside0.mk A80
      clear A80
      replace H := ifN H; obtain ⟨c9b0, H⟩ := H
      obtain ⟨y762, hy762⟩ : ∃ y_ : List (S100), y_ = (x3_1.set (x4_1 : Int).toNat (⟨t760, t761⟩ : S100)) := ⟨_, rfl⟩
      replace H : (laws_toTermS.l0 k1 l0 y762 (wrap64 (x4_1 + 1))) = some r := by first | (rw [hy762]; with_reducible exact H) | (have H2_ := (Option.bind_some _ _).symm.trans H; rw [hy762]; with_reducible exact H2_) | (have H2_ := (Option.bind_some _ _).symm.trans H; with_reducible exact H2_) | with_reducible exact H | (rw [hy762]; exact H) | exact H
      have Ny762 := Aside0.mk hy762
      clear hy762
      have H' := Aside0.mk H
      clear H
      have p759 : 0 ≤ (x4_1 : Int) := of_decide_eq_true ψ2
      have q759 : x4_1 < (l0.length : Int) := of_decide_eq_true ψ2
      obtain ⟨ad759, e759, hx759_0, hx759_1⟩ := at_T102 HR0.out x4_1 p759 q759
      cases e759
      replace hx759_0 := (HB.out.cell (World.block_lt_of_cell? w _ hx759_0)).trans hx759_0
      replace hx759_1 := (HB.out.cell (World.block_lt_of_cell? w _ hx759_1)).trans hx759_1
      replace p759 := eq_true p759
      replace q759 := eq_true q759
      go_wp2_with (first | ((with_reducible refine gate_callee (f := 72) rfl ?_); refine gL 20 Try.func72 #[.agg #[.int .i64 ((rd_T102 l0 x4_1).f0), .int .i64 ((rd_T102 l0 x4_1).f1)]] ?_; (with_reducible refine (laws_toTerm.calls ((rd_T102 l0 x4_1).f0) ((rd_T102 l0 x4_1).f1) _ _ _ A8.out).mono ?_); rintro e w11 ⟨rfl, hb⟩; refine ⟨_, rfl, ?_⟩; have q := n2_ (Kd.R_below ψ116 hb) (below_step ψ59 hb); clear HO_3 HB; obtain ⟨HO_3, HB⟩ := q; (try clear hb); have p10 : 0 ≤ (x4_1 : Int) := of_decide_eq_true ψ2; have q10 : (x4_1 : Int) < ((x3_1.length : Int) : Int) := of_decide_eq_true ψ2; obtain ⟨go10, co10, eo10, gb10, gl10, cl10, HG10⟩ := Kd.R_form HO_3.out ψ7; (first | cases eo10 | (injection eo10 with ea_ en_ ec_; (first | subst ea_ | (injection ea_ with ea_; subst ea_)); subst ec_; clear en_)); have GB10 := Aside0.mk gb10; have GG10 := Aside0.mk HG10; clear gb10 gl10 HG10; obtain ⟨ce10, hcl10, hM10, hcc10, hfr10⟩ := Kd.R_elem HO_3.out z100 (x4_1 : Int) p10 q10; obtain rfl := k100_openM hM10; have hx10_0 : w11.cell? ⟨go10, (x4_1 : Int).toNat * 2, none⟩ = some (.int .i64 ((rd_T100 x3_1 x4_1).f0)) := hcc10 0 _ rfl; have hx10_1 : w11.cell? ⟨go10, (x4_1 : Int).toNat * 2 + 1, none⟩ = some (.int .i64 ((rd_T100 x3_1 x4_1).f1)) := hcc10 1 _ rfl; have hf10_0 : w11.frozen? ⟨go10, (x4_1 : Int).toNat * 2, none⟩ = false := hfr10 0; have hf10_1 : w11.frozen? ⟨go10, (x4_1 : Int).toNat * 2 + 1, none⟩ = false := hfr10 1; (try clear hcl10); (try clear hcc10); (try clear hfr10); (try clear hM10); replace p10 := eq_true p10; replace q10 := eq_true q10; have HX12 := Aside0.mk (show Kd.R k100 100 w11 w.heap.size (fun _ => True) (.slice (some ⟨go10, 0, none⟩) x3_1.length co10) x3_1 from ψ116); obtain ⟨ce12, hcl12, hM12, hcc12, hfr12⟩ := Kd.R_elem HX12.out z100 (x4_1 : Int) (of_decide_eq_true ψ2) (by have h_ : (x4_1 : Int) < ((x3_1.length : Int) : Int) := of_decide_eq_true ψ2; first | exact h_ | (have e_ := (Kd.R_reads' HO_3.out).1; omega) | simpa using h_); obtain rfl := k100_openM hM12; have HP12 := Kd.R_seg HX12.out (x4_1 : Int) (of_decide_eq_true ψ2) (by have h_ : (x4_1 : Int) < ((x3_1.length : Int) : Int) := of_decide_eq_true ψ2; first | exact h_ | (have e_ := (Kd.R_reads' HO_3.out).1; omega) | simpa using h_) (seg := [.int .i64 t760, .int .i64 t761]) (j := 0) hcl12 hcc12 (show 2 ≤ 2 from ψ15) (x' := (⟨t760, t761⟩ : S100)) (k100_mkM _ _ _ (⟨t760, t761⟩ : S100) ) (fun _ hk => hk); have hx12_0 := hcc12 0 _ rfl; (try simp only [show (k100).sz = 2 from rfl, Nat.mul_one, Nat.add_zero] at hx12_0); have hf12_0 := hfr12 0; (try simp only [show (k100).sz = 2 from rfl, Nat.mul_one, Nat.add_zero] at hf12_0); have hx12_1 := hcc12 1 _ rfl; (try simp only [show (k100).sz = 2 from rfl, Nat.mul_one, Nat.add_zero] at hx12_1); have hf12_1 := hfr12 1; (try simp only [show (k100).sz = 2 from rfl, Nat.mul_one, Nat.add_zero] at hf12_1); clear hcl12 hcc12 hfr12 hM12) | ((with_reducible refine gate_store (t := 100) (p := 21) rfl ?_); refine store_event (t := 100) (p := 21) (v := ?vo_w13) (w1 := ((w11.setCell ⟨go10, (x4_1 : Int).toNat * 2, none⟩ (.int .i64 t760)).setCell ⟨go10, (x4_1 : Int).toNat * 2 + 1, none⟩ (.int .i64 t761))) ?hg ?ho ?hn ?hr ?_; (case ho => rfl); (case hg => rfl); (case hn => rfl); (case hr => first | (go_simp; done) | (go_simp; rfl)); intro w13 hw; have hg : w11.grownBy w13 (some go10) := (by rw [hw]; exact HP12.2); have hp_ : Kd.R k100 100 w13 w.heap.size (fun _ => True) (.slice (some ⟨go10, 0, none⟩) x3_1.length co10) y762 := (by rw [hw, Ny762.out]; exact HP12.1); clear HP12; have q := n2_ (hp_) ((ψ117 : Below w.heap.size w w13)); clear HO_3 HB; obtain ⟨HO_3, HB⟩ := q; clear hg hw hp_))
      go_roundg k1
      case measure => have := HK1.out; omega
      case rel => exact ⟨(y762), (wrap64 (x4_1 + 1)), ψ0, H', ⟨ψ53⟩, ⟨ψ116⟩, ⟨ψ59⟩⟩
     ·obtain rfl := Option.some.inj H
      go_wp2
      go_ret
      exact ⟨_, ψ9, ψ116, ψ59⟩
  ·rw [if_neg c3] at H
   exact absurd H ψ8
 ·rw [if_neg c2] at H
  exact absurd H ψ8

/-! ### laws_toStmt: function 45 -/
def laws_toStmt.f (k : Nat) (a0_0 : Int) (a0_1 : Int) (l0_2 : List (S102)) (l0_3 : List (S102)) : Option (Int × Int × (List (S100)) × (List (S100))) := (laws_toTermS.f k l0_2).bind fun t769 => ((laws_toTermS.f k l0_3).bind fun t773 => (some (a0_0, a0_1, t769, t773)))
set_option maxHeartbeats 8000000 in
set_option maxRecDepth 100000 in
theorem laws_toStmt.calls (k : Nat) (a0_0 : Int) (a0_1 : Int) (A0_2 : Option Addr) (c0_2 : Nat) (l0_2 : List (S102)) (A0_3 : Option Addr) (c0_3 : Nat) (l0_3 : List (S102)) (r1 : Int) (r2 : Int) (r3 : List (S100)) (r4 : List (S100)) (w : World) (hr0_2 : Kd.C k102 w A0_2 l0_2.length l0_2) (hc0_2 : l0_2.length ≤ c0_2) (hr0_3 : Kd.C k102 w A0_3 l0_3.length l0_3) (hc0_3 : l0_3.length ≤ c0_3) (h : laws_toStmt.f k a0_0 a0_1 l0_2 l0_3 = some (r1, r2, r3, r4)) :
 Calls Try.prog 45 #[.agg #[.int .i64 a0_0, .int .i64 a0_1, .slice A0_2 l0_2.length c0_2, .slice A0_3 l0_3.length c0_3]] w fun e w' => ∃ v2_ v3_ : Value, e = .returned (.agg #[.int .i64 r1, .int .i64 r2, v2_, v3_]) ∧ Kd.R k100 100 w' w.heap.size (fun k_ => some k_ ≠ (v3_ : Value).ownBlock) v2_ r3 ∧ Kd.R k100 100 w' w.heap.size (fun k_ => some k_ ≠ (v2_ : Value).ownBlock) v3_ r4 ∧ Below w.heap.size w w' := by
 have hu64 := Try.underlying64
 have hu42 := Try.underlying42
 have HR0_2 := Aside0.mk hr0_2
 have HC0_2 := Aside0.mk hc0_2
 clear hr0_2 hc0_2
 have HR0_3 := Aside0.mk hr0_3
 have HC0_3 := Aside0.mk hc0_3
 clear hr0_3 hc0_3
 have HB := Aside0.mk (Below.refl w.heap.size w)
 have H : ((laws_toTermS.f k l0_2).bind fun t769 => ((laws_toTermS.f k l0_3).bind fun t773 => (some (a0_0, a0_1, t769, t773)))) = some (r1, r2, r3, r4) := h
 clear h
 replace H := Option.bind_eq_some_iff.mp H
 obtain ⟨t769, A20, H⟩ := H
 have A2 := Aside0.mk A20
 clear A20
 replace H := Option.bind_eq_some_iff.mp H
 obtain ⟨t773, A30, H⟩ := H
 have A3 := Aside0.mk A30
 clear A30
 simp only [Option.some.injEq, Prod.mk.injEq] at H
 obtain ⟨rfl, rfl, rfl, rfl⟩ := H
 go_enter Try.func45, Try.ntmps45
 go_wp2_with (first | ((with_reducible refine gate_dst (N := 1) rfl ?_); refine bE 1 #[.int .i64 a0_0, .int .i64 a0_1, .slice A0_2 l0_2.length c0_2, .slice A0_3 l0_3.length c0_3] 64 ?_; intro gb10 hg w4 hbox hb; have q := n4_ (below_step ψ114 hb) (hbox) ((ψ325 : w.heap.size ≤ gb10)) ((ψ325 : w.heap.size ≤ gb10)); clear HB; obtain ⟨HB, BK10, GW10, GE10⟩ := q; clear hb hbox hg) | ((with_reducible refine gate_dst (N := 2) rfl ?_); refine bE 2 #[.int .i64 0, .int .i64 0, .slice none 0 0, .slice none 0 0] 42 ?_; intro gb11 hg w5 hbox hb; have q := n7_ (blk_below (g := gb10) ψ23 hb) (below_step ψ114 hb) (hbox) ((ψ325 : w.heap.size ≤ gb11)) ((ψ325 : w.heap.size ≤ gb11)) ((ψ304 : gb10 ≠ gb11)) ((ψ305 : gb11 ≠ gb10)); clear BK10 HB; obtain ⟨BK10, HB, BK11, GW11, GE11, NB10_11, NB11_10⟩ := q; clear hb hbox hg) | ((with_reducible refine gate_dst (N := 3) rfl ?_); refine bE 3 #[.int .i64 0, .int .i64 0, .slice none 0 0, .slice none 0 0] 42 ?_; intro gb12 hg w6 hbox hb; have q := n10_ (blk_below (g := gb10) ψ23 hb) (blk_below (g := gb11) ψ34 hb) (below_step ψ114 hb) (hbox) ((ψ325 : w.heap.size ≤ gb12)) ((ψ325 : w.heap.size ≤ gb12)) ((ψ304 : gb10 ≠ gb12)) ((ψ305 : gb12 ≠ gb10)) ((ψ326 : gb11 ≠ gb12)) ((ψ327 : gb12 ≠ gb11)); clear BK10 BK11 HB; obtain ⟨BK10, BK11, HB, BK12, GW12, GE12, NB10_12, NB12_10, NB11_12, NB12_11⟩ := q; clear hb hbox hg; have hnb7 := NB10_11.out; have hnc7 := NB11_10.out; have hnb8 := NB10_12.out; have hnc8 := NB12_10.out; obtain ⟨y9_0, y9_1, y9_2, y9_3, u9_0, u9_1, u9_2, u9_3⟩ := cells4 BK10.out; have hnb10 := NB12_11.out; have hnc10 := NB11_12.out; obtain ⟨y11_0, y11_1, y11_2, y11_3, u11_0, u11_1, u11_2, u11_3⟩ := cells4 BK12.out) | ((with_reducible refine gate_callee (f := 35) rfl ?_); refine gL 12 Try.func35 #[.slice A0_2 l0_2.length c0_2] ?_; (with_reducible refine (laws_toTermS.calls k _ _ l0_2 _ _ ?_ ?_ A2.out).mono ?_); exact Kd.C_below HR0_2.out ψ114; exact HC0_2.out; rintro e w12 ⟨v770, rfl, ho0, hb⟩; refine ⟨_, rfl, ?_⟩; have q := n5_ (Kd.R_lower ho0 (below_size ψ114)) (blk_below (g := gb10) (o := .cells #[.int .i64 a0_0, .int .i64 a0_1, .slice A0_2 l0_2.length c0_2, .slice A0_3 l0_3.length c0_3] 64 (0, 0)) ψ118 hb) (blk_below (g := gb11) (o := .cells #[.int .i64 0, .int .i64 0, .slice none 0 0, .slice none 0 0] 42 (0, 0)) ψ119 hb) (blk_below (g := gb12) (o := .cells #[.int .i64 a0_0, .int .i64 a0_1, .slice none 0 0, .slice none 0 0] 42 (0, 0)) (by (with_reducible repeat (first | refine blk_drewN ?_ _ | refine blk_drew ?_ | refine blk_alloc ?_ _)); refine blk_put (cs := #[.int .i64 a0_0, .int .i64 0, .slice none 0 0, .slice none 0 0]) ?_ 1 _ rfl; (with_reducible repeat (first | refine blk_drewN ?_ _ | refine blk_drew ?_ | refine blk_alloc ?_ _)); refine blk_put (cs := #[.int .i64 0, .int .i64 0, .slice none 0 0, .slice none 0 0]) ?_ 0 _ rfl; (with_reducible repeat (first | refine blk_drewN ?_ _ | refine blk_drew ?_ | refine blk_alloc ?_ _)); exact BK12.out) hb) (below_step ψ114 hb); clear BK10 BK11 BK12 HB; obtain ⟨HO771, BK10, BK11, BK12, HB⟩ := q; (try clear hb); (try clear ho0); obtain ⟨Ao13, co13, eo13⟩ := Kd.R_slice HO771.out; subst eo13; obtain ⟨y14_0, y14_1, y14_2, y14_3, u14_0, u14_1, u14_2, u14_3⟩ := cells4 BK12.out; obtain ⟨y15_0, y15_1, y15_2, y15_3, u15_0, u15_1, u15_2, u15_3⟩ := cells4 BK10.out) | ((with_reducible refine gate_callee (f := 35) rfl ?_); refine gL 16 Try.func35 #[.slice A0_3 l0_3.length c0_3] ?_; (with_reducible refine (laws_toTermS.calls k _ _ l0_3 _ _ ?_ ?_ A3.out).mono ?_); exact Kd.C_below HR0_3.out ψ114; exact HC0_3.out; rintro e w16 ⟨v774, rfl, ho0, hb⟩; refine ⟨_, rfl, ?_⟩; have q := n6_ (Kd.R_elder' ψ328 (Kd.R_base ho0) hb) (Kd.R_lower (Kd.R_new' ho0 (Kd.R_lt ψ328)) (below_size ψ114)) (blk_below (g := gb10) (o := .cells #[.int .i64 a0_0, .int .i64 a0_1, .slice A0_2 l0_2.length c0_2, .slice A0_3 l0_3.length c0_3] 64 (0, 0)) ψ120 hb) (blk_below (g := gb11) (o := .cells #[.int .i64 0, .int .i64 0, .slice none 0 0, .slice none 0 0] 42 (0, 0)) ψ121 hb) (blk_below (g := gb12) (o := .cells #[.int .i64 a0_0, .int .i64 a0_1, .slice Ao13 t769.length co13, .slice none 0 0] 42 (0, 0)) (by (with_reducible repeat (first | refine blk_drewN ?_ _ | refine blk_drew ?_ | refine blk_alloc ?_ _)); refine blk_put (cs := #[.int .i64 a0_0, .int .i64 a0_1, .slice none 0 0, .slice none 0 0]) ?_ 2 _ rfl; (with_reducible repeat (first | refine blk_drewN ?_ _ | refine blk_drew ?_ | refine blk_alloc ?_ _)); exact BK12.out) hb) (below_step ψ114 hb); clear HO771 BK10 BK11 BK12 HB; obtain ⟨HO771, HO775, BK10, BK11, BK12, HB⟩ := q; (try clear hb); (try clear ho0); obtain ⟨Ao17, co17, eo17⟩ := Kd.R_slice HO775.out; subst eo17; obtain ⟨y18_0, y18_1, y18_2, y18_3, u18_0, u18_1, u18_2, u18_3⟩ := cells4 BK12.out; obtain ⟨y19_0, y19_1, y19_2, y19_3, u19_0, u19_1, u19_2, u19_3⟩ := cells4 BK11.out))
 refine bodyPost_ret (results_cell_row rfl _ _ gb11 42 #[.int .i64 a0_0, .int .i64 a0_1, .slice Ao13 t769.length co13, .slice Ao17 t773.length co17] (0, 0) _ rfl (by (with_reducible repeat (first | refine blk_drewN ?_ _ | refine blk_drew ?_ | refine blk_alloc ?_ _)); refine blk_put (cs := #[.int .i64 a0_0, .int .i64 a0_1, .slice Ao13 t769.length co13, .slice none 0 0]) ?_ 3 _ rfl; (with_reducible repeat (first | refine blk_drewN ?_ _ | refine blk_drew ?_ | refine blk_alloc ?_ _)); refine blk_put (cs := #[.int .i64 a0_0, .int .i64 a0_1, .slice none 0 0, .slice none 0 0]) ?_ 2 _ rfl; (with_reducible repeat (first | refine blk_drewN ?_ _ | refine blk_drew ?_ | refine blk_alloc ?_ _)); refine blk_put (cs := #[.int .i64 a0_0, .int .i64 0, .slice none 0 0, .slice none 0 0]) ?_ 1 _ rfl; (with_reducible repeat (first | refine blk_drewN ?_ _ | refine blk_drew ?_ | refine blk_alloc ?_ _)); refine blk_put (cs := #[.int .i64 0, .int .i64 0, .slice none 0 0, .slice none 0 0]) ?_ 0 _ rfl; (with_reducible repeat (first | refine blk_drewN ?_ _ | refine blk_drew ?_ | refine blk_alloc ?_ _)); refine blk_far ?_ NB11_12.out _; (with_reducible repeat (first | refine blk_drewN ?_ _ | refine blk_drew ?_ | refine blk_alloc ?_ _)); exact BK11.out) Try.underlying42 rfl ψ14) rfl ?_
 exact ⟨_, _, ψ9, by (with_reducible repeat (first | apply Kd.R_alloc | apply Kd.R_drewN | apply Kd.R_drew)); exact Kd.R_mono (Kd.R_far (p := ⟨gb11, 3, none⟩) (Kd.R_far (p := ⟨gb11, 2, none⟩) (Kd.R_far (p := ⟨gb11, 1, none⟩) (Kd.R_far (p := ⟨gb11, 0, none⟩) (Kd.R_far (p := ⟨gb12, 3, none⟩) (Kd.R_types (Kd.R_types HO771.out BK12.out ψ15) BK11.out ψ15) (fun _ hk => hk.1.2) (.slice Ao17 t773.length co17)) (fun _ hk => hk.2) (.int .i64 a0_0)) (fun _ hk => hk.2) (.int .i64 a0_1)) (fun _ hk => hk.2) (.slice Ao13 t769.length co13)) (fun _ hk => hk.2) (.slice Ao17 t773.length co17)) (fun _ hk => hk.1.1.2), by (with_reducible repeat (first | apply Kd.R_alloc | apply Kd.R_drewN | apply Kd.R_drew)); exact Kd.R_mono (Kd.R_far (p := ⟨gb11, 3, none⟩) (Kd.R_far (p := ⟨gb11, 2, none⟩) (Kd.R_far (p := ⟨gb11, 1, none⟩) (Kd.R_far (p := ⟨gb11, 0, none⟩) (Kd.R_far (p := ⟨gb12, 3, none⟩) (Kd.R_types (Kd.R_types HO775.out BK12.out ψ15) BK11.out ψ15) (fun _ hk => hk.1.2) (.slice Ao17 t773.length co17)) (fun _ hk => hk.2) (.int .i64 a0_0)) (fun _ hk => hk.2) (.int .i64 a0_1)) (fun _ hk => hk.2) (.slice Ao13 t769.length co13)) (fun _ hk => hk.2) (.slice Ao17 t773.length co17)) (fun _ hk => hk.1.1.2), ψ114⟩

/-! ### laws_toStmtS: function 14 -/
def laws_toStmtS.l0 : Nat → List (S64) → List (S42) → Int → Option ((List (S42)))
 | 0, _, _, _ => none
 | k + 1, x0, x3, x4 => if x4 < (x0.length : Int) then (if 0 ≤ x4 then ((laws_toStmt.f k ((rd_T64 x0 x4).f0) ((rd_T64 x0 x4).f1) ((rd_T64 x0 x4).f2) ((rd_T64 x0 x4).f3)).bind fun bt781 => (if x4 < (x3.length : Int) then (laws_toStmtS.l0 k x0 (x3.set (x4 : Int).toNat (⟨bt781.1, bt781.2.1, bt781.2.2.1, bt781.2.2.2⟩ : S42)) (wrap64 (x4 + 1))) else (none))) else (none)) else (some x3)
def laws_toStmtS.f (k : Nat) (l0 : List (S64)) : Option ((List (S42))) := if 0 ≤ (l0.length : Int) then (if ((l0.length : Int) : Int).toNat ≤ 4398046511104 then (laws_toStmtS.l0 k l0 (List.replicate ((l0.length : Int) : Int).toNat z42) 0) else (none)) else (none)
set_option maxHeartbeats 8000000 in
set_option maxRecDepth 100000 in
theorem laws_toStmtS.calls (k : Nat) (A0 : Option Addr) (c0 : Nat) (l0 : List (S64)) (r : List (S42)) (w : World) (hr0 : Kd.C k64 w A0 l0.length l0) (hc0 : l0.length ≤ c0) (h : laws_toStmtS.f k l0 = some r) :
 Calls Try.prog 14 #[.slice A0 l0.length c0] w fun e w' => ∃ v0_ : Value, e = .returned (v0_) ∧ Kd.S k42 42 w' w.heap.size (fun _ => True) v0_ r ∧ Below w.heap.size w w' := by
 have hu64 := Try.underlying64
 have hu42 := Try.underlying42
 have HR0 := Aside0.mk hr0
 have HC0 := Aside0.mk hc0
 clear hr0 hc0
 have HB := Aside0.mk (Below.refl w.heap.size w)
 have H : (if 0 ≤ (l0.length : Int) then (if ((l0.length : Int) : Int).toNat ≤ 4398046511104 then (laws_toStmtS.l0 k l0 (List.replicate ((l0.length : Int) : Int).toNat z42) 0) else (none)) else (none)) = some r := h
 clear h
 by_cases c2 : 0 ≤ (l0.length : Int)
 ·rw [if_pos c2] at H
  have c2b0 := eq_true c2
  have c2b1 : decide (0 ≤ (l0.length : Int)) = true := decide_eq_true c2
  clear c2
  by_cases c3 : ((l0.length : Int) : Int).toNat ≤ 4398046511104
  ·rw [if_pos c3] at H
   have c3b0 := eq_true c3
   have c3b1 : decide (((l0.length : Int) : Int).toNat ≤ 4398046511104) = true := decide_eq_true c3
   clear c3
   obtain ⟨y777, hy777⟩ : ∃ y_ : List (S42), y_ = (List.replicate ((l0.length : Int) : Int).toNat z42) := ⟨_, rfl⟩
   replace H : (laws_toStmtS.l0 k l0 y777 0) = some r := by first | (rw [hy777]; with_reducible exact H) | (have H2_ := (Option.bind_some _ _).symm.trans H; rw [hy777]; with_reducible exact H2_) | (have H2_ := (Option.bind_some _ _).symm.trans H; with_reducible exact H2_) | with_reducible exact H | (rw [hy777]; exact H) | exact H
   have Ny777 := Aside0.mk hy777
   clear hy777
   have H' := Aside0.mk H
   clear H
   go_enter Try.func14, Try.ntmps14
   go_wp2_with (first | ((with_reducible refine gate_dst (N := 7) rfl ?_); refine Kd.S_make k42 _ 42 rfl (N := 7) rfl 26 _ _ rfl (l0.length : Int) rfl rfl Try.underlying26 (.agg #[(.int .i64 0), (.int .i64 0), (.slice none 0 0), (.slice none 0 0)]) 64 info42 rfl ψ15 ψ7 z42 (ok := fun _ => True) (okp := fun _ => True) (k42_mkM _ _ _ z42 (Kd.R_nil _ _ _ _ _) (Kd.R_nil _ _ _ _ _)) (fun _ hk => hk) trivial (of_decide_eq_true ψ2) (Nat.le_trans (Nat.mul_le_mul_right _ (of_decide_eq_true ψ2 : (l0.length : Int).toNat ≤ 4398046511104)) ψ7) (Below.refl _ _) (Nat.le_refl _) ?_; intro v778 w4 ho5 hb hg_ hnew_; clear hg_ hnew_; (first | rw [← Ny777.out] at ho5 | (simp only [Int.reduceToNat] at ho5; rw [← Ny777.out] at ho5)); have q := n2_ (Kd.S_lower ho5 (below_size ψ59)) (below_step ψ59 hb); clear HB; obtain ⟨HO779, HB⟩ := q; clear hb ho5))
   go_loopg [4] k (fun kq v4 w' => ∃ (x3_1 : List (S42)) (x4_1 : Int), v4 = .int .i64 x4_1 ∧ Aside0 (laws_toStmtS.l0 kq l0 x3_1 x4_1 = some r) ∧ Aside0 (kq ≤ k) ∧ Aside0 (Kd.S k42 42 w' w.heap.size (fun _ => True) v778 x3_1) ∧ Aside0 (Below w.heap.size w w'))
   case atStart => exact ⟨(y777), (0), ψ0, H', ⟨Nat.le_refl _⟩, ⟨by (with_reducible repeat (first | apply Kd.S_alloc | apply Kd.S_drewN | apply Kd.S_drew)); exact HO779.out⟩, ⟨ψ59⟩⟩
   case round =>
    clear H'
    try clear c1
    try clear c2
    try clear c2b0
    try clear c2b1
    try clear p2
    try clear c3
    try clear c3b0
    try clear c3b1
    obtain ⟨x3_1, x4_1, rfl, HA, HK1, HO_3, HB⟩ := hrel
    cases gk with
    | zero => exact absurd HA.out (by simp [laws_toStmtS.l0])
    | succ k1 =>
     have H := HA.out
     clear HA
     simp only [laws_toStmtS.l0] at H
     replace H := ifD H; rcases H with ⟨c6b0, H⟩ | ⟨c6b0, H⟩
     ·replace H := ifN H; obtain ⟨c7b0, H⟩ := H
      replace H := Option.bind_eq_some_iff.mp H
      obtain ⟨⟨t781, t782, t783, t786⟩, A80, H⟩ := H
      have A8 := Aside0.mk A80
      clear A80
      replace H := ifN H; obtain ⟨c9b0, H⟩ := H
      obtain ⟨y789, hy789⟩ : ∃ y_ : List (S42), y_ = (x3_1.set (x4_1 : Int).toNat (⟨t781, t782, t783, t786⟩ : S42)) := ⟨_, rfl⟩
      replace H : (laws_toStmtS.l0 k1 l0 y789 (wrap64 (x4_1 + 1))) = some r := by first | (rw [hy789]; with_reducible exact H) | (have H2_ := (Option.bind_some _ _).symm.trans H; rw [hy789]; with_reducible exact H2_) | (have H2_ := (Option.bind_some _ _).symm.trans H; with_reducible exact H2_) | with_reducible exact H | (rw [hy789]; exact H) | exact H
      have Ny789 := Aside0.mk hy789
      clear hy789
      have H' := Aside0.mk H
      clear H
      have p780 : 0 ≤ (x4_1 : Int) := of_decide_eq_true ψ2
      have q780 : x4_1 < (l0.length : Int) := of_decide_eq_true ψ2
      obtain ⟨ad780, A780_2, c780_2, A780_3, c780_3, e780, hx780_0, hx780_1, hx780_2, hx780_3, hl780_2, hi780_2, hl780_3, hi780_3⟩ := at_T64 HR0.out x4_1 p780 q780
      cases e780
      replace hx780_0 := (HB.out.cell (World.block_lt_of_cell? w _ hx780_0)).trans hx780_0
      replace hx780_1 := (HB.out.cell (World.block_lt_of_cell? w _ hx780_1)).trans hx780_1
      replace hx780_2 := (HB.out.cell (World.block_lt_of_cell? w _ hx780_2)).trans hx780_2
      replace hx780_3 := (HB.out.cell (World.block_lt_of_cell? w _ hx780_3)).trans hx780_3
      have HR780_2 := Aside0.mk hi780_2
      have HC780_2 := Aside0.mk hl780_2
      clear hi780_2 hl780_2
      have HR780_3 := Aside0.mk hi780_3
      have HC780_3 := Aside0.mk hl780_3
      clear hi780_3 hl780_3
      replace p780 := eq_true p780
      replace q780 := eq_true q780
      go_wp2_with (first | ((with_reducible refine gate_callee (f := 45) rfl ?_); refine gL 20 Try.func45 #[.agg #[.int .i64 ((rd_T64 l0 x4_1).f0), .int .i64 ((rd_T64 l0 x4_1).f1), .slice A780_2 ((rd_T64 l0 x4_1).f2).length c780_2, .slice A780_3 ((rd_T64 l0 x4_1).f3).length c780_3]] ?_; (with_reducible refine (laws_toStmt.calls k1 ((rd_T64 l0 x4_1).f0) ((rd_T64 l0 x4_1).f1) _ _ ((rd_T64 l0 x4_1).f2) _ _ ((rd_T64 l0 x4_1).f3) _ _ _ _ _ ?_ ?_ ?_ ?_ A8.out).mono ?_); exact (by repeat (first | exact (Kd.C_below HR780_2.out HB.out) | (with_reducible refine Kd.C_alloc ?_ _) | (with_reducible refine Kd.C_drewN ?_ _) | (with_reducible refine Kd.C_drew ?_))); exact HC780_2.out; exact (by repeat (first | exact (Kd.C_below HR780_3.out HB.out) | (with_reducible refine Kd.C_alloc ?_ _) | (with_reducible refine Kd.C_drewN ?_ _) | (with_reducible refine Kd.C_drew ?_))); exact HC780_3.out; rintro e w11 ⟨v784, v787, rfl, ho0, ho1, hb⟩; refine ⟨_, rfl, ?_⟩; have q := n4_ (Kd.S_mono (Kd.S_told (Kd.S_told (Kd.S_old ψ122 hb) (Kd.R_base ho0)) (Kd.R_base ho1)) (fun _ h_ => h_.1)) (Kd.R_lower ho0 (below_size ψ59)) (Kd.R_lower ho1 (below_size ψ59)) (below_step ψ59 hb); clear HO_3 HB; obtain ⟨HO_3, HO785, HO788, HB⟩ := q; (try clear hb); (try clear ho0); (try clear ho1); have p10 : 0 ≤ (x4_1 : Int) := of_decide_eq_true ψ2; have q10 : (x4_1 : Int) < ((x3_1.length : Int) : Int) := of_decide_eq_true ψ2; obtain ⟨go10, co10, eo10, gb10, gl10, cl10, HG10⟩ := Kd.S_form HO_3.out ψ7; (first | cases eo10 | (injection eo10 with ea_ en_ ec_; (first | subst ea_ | (injection ea_ with ea_; subst ea_)); subst ec_; clear en_)); have GB10 := Aside0.mk gb10; have GG10 := Aside0.mk HG10; clear gb10 gl10 HG10; obtain ⟨_, ce10, hcl10, hM10, hcc10, hfr10, _, _⟩ := Kd.S_elem HO_3.out z42 (x4_1 : Int) p10 q10; obtain ⟨ve10_2, ve10_3, rfl, ge10_2, ge10_3⟩ := k42_openM hM10; have hx10_0 : w11.cell? ⟨go10, (x4_1 : Int).toNat * 4, none⟩ = some (.int .i64 ((rd_T42 x3_1 x4_1).f0)) := hcc10 0 _ rfl; have hx10_1 : w11.cell? ⟨go10, (x4_1 : Int).toNat * 4 + 1, none⟩ = some (.int .i64 ((rd_T42 x3_1 x4_1).f1)) := hcc10 1 _ rfl; have hx10_2 : w11.cell? ⟨go10, (x4_1 : Int).toNat * 4 + 2, none⟩ = some (ve10_2) := hcc10 2 _ rfl; have hx10_3 : w11.cell? ⟨go10, (x4_1 : Int).toNat * 4 + 3, none⟩ = some (ve10_3) := hcc10 3 _ rfl; have hf10_0 : w11.frozen? ⟨go10, (x4_1 : Int).toNat * 4, none⟩ = false := hfr10 0; have hf10_1 : w11.frozen? ⟨go10, (x4_1 : Int).toNat * 4 + 1, none⟩ = false := hfr10 1; have hf10_2 : w11.frozen? ⟨go10, (x4_1 : Int).toNat * 4 + 2, none⟩ = false := hfr10 2; have hf10_3 : w11.frozen? ⟨go10, (x4_1 : Int).toNat * 4 + 3, none⟩ = false := hfr10 3; (try clear hcl10); (try clear hcc10); (try clear hfr10); (try clear hM10); replace p10 := eq_true p10; replace q10 := eq_true q10; have n_ := Aside0.mk (Kd.S_mono (ok' := (fun k_ => some k_ ≠ (v784 : Value).ownBlock ∧ some k_ ≠ (v787 : Value).ownBlock)) HO_3.out (fun k_ hk => ⟨hk.1.2, hk.2⟩)); clear HO_3; have HO_3 := n_; clear n_; have HX12 := Aside0.mk (show Kd.S k42 42 w11 w.heap.size (fun k_ => ((fun _ => True)) k_ ∧ ¬ ((fun k_ => some k_ = (v784 : Value).ownBlock ∨ some k_ = (v787 : Value).ownBlock)) k_) (.slice (some ⟨go10, 0, none⟩) x3_1.length co10) x3_1 from (by (with_reducible repeat (first | apply Kd.S_alloc | apply Kd.S_drewN | apply Kd.S_drew)); exact Kd.S_mono HO_3.out (fun k_ hk => ⟨trivial, fun e_ => e_.elim (fun h_ => hk.1 h_) (fun h_ => hk.2 h_)⟩))); obtain ⟨oki12, ce12, hcl12, hM12, hcc12, hfr12, hoki12, hH12⟩ := Kd.S_elem HX12.out z42 (x4_1 : Int) (of_decide_eq_true ψ2) (by have h_ : (x4_1 : Int) < ((x3_1.length : Int) : Int) := of_decide_eq_true ψ2; first | exact h_ | (have e_ := (Kd.S_reads' HO_3.out).1; omega) | simpa using h_); obtain ⟨ve12_2, ve12_3, rfl, ge12_2, ge12_3⟩ := k42_openM hM12; have HP12 := Kd.S_seg hH12 (of_decide_eq_true ψ2) (by have h_ : (x4_1 : Int) < ((x3_1.length : Int) : Int) := of_decide_eq_true ψ2; first | exact h_ | (have e_ := (Kd.S_reads' HO_3.out).1; omega) | simpa using h_) (seg := [.int .i64 t781, .int .i64 t782, v784, v787]) (j := 0) (show 4 ≤ 4 from ψ15) (x' := (⟨t781, t782, t783, t786⟩ : S42)) (k42_mkM _ _ _ (⟨t781, t782, t783, t786⟩ : S42) (Kd.R_mono (Kd.R_tight rfl (Kd.R_mono (ok' := fun k_ => ((fun _ => True)) k_ ∧ k_ ≠ go10) (Kd.R_apart' (HO785.out) (Kd.S_typed HO_3.out) ψ15) (fun k_ hk => ⟨trivial, fun e_ => (hk.2) (by rw [e_]; rfl)⟩))) (fun _ h_ => Or.inr (Or.inl h_))) (Kd.R_mono (Kd.R_tight rfl (Kd.R_mono (ok' := fun k_ => ((fun _ => True)) k_ ∧ k_ ≠ go10) (Kd.R_apart' (HO788.out) (Kd.S_typed HO_3.out) ψ15) (fun k_ hk => ⟨trivial, fun e_ => (hk.2) (by rw [e_]; rfl)⟩))) (fun _ h_ => Or.inr (Or.inr (h_))))) (fun _ hk => hk) (fun k_ hk_ => hk_.elim (fun h_ => ((Kd.R_mono (ok' := fun k_ => ((fun _ => True)) k_ ∧ k_ ≠ go10) (Kd.R_apart' (HO785.out) (Kd.S_typed HO_3.out) ψ15) (fun k_ hk => ⟨trivial, fun e_ => (hk.2) (by rw [e_]; rfl)⟩))).1 k_ h_.symm) (fun h_ => ((Kd.R_mono (ok' := fun k_ => ((fun _ => True)) k_ ∧ k_ ≠ go10) (Kd.R_apart' (HO788.out) (Kd.S_typed HO_3.out) ψ15) (fun k_ hk => ⟨trivial, fun e_ => (hk.2) (by rw [e_]; rfl)⟩))).1 k_ h_.symm)); have hx12_0 := hcc12 0 _ rfl; (try simp only [show (k42).sz = 4 from rfl, Nat.mul_one, Nat.add_zero] at hx12_0); have hf12_0 := hfr12 0; (try simp only [show (k42).sz = 4 from rfl, Nat.mul_one, Nat.add_zero] at hf12_0); have hx12_1 := hcc12 1 _ rfl; (try simp only [show (k42).sz = 4 from rfl, Nat.mul_one, Nat.add_zero] at hx12_1); have hf12_1 := hfr12 1; (try simp only [show (k42).sz = 4 from rfl, Nat.mul_one, Nat.add_zero] at hf12_1); have hx12_2 := hcc12 2 _ rfl; (try simp only [show (k42).sz = 4 from rfl, Nat.mul_one, Nat.add_zero] at hx12_2); have hf12_2 := hfr12 2; (try simp only [show (k42).sz = 4 from rfl, Nat.mul_one, Nat.add_zero] at hf12_2); have hx12_3 := hcc12 3 _ rfl; (try simp only [show (k42).sz = 4 from rfl, Nat.mul_one, Nat.add_zero] at hx12_3); have hf12_3 := hfr12 3; (try simp only [show (k42).sz = 4 from rfl, Nat.mul_one, Nat.add_zero] at hf12_3); clear hcl12 hcc12 hfr12 hM12 hoki12 hH12) | ((with_reducible refine gate_store (t := 42) (p := 21) rfl ?_); have v784_hv_ : ∃ A_ n_ c_, v784 = .slice A_ n_ c_ := ψ123; obtain ⟨_, _, _, v784_hw_⟩ := v784_hv_; have v787_hv_ : ∃ A_ n_ c_, v787 = .slice A_ n_ c_ := ψ123; obtain ⟨_, _, _, v787_hw_⟩ := v787_hv_; refine store_event (t := 42) (p := 21) (v := ?vo_w13) (w1 := ((((w11.setCell ⟨go10, (x4_1 : Int).toNat * 4, none⟩ (.int .i64 t781)).setCell ⟨go10, (x4_1 : Int).toNat * 4 + 1, none⟩ (.int .i64 t782)).setCell ⟨go10, (x4_1 : Int).toNat * 4 + 2, none⟩ (v784)).setCell ⟨go10, (x4_1 : Int).toNat * 4 + 3, none⟩ (v787))) ?hg ?ho ?hn ?hr ?_; (case ho => rfl); (case hg => rfl); (case hn => rfl); (case hr => first | (go_simp; done) | (go_simp; rfl) | (simp only [v784_hw_, v787_hw_]; go_simp; done) | (simp only [v784_hw_, v787_hw_]; go_simp; rfl)); intro w13 hw; have hg : w11.grownBy w13 (some go10) := (by rw [hw]; exact HP12.2); have hp_ : Kd.S k42 42 w13 w.heap.size (fun _ => True) (.slice (some ⟨go10, 0, none⟩) x3_1.length co10) y789 := (by rw [hw, Ny789.out]; exact HP12.1); clear HP12; have q := n2_ (hp_) ((by rw [hw]; exact below_set (below_set (below_set (below_set (HB.out) GB10.out) GB10.out) GB10.out) GB10.out : Below w.heap.size w w13)); clear HO_3 HB HO785 HO788; obtain ⟨HO_3, HB⟩ := q; clear hg hw hp_))
      go_roundg k1
      case measure => have := HK1.out; omega
      case rel => exact ⟨(y789), (wrap64 (x4_1 + 1)), ψ0, H', ⟨ψ53⟩, ⟨ψ122⟩, ⟨ψ59⟩⟩
     ·obtain rfl := Option.some.inj H
      go_wp2
      go_ret
      exact ⟨_, ψ9, ψ122, ψ59⟩
  ·rw [if_neg c3] at H
   exact absurd H ψ8
 ·rw [if_neg c2] at H
  exact absurd H ψ8

/-! ### laws_toInt64S: function 39 -/
def laws_toInt64S.l0 : Nat → List Int → List Int → Int → Option (List Int)
 | 0, _, _, _ => none
 | k + 1, x0, x3, x4 => if x4 < (x0.length : Int) then (if 0 ≤ x4 then (if x4 < (x3.length : Int) then (laws_toInt64S.l0 k x0 (x3.set (x4 : Int).toNat (rd x0 x4)) (wrap64 (x4 + 1))) else (none)) else (none)) else (some x3)
def laws_toInt64S.f (k : Nat) (l0 : List Int) : Option (List Int) := if 0 ≤ (l0.length : Int) then (if ((l0.length : Int) : Int).toNat ≤ 35184372088832 then (laws_toInt64S.l0 k l0 (List.replicate ((l0.length : Int) : Int).toNat 0) 0) else (none)) else (none)
set_option maxHeartbeats 8000000 in
set_option maxRecDepth 100000 in
theorem laws_toInt64S.calls (k : Nat) (A0 : Option Addr) (c0 : Nat) (l0 : List Int) (r : List Int) (w : World) (hr0 : Kd.C (Kd.int .i64) w A0 l0.length l0) (hc0 : l0.length ≤ c0) (h : laws_toInt64S.f k l0 = some r) :
 Calls Try.prog 39 #[.slice A0 l0.length c0] w fun e w' => ∃ v0_ : Value, e = .returned (v0_) ∧ Kd.R (Kd.int .i64) 2 w' w.heap.size (fun _ => True) v0_ r ∧ Below w.heap.size w w' := by
 have HR0 := Aside0.mk hr0
 have HC0 := Aside0.mk hc0
 clear hr0 hc0
 have HB := Aside0.mk (Below.refl w.heap.size w)
 have H : (if 0 ≤ (l0.length : Int) then (if ((l0.length : Int) : Int).toNat ≤ 35184372088832 then (laws_toInt64S.l0 k l0 (List.replicate ((l0.length : Int) : Int).toNat 0) 0) else (none)) else (none)) = some r := h
 clear h
 by_cases c2 : 0 ≤ (l0.length : Int)
 ·rw [if_pos c2] at H
  have c2b0 := eq_true c2
  have c2b1 : decide (0 ≤ (l0.length : Int)) = true := decide_eq_true c2
  clear c2
  by_cases c3 : ((l0.length : Int) : Int).toNat ≤ 35184372088832
  ·rw [if_pos c3] at H
   have c3b0 := eq_true c3
   have c3b1 : decide (((l0.length : Int) : Int).toNat ≤ 35184372088832) = true := decide_eq_true c3
   clear c3
   obtain ⟨y790, hy790⟩ : ∃ y_ : List Int, y_ = (List.replicate ((l0.length : Int) : Int).toNat 0) := ⟨_, rfl⟩
   replace H : (laws_toInt64S.l0 k l0 y790 0) = some r := by first | (rw [hy790]; with_reducible exact H) | (have H2_ := (Option.bind_some _ _).symm.trans H; rw [hy790]; with_reducible exact H2_) | (have H2_ := (Option.bind_some _ _).symm.trans H; with_reducible exact H2_) | with_reducible exact H | (rw [hy790]; exact H) | exact H
   have Ny790 := Aside0.mk hy790
   clear hy790
   have H' := Aside0.mk H
   clear H
   go_enter Try.func39, Try.ntmps39
   go_wp2_with (first | ((with_reducible refine gate_dst (N := 7) rfl ?_); refine Kd.R_make (Kd.int .i64) _ 2 rfl (N := 7) rfl 33 _ _ rfl (l0.length : Int) rfl rfl Try.underlying33 (.int .i64 0) 8 info2 rfl ψ15 ψ7 0 (ok := fun _ => True) (okp := fun _ => True) rfl (fun _ hk => hk) trivial (of_decide_eq_true ψ2) (Nat.le_trans (Nat.mul_le_mul_right _ (of_decide_eq_true ψ2 : (l0.length : Int).toNat ≤ 35184372088832)) ψ7) (Below.refl _ _) (Nat.le_refl _) ?_; intro v791 w4 ho5 hb hg_ hnew_; clear hg_ hnew_; (first | rw [← Ny790.out] at ho5 | (simp only [Int.reduceToNat] at ho5; rw [← Ny790.out] at ho5)); have q := n2_ (Kd.R_lower ho5 (below_size ψ59)) (below_step ψ59 hb); clear HB; obtain ⟨HO792, HB⟩ := q; clear hb ho5))
   go_loopg [4] k (fun kq v4 w' => ∃ (x3_1 : List Int) (x4_1 : Int), v4 = .int .i64 x4_1 ∧ Aside0 (laws_toInt64S.l0 kq l0 x3_1 x4_1 = some r) ∧ Aside0 (kq ≤ k) ∧ Aside0 (Kd.R (Kd.int .i64) 2 w' w.heap.size (fun _ => True) v791 x3_1) ∧ Aside0 (Below w.heap.size w w'))
   case atStart => exact ⟨(y790), (0), ψ0, H', ⟨Nat.le_refl _⟩, ⟨by (with_reducible repeat (first | apply Kd.R_alloc | apply Kd.R_drewN | apply Kd.R_drew)); exact HO792.out⟩, ⟨ψ59⟩⟩
   case round =>
    clear H'
    try clear c2
    try clear c2b0
    try clear c2b1
    try clear p2
    try clear c3
    try clear c3b0
    try clear c3b1
    obtain ⟨x3_1, x4_1, rfl, HA, HK1, HO_3, HB⟩ := hrel
    cases gk with
    | zero => exact absurd HA.out (by simp [laws_toInt64S.l0])
    | succ k1 =>
     have H := HA.out
     clear HA
     simp only [laws_toInt64S.l0] at H
     replace H := ifD H; rcases H with ⟨c6b0, H⟩ | ⟨c6b0, H⟩
     ·replace H := ifN H; obtain ⟨c7b0, H⟩ := H
      replace H := ifN H; obtain ⟨c8b0, H⟩ := H
      obtain ⟨y794, hy794⟩ : ∃ y_ : List Int, y_ = (x3_1.set (x4_1 : Int).toNat (rd l0 x4_1)) := ⟨_, rfl⟩
      replace H : (laws_toInt64S.l0 k1 l0 y794 (wrap64 (x4_1 + 1))) = some r := by first | (rw [hy794]; with_reducible exact H) | (have H2_ := (Option.bind_some _ _).symm.trans H; rw [hy794]; with_reducible exact H2_) | (have H2_ := (Option.bind_some _ _).symm.trans H; with_reducible exact H2_) | with_reducible exact H | (rw [hy794]; exact H) | exact H
      have Ny794 := Aside0.mk hy794
      clear hy794
      have H' := Aside0.mk H
      clear H
      have p793 : 0 ≤ (x4_1 : Int) := of_decide_eq_true ψ2
      have q793 : x4_1 < (l0.length : Int) := of_decide_eq_true ψ2
      obtain ⟨ad793, e793, hx793_0⟩ := Kd.at_int HR0.out x4_1 p793 q793
      cases e793
      replace hx793_0 := (HB.out.cell (World.block_lt_of_cell? w _ hx793_0)).trans hx793_0
      replace p793 := eq_true p793
      replace q793 := eq_true q793
      have p9 : 0 ≤ (x4_1 : Int) := of_decide_eq_true ψ2
      have q9 : (x4_1 : Int) < ((x3_1.length : Int) : Int) := of_decide_eq_true ψ2
      obtain ⟨go9, co9, eo9, gb10, gl9, cl9, HG9⟩ := Kd.R_form HO_3.out ψ7
      (first | cases eo9 | (injection eo9 with ea_ en_ ec_; (first | subst ea_ | (injection ea_ with ea_; subst ea_)); subst ec_; clear en_))
      have GB9 := Aside0.mk gb10
      have GG9 := Aside0.mk HG9
      clear gb10 gl9 HG9
      obtain ⟨hx9_0, hf9_0⟩ := Kd.R_celln 0 HO_3.out (x4_1 : Int) p9 q9
      replace p9 := eq_true p9
      replace q9 := eq_true q9
      have HP10 := Kd.R_putg HO_3.out (x4_1 : Int) (rd l0 x4_1)
      go_wp2_with (first | ((with_reducible refine gate_store (t := 2) (p := 20) rfl ?_); refine store_event (t := 2) (p := 20) (v := ?vo_w11) (w1 := (wr.setCell ⟨go9, (x4_1 : Int).toNat, none⟩ (.int .i64 (rd l0 x4_1)))) ?hg ?ho ?hn ?hr ?_; (case ho => rfl); (case hg => rfl); (case hn => rfl); (case hr => first | (go_simp; done) | (go_simp; rfl)); intro w11 hw; have hg : wr.grownBy w11 (some go9) := (by rw [hw]; exact HP10.2); have hp_ : Kd.R (Kd.int .i64) 2 w11 w.heap.size (fun _ => True) (.slice (some ⟨go9, 0, none⟩) x3_1.length co9) y794 := (by rw [hw, Ny794.out]; exact HP10.1); clear HP10; have q := n2_ (hp_) ((by rw [hw]; exact below_set (HB.out) GB9.out : Below w.heap.size w w11)); clear HO_3 HB; obtain ⟨HO_3, HB⟩ := q; clear hg hw hp_))
      go_roundg k1
      case measure => have := HK1.out; omega
      case rel => exact ⟨(y794), (wrap64 (x4_1 + 1)), ψ0, H', ⟨ψ53⟩, ⟨ψ116⟩, ⟨ψ59⟩⟩
     ·obtain rfl := Option.some.inj H
      go_wp2
      go_ret
      exact ⟨_, ψ9, ψ116, ψ59⟩
  ·rw [if_neg c3] at H
   exact absurd H ψ8
 ·rw [if_neg c2] at H
  exact absurd H ψ8

/-! ### laws_toInput: function 87 -/
def laws_toInput.f (a0_0 : Int) (a0_1 : Int) : Option (Int × Int) := some (a0_0, a0_1)
set_option maxHeartbeats 8000000 in
set_option maxRecDepth 100000 in
theorem laws_toInput.calls (a0_0 : Int) (a0_1 : Int) (r1 : Int) (r2 : Int) (w : World) (h : laws_toInput.f a0_0 a0_1 = some (r1, r2)) :
 Calls Try.prog 87 #[.agg #[.int .i64 a0_0, .int .i64 a0_1]] w fun e w' => e = .returned (.agg #[.int .i64 r1, .int .i64 r2]) ∧ Below w.heap.size w w' := by
 have hu120 := Try.underlying120
 have hu77 := Try.underlying77
 have HB := Aside0.mk (Below.refl w.heap.size w)
 have H : (some (a0_0, a0_1)) = some (r1, r2) := h
 clear h
 simp only [Option.some.injEq, Prod.mk.injEq] at H
 obtain ⟨rfl, rfl⟩ := H
 go_enter Try.func87, Try.ntmps87
 go_wp2_with (first | ((with_reducible refine gate_dst (N := 1) rfl ?_); refine bE 1 #[.int .i64 a0_0, .int .i64 a0_1] 120 ?_; intro gb10 hg w2 hbox hb; have q := n4_ (below_step ψ114 hb) (hbox) ((ψ325 : w.heap.size ≤ gb10)) ((ψ325 : w.heap.size ≤ gb10)); clear HB; obtain ⟨HB, BK10, GW10, GE10⟩ := q; clear hb hbox hg) | ((with_reducible refine gate_dst (N := 2) rfl ?_); refine bE 2 #[.int .i64 0, .int .i64 0] 77 ?_; intro gb11 hg w3 hbox hb; have q := n7_ (blk_below (g := gb10) ψ23 hb) (below_step ψ114 hb) (hbox) ((ψ325 : w.heap.size ≤ gb11)) ((ψ325 : w.heap.size ≤ gb11)) ((ψ304 : gb10 ≠ gb11)) ((ψ305 : gb11 ≠ gb10)); clear BK10 HB; obtain ⟨BK10, HB, BK11, GW11, GE11, NB10_11, NB11_10⟩ := q; clear hb hbox hg) | ((with_reducible refine gate_dst (N := 3) rfl ?_); refine bE 3 #[.int .i64 0, .int .i64 0] 77 ?_; intro gb12 hg w4 hbox hb; have q := n10_ (blk_below (g := gb10) ψ23 hb) (blk_below (g := gb11) ψ34 hb) (below_step ψ114 hb) (hbox) ((ψ325 : w.heap.size ≤ gb12)) ((ψ325 : w.heap.size ≤ gb12)) ((ψ304 : gb10 ≠ gb12)) ((ψ305 : gb12 ≠ gb10)) ((ψ326 : gb11 ≠ gb12)) ((ψ327 : gb12 ≠ gb11)); clear BK10 BK11 HB; obtain ⟨BK10, BK11, HB, BK12, GW12, GE12, NB10_12, NB12_10, NB11_12, NB12_11⟩ := q; clear hb hbox hg; have hnb5 := NB10_11.out; have hnc5 := NB11_10.out; have hnb6 := NB10_12.out; have hnc6 := NB12_10.out; obtain ⟨y7_0, y7_1, u7_0, u7_1⟩ := cells2 BK10.out; have hnb8 := NB12_11.out; have hnc8 := NB11_12.out; obtain ⟨y9_0, y9_1, u9_0, u9_1⟩ := cells2 BK12.out; obtain ⟨y10_0, y10_1, u10_0, u10_1⟩ := cells2 BK11.out))
 refine bodyPost_ret (results_cell_row rfl _ _ gb11 77 #[.int .i64 a0_0, .int .i64 a0_1] (0, 0) _ rfl ψ115 Try.underlying77 rfl ψ14) rfl ?_
 exact ⟨ψ9, ψ114⟩

/-! ### laws_toInputS: function 59 -/
def laws_toInputS.l0 : Nat → List (S120) → List (S77) → Int → Option ((List (S77)))
 | 0, _, _, _ => none
 | k + 1, x0, x3, x4 => if x4 < (x0.length : Int) then (if 0 ≤ x4 then ((laws_toInput.f ((rd_T120 x0 x4).f0) ((rd_T120 x0 x4).f1)).bind fun bt805 => (if x4 < (x3.length : Int) then (laws_toInputS.l0 k x0 (x3.set (x4 : Int).toNat (⟨bt805.1, bt805.2⟩ : S77)) (wrap64 (x4 + 1))) else (none))) else (none)) else (some x3)
def laws_toInputS.f (k : Nat) (l0 : List (S120)) : Option ((List (S77))) := if 0 ≤ (l0.length : Int) then (if ((l0.length : Int) : Int).toNat ≤ 17592186044416 then (laws_toInputS.l0 k l0 (List.replicate ((l0.length : Int) : Int).toNat z77) 0) else (none)) else (none)
set_option maxHeartbeats 8000000 in
set_option maxRecDepth 100000 in
theorem laws_toInputS.calls (k : Nat) (A0 : Option Addr) (c0 : Nat) (l0 : List (S120)) (r : List (S77)) (w : World) (hr0 : Kd.C k120 w A0 l0.length l0) (hc0 : l0.length ≤ c0) (h : laws_toInputS.f k l0 = some r) :
 Calls Try.prog 59 #[.slice A0 l0.length c0] w fun e w' => ∃ v0_ : Value, e = .returned (v0_) ∧ Kd.R k77 77 w' w.heap.size (fun _ => True) v0_ r ∧ Below w.heap.size w w' := by
 have hu120 := Try.underlying120
 have hu77 := Try.underlying77
 have HR0 := Aside0.mk hr0
 have HC0 := Aside0.mk hc0
 clear hr0 hc0
 have HB := Aside0.mk (Below.refl w.heap.size w)
 have H : (if 0 ≤ (l0.length : Int) then (if ((l0.length : Int) : Int).toNat ≤ 17592186044416 then (laws_toInputS.l0 k l0 (List.replicate ((l0.length : Int) : Int).toNat z77) 0) else (none)) else (none)) = some r := h
 clear h
 by_cases c2 : 0 ≤ (l0.length : Int)
 ·rw [if_pos c2] at H
  have c2b0 := eq_true c2
  have c2b1 : decide (0 ≤ (l0.length : Int)) = true := decide_eq_true c2
  clear c2
  by_cases c3 : ((l0.length : Int) : Int).toNat ≤ 17592186044416
  ·rw [if_pos c3] at H
   have c3b0 := eq_true c3
   have c3b1 : decide (((l0.length : Int) : Int).toNat ≤ 17592186044416) = true := decide_eq_true c3
   clear c3
   obtain ⟨y801, hy801⟩ : ∃ y_ : List (S77), y_ = (List.replicate ((l0.length : Int) : Int).toNat z77) := ⟨_, rfl⟩
   replace H : (laws_toInputS.l0 k l0 y801 0) = some r := by first | (rw [hy801]; with_reducible exact H) | (have H2_ := (Option.bind_some _ _).symm.trans H; rw [hy801]; with_reducible exact H2_) | (have H2_ := (Option.bind_some _ _).symm.trans H; with_reducible exact H2_) | with_reducible exact H | (rw [hy801]; exact H) | exact H
   have Ny801 := Aside0.mk hy801
   clear hy801
   have H' := Aside0.mk H
   clear H
   go_enter Try.func59, Try.ntmps59
   go_wp2_with (first | ((with_reducible refine gate_dst (N := 7) rfl ?_); refine Kd.R_make k77 _ 77 rfl (N := 7) rfl 32 _ _ rfl (l0.length : Int) rfl rfl Try.underlying32 (.agg #[(.int .i64 0), (.int .i64 0)]) 16 info77 rfl ψ15 ψ7 z77 (ok := fun _ => True) (okp := fun _ => True) (k77_mkM _ _ _ z77 ) (fun _ hk => hk) trivial (of_decide_eq_true ψ2) (Nat.le_trans (Nat.mul_le_mul_right _ (of_decide_eq_true ψ2 : (l0.length : Int).toNat ≤ 17592186044416)) ψ7) (Below.refl _ _) (Nat.le_refl _) ?_; intro v802 w4 ho5 hb hg_ hnew_; clear hg_ hnew_; (first | rw [← Ny801.out] at ho5 | (simp only [Int.reduceToNat] at ho5; rw [← Ny801.out] at ho5)); have q := n2_ (Kd.R_lower ho5 (below_size ψ59)) (below_step ψ59 hb); clear HB; obtain ⟨HO803, HB⟩ := q; clear hb ho5))
   go_loopg [4] k (fun kq v4 w' => ∃ (x3_1 : List (S77)) (x4_1 : Int), v4 = .int .i64 x4_1 ∧ Aside0 (laws_toInputS.l0 kq l0 x3_1 x4_1 = some r) ∧ Aside0 (kq ≤ k) ∧ Aside0 (Kd.R k77 77 w' w.heap.size (fun _ => True) v802 x3_1) ∧ Aside0 (Below w.heap.size w w'))
   case atStart => exact ⟨(y801), (0), ψ0, H', ⟨Nat.le_refl _⟩, ⟨by (with_reducible repeat (first | apply Kd.R_alloc | apply Kd.R_drewN | apply Kd.R_drew)); exact HO803.out⟩, ⟨ψ59⟩⟩
   case round =>
    clear H'
    try clear c2
    try clear c2b0
    try clear c2b1
    try clear p2
    try clear c3
    try clear c3b0
    try clear c3b1
    try clear c5
    obtain ⟨x3_1, x4_1, rfl, HA, HK1, HO_3, HB⟩ := hrel
    cases gk with
    | zero => exact absurd HA.out (by simp [laws_toInputS.l0])
    | succ k1 =>
     have H := HA.out
     clear HA
     simp only [laws_toInputS.l0] at H
     replace H := ifD H; rcases H with ⟨c6b0, H⟩ | ⟨c6b0, H⟩
     ·replace H := ifN H; obtain ⟨c7b0, H⟩ := H
      replace H := Option.bind_eq_some_iff.mp H
      obtain ⟨⟨t805, t806⟩, A80, H⟩ := H
      have A8 := Aside0.mk A80
      clear A80
      replace H := ifN H; obtain ⟨c9b0, H⟩ := H
      obtain ⟨y807, hy807⟩ : ∃ y_ : List (S77), y_ = (x3_1.set (x4_1 : Int).toNat (⟨t805, t806⟩ : S77)) := ⟨_, rfl⟩
      replace H : (laws_toInputS.l0 k1 l0 y807 (wrap64 (x4_1 + 1))) = some r := by first | (rw [hy807]; with_reducible exact H) | (have H2_ := (Option.bind_some _ _).symm.trans H; rw [hy807]; with_reducible exact H2_) | (have H2_ := (Option.bind_some _ _).symm.trans H; with_reducible exact H2_) | with_reducible exact H | (rw [hy807]; exact H) | exact H
      have Ny807 := Aside0.mk hy807
      clear hy807
      have H' := Aside0.mk H
      clear H
      have p804 : 0 ≤ (x4_1 : Int) := of_decide_eq_true ψ2
      have q804 : x4_1 < (l0.length : Int) := of_decide_eq_true ψ2
      obtain ⟨ad804, e804, hx804_0, hx804_1⟩ := at_T120 HR0.out x4_1 p804 q804
      cases e804
      replace hx804_0 := (HB.out.cell (World.block_lt_of_cell? w _ hx804_0)).trans hx804_0
      replace hx804_1 := (HB.out.cell (World.block_lt_of_cell? w _ hx804_1)).trans hx804_1
      replace p804 := eq_true p804
      replace q804 := eq_true q804
      go_wp2_with (first | ((with_reducible refine gate_callee (f := 87) rfl ?_); refine gL 20 Try.func87 #[.agg #[.int .i64 ((rd_T120 l0 x4_1).f0), .int .i64 ((rd_T120 l0 x4_1).f1)]] ?_; (with_reducible refine (laws_toInput.calls ((rd_T120 l0 x4_1).f0) ((rd_T120 l0 x4_1).f1) _ _ _ A8.out).mono ?_); rintro e w11 ⟨rfl, hb⟩; refine ⟨_, rfl, ?_⟩; have q := n2_ (Kd.R_below ψ116 hb) (below_step ψ59 hb); clear HO_3 HB; obtain ⟨HO_3, HB⟩ := q; (try clear hb); have p10 : 0 ≤ (x4_1 : Int) := of_decide_eq_true ψ2; have q10 : (x4_1 : Int) < ((x3_1.length : Int) : Int) := of_decide_eq_true ψ2; obtain ⟨go10, co10, eo10, gb10, gl10, cl10, HG10⟩ := Kd.R_form HO_3.out ψ7; (first | cases eo10 | (injection eo10 with ea_ en_ ec_; (first | subst ea_ | (injection ea_ with ea_; subst ea_)); subst ec_; clear en_)); have GB10 := Aside0.mk gb10; have GG10 := Aside0.mk HG10; clear gb10 gl10 HG10; obtain ⟨ce10, hcl10, hM10, hcc10, hfr10⟩ := Kd.R_elem HO_3.out z77 (x4_1 : Int) p10 q10; obtain rfl := k77_openM hM10; have hx10_0 : w11.cell? ⟨go10, (x4_1 : Int).toNat * 2, none⟩ = some (.int .i64 ((rd_T77 x3_1 x4_1).f0)) := hcc10 0 _ rfl; have hx10_1 : w11.cell? ⟨go10, (x4_1 : Int).toNat * 2 + 1, none⟩ = some (.int .i64 ((rd_T77 x3_1 x4_1).f1)) := hcc10 1 _ rfl; have hf10_0 : w11.frozen? ⟨go10, (x4_1 : Int).toNat * 2, none⟩ = false := hfr10 0; have hf10_1 : w11.frozen? ⟨go10, (x4_1 : Int).toNat * 2 + 1, none⟩ = false := hfr10 1; (try clear hcl10); (try clear hcc10); (try clear hfr10); (try clear hM10); replace p10 := eq_true p10; replace q10 := eq_true q10; have HX12 := Aside0.mk (show Kd.R k77 77 w11 w.heap.size (fun _ => True) (.slice (some ⟨go10, 0, none⟩) x3_1.length co10) x3_1 from ψ116); obtain ⟨ce12, hcl12, hM12, hcc12, hfr12⟩ := Kd.R_elem HX12.out z77 (x4_1 : Int) (of_decide_eq_true ψ2) (by have h_ : (x4_1 : Int) < ((x3_1.length : Int) : Int) := of_decide_eq_true ψ2; first | exact h_ | (have e_ := (Kd.R_reads' HO_3.out).1; omega) | simpa using h_); obtain rfl := k77_openM hM12; have HP12 := Kd.R_seg HX12.out (x4_1 : Int) (of_decide_eq_true ψ2) (by have h_ : (x4_1 : Int) < ((x3_1.length : Int) : Int) := of_decide_eq_true ψ2; first | exact h_ | (have e_ := (Kd.R_reads' HO_3.out).1; omega) | simpa using h_) (seg := [.int .i64 t805, .int .i64 t806]) (j := 0) hcl12 hcc12 (show 2 ≤ 2 from ψ15) (x' := (⟨t805, t806⟩ : S77)) (k77_mkM _ _ _ (⟨t805, t806⟩ : S77) ) (fun _ hk => hk); have hx12_0 := hcc12 0 _ rfl; (try simp only [show (k77).sz = 2 from rfl, Nat.mul_one, Nat.add_zero] at hx12_0); have hf12_0 := hfr12 0; (try simp only [show (k77).sz = 2 from rfl, Nat.mul_one, Nat.add_zero] at hf12_0); have hx12_1 := hcc12 1 _ rfl; (try simp only [show (k77).sz = 2 from rfl, Nat.mul_one, Nat.add_zero] at hx12_1); have hf12_1 := hfr12 1; (try simp only [show (k77).sz = 2 from rfl, Nat.mul_one, Nat.add_zero] at hf12_1); clear hcl12 hcc12 hfr12 hM12) | ((with_reducible refine gate_store (t := 77) (p := 21) rfl ?_); refine store_event (t := 77) (p := 21) (v := ?vo_w13) (w1 := ((w11.setCell ⟨go10, (x4_1 : Int).toNat * 2, none⟩ (.int .i64 t805)).setCell ⟨go10, (x4_1 : Int).toNat * 2 + 1, none⟩ (.int .i64 t806))) ?hg ?ho ?hn ?hr ?_; (case ho => rfl); (case hg => rfl); (case hn => rfl); (case hr => first | (go_simp; done) | (go_simp; rfl)); intro w13 hw; have hg : w11.grownBy w13 (some go10) := (by rw [hw]; exact HP12.2); have hp_ : Kd.R k77 77 w13 w.heap.size (fun _ => True) (.slice (some ⟨go10, 0, none⟩) x3_1.length co10) y807 := (by rw [hw, Ny807.out]; exact HP12.1); clear HP12; have q := n2_ (hp_) ((ψ117 : Below w.heap.size w w13)); clear HO_3 HB; obtain ⟨HO_3, HB⟩ := q; clear hg hw hp_))
      go_roundg k1
      case measure => have := HK1.out; omega
      case rel => exact ⟨(y807), (wrap64 (x4_1 + 1)), ψ0, H', ⟨ψ53⟩, ⟨ψ116⟩, ⟨ψ59⟩⟩
     ·obtain rfl := Option.some.inj H
      go_wp2
      go_ret
      exact ⟨_, ψ9, ψ116, ψ59⟩
  ·rw [if_neg c3] at H
   exact absurd H ψ8
 ·rw [if_neg c2] at H
  exact absurd H ψ8

/-! ### laws_toProg: function 22 -/
def laws_toProg.f (k : Nat) (a0_0 : Int) (l0_1 : List (S120)) (l0_2 : List (S120)) (a0_3 : Int) (l0_4 : List Int) (l0_5 : List (S64)) : Option (Int × (List (S77)) × (List (S77)) × Int × List Int × (List (S42))) := (laws_toInputS.f k l0_1).bind fun t813 => ((laws_toInputS.f k l0_2).bind fun t817 => ((laws_toInt64S.f k l0_4).bind fun t822 => ((laws_toStmtS.f k l0_5).bind fun t826 => (some (a0_0, t813, t817, a0_3, t822, t826)))))
set_option maxHeartbeats 8000000 in
set_option maxRecDepth 100000 in
theorem laws_toProg.calls (k : Nat) (a0_0 : Int) (A0_1 : Option Addr) (c0_1 : Nat) (l0_1 : List (S120)) (A0_2 : Option Addr) (c0_2 : Nat) (l0_2 : List (S120)) (a0_3 : Int) (A0_4 : Option Addr) (c0_4 : Nat) (l0_4 : List Int) (A0_5 : Option Addr) (c0_5 : Nat) (l0_5 : List (S64)) (r1 : Int) (r2 : List (S77)) (r3 : List (S77)) (r4 : Int) (r5 : List Int) (r6 : List (S42)) (w : World) (hr0_1 : Kd.C k120 w A0_1 l0_1.length l0_1) (hc0_1 : l0_1.length ≤ c0_1) (hr0_2 : Kd.C k120 w A0_2 l0_2.length l0_2) (hc0_2 : l0_2.length ≤ c0_2) (hr0_4 : Kd.C (Kd.int .i64) w A0_4 l0_4.length l0_4) (hc0_4 : l0_4.length ≤ c0_4) (hr0_5 : Kd.C k64 w A0_5 l0_5.length l0_5) (hc0_5 : l0_5.length ≤ c0_5) (h : laws_toProg.f k a0_0 l0_1 l0_2 a0_3 l0_4 l0_5 = some (r1, r2, r3, r4, r5, r6)) :
 Calls Try.prog 22 #[.agg #[.int .i64 a0_0, .slice A0_1 l0_1.length c0_1, .slice A0_2 l0_2.length c0_2, .int .i64 a0_3, .slice A0_4 l0_4.length c0_4, .slice A0_5 l0_5.length c0_5]] w fun e w' => ∃ v1_ v2_ v4_ v5_ : Value, e = .returned (.agg #[.int .i64 r1, v1_, v2_, .int .i64 r4, v4_, v5_]) ∧ Kd.R k77 77 w' w.heap.size (fun k_ => some k_ ≠ (v2_ : Value).ownBlock) v1_ r2 ∧ Kd.R k77 77 w' w.heap.size (fun k_ => some k_ ≠ (v1_ : Value).ownBlock) v2_ r3 ∧ Kd.R (Kd.int .i64) 2 w' w.heap.size (fun _ => True) v4_ r5 ∧ Kd.S k42 42 w' w.heap.size (fun _ => True) v5_ r6 ∧ Below w.heap.size w w' := by
 have hu45 := Try.underlying45
 have hu35 := Try.underlying35
 have HR0_1 := Aside0.mk hr0_1
 have HC0_1 := Aside0.mk hc0_1
 clear hr0_1 hc0_1
 have HR0_2 := Aside0.mk hr0_2
 have HC0_2 := Aside0.mk hc0_2
 clear hr0_2 hc0_2
 have HR0_4 := Aside0.mk hr0_4
 have HC0_4 := Aside0.mk hc0_4
 clear hr0_4 hc0_4
 have HR0_5 := Aside0.mk hr0_5
 have HC0_5 := Aside0.mk hc0_5
 clear hr0_5 hc0_5
 have HB := Aside0.mk (Below.refl w.heap.size w)
 have H : ((laws_toInputS.f k l0_1).bind fun t813 => ((laws_toInputS.f k l0_2).bind fun t817 => ((laws_toInt64S.f k l0_4).bind fun t822 => ((laws_toStmtS.f k l0_5).bind fun t826 => (some (a0_0, t813, t817, a0_3, t822, t826)))))) = some (r1, r2, r3, r4, r5, r6) := h
 clear h
 replace H := Option.bind_eq_some_iff.mp H
 obtain ⟨t813, A20, H⟩ := H
 have A2 := Aside0.mk A20
 clear A20
 replace H := Option.bind_eq_some_iff.mp H
 obtain ⟨t817, A30, H⟩ := H
 have A3 := Aside0.mk A30
 clear A30
 replace H := Option.bind_eq_some_iff.mp H
 obtain ⟨t822, A40, H⟩ := H
 have A4 := Aside0.mk A40
 clear A40
 replace H := Option.bind_eq_some_iff.mp H
 obtain ⟨t826, A50, H⟩ := H
 have A5 := Aside0.mk A50
 clear A50
 simp only [Option.some.injEq, Prod.mk.injEq] at H
 obtain ⟨rfl, rfl, rfl, rfl, rfl, rfl⟩ := H
 go_enter Try.func22, Try.ntmps22
 go_wp2_with (first | ((with_reducible refine gate_dst (N := 1) rfl ?_); refine bE 1 #[.int .i64 a0_0, .slice A0_1 l0_1.length c0_1, .slice A0_2 l0_2.length c0_2, .int .i64 a0_3, .slice A0_4 l0_4.length c0_4, .slice A0_5 l0_5.length c0_5] 45 ?_; intro gb10 hg w6 hbox hb; have q := n4_ (below_step ψ114 hb) (hbox) ((ψ325 : w.heap.size ≤ gb10)) ((ψ325 : w.heap.size ≤ gb10)); clear HB; obtain ⟨HB, BK10, GW10, GE10⟩ := q; clear hb hbox hg) | ((with_reducible refine gate_dst (N := 2) rfl ?_); refine bE 2 #[.int .i64 0, .slice none 0 0, .slice none 0 0, .int .i64 0, .slice none 0 0, .slice none 0 0] 35 ?_; intro gb11 hg w7 hbox hb; have q := n7_ (blk_below (g := gb10) ψ23 hb) (below_step ψ114 hb) (hbox) ((ψ325 : w.heap.size ≤ gb11)) ((ψ325 : w.heap.size ≤ gb11)) ((ψ304 : gb10 ≠ gb11)) ((ψ305 : gb11 ≠ gb10)); clear BK10 HB; obtain ⟨BK10, HB, BK11, GW11, GE11, NB10_11, NB11_10⟩ := q; clear hb hbox hg) | ((with_reducible refine gate_dst (N := 3) rfl ?_); refine bE 3 #[.int .i64 0, .slice none 0 0, .slice none 0 0, .int .i64 0, .slice none 0 0, .slice none 0 0] 35 ?_; intro gb12 hg w8 hbox hb; have q := n10_ (blk_below (g := gb10) ψ23 hb) (blk_below (g := gb11) ψ34 hb) (below_step ψ114 hb) (hbox) ((ψ325 : w.heap.size ≤ gb12)) ((ψ325 : w.heap.size ≤ gb12)) ((ψ304 : gb10 ≠ gb12)) ((ψ305 : gb12 ≠ gb10)) ((ψ326 : gb11 ≠ gb12)) ((ψ327 : gb12 ≠ gb11)); clear BK10 BK11 HB; obtain ⟨BK10, BK11, HB, BK12, GW12, GE12, NB10_12, NB12_10, NB11_12, NB12_11⟩ := q; clear hb hbox hg; have hnb9 := NB10_11.out; have hnc9 := NB11_10.out; have hnb10 := NB10_12.out; have hnc10 := NB12_10.out; obtain ⟨y11_0, y11_1, y11_2, y11_3, y11_4, y11_5, u11_0, u11_1, u11_2, u11_3, u11_4, u11_5⟩ := cells6 BK10.out; have hnb12 := NB12_11.out; have hnc12 := NB11_12.out; obtain ⟨y13_0, y13_1, y13_2, y13_3, y13_4, y13_5, u13_0, u13_1, u13_2, u13_3, u13_4, u13_5⟩ := cells6 BK12.out) | ((with_reducible refine gate_callee (f := 59) rfl ?_); refine gL 9 Try.func59 #[.slice A0_1 l0_1.length c0_1] ?_; (with_reducible refine (laws_toInputS.calls k _ _ l0_1 _ _ ?_ ?_ A2.out).mono ?_); exact Kd.C_below HR0_1.out ψ114; exact HC0_1.out; rintro e w14 ⟨v814, rfl, ho0, hb⟩; refine ⟨_, rfl, ?_⟩; have q := n5_ (Kd.R_lower ho0 (below_size ψ114)) (blk_below (g := gb10) (o := .cells #[.int .i64 a0_0, .slice A0_1 l0_1.length c0_1, .slice A0_2 l0_2.length c0_2, .int .i64 a0_3, .slice A0_4 l0_4.length c0_4, .slice A0_5 l0_5.length c0_5] 45 (0, 0)) ψ120 hb) (blk_below (g := gb11) (o := .cells #[.int .i64 0, .slice none 0 0, .slice none 0 0, .int .i64 0, .slice none 0 0, .slice none 0 0] 35 (0, 0)) ψ121 hb) (blk_below (g := gb12) (o := .cells #[.int .i64 a0_0, .slice none 0 0, .slice none 0 0, .int .i64 0, .slice none 0 0, .slice none 0 0] 35 (0, 0)) (by (with_reducible repeat (first | refine blk_drewN ?_ _ | refine blk_drew ?_ | refine blk_alloc ?_ _)); refine blk_put (cs := #[.int .i64 0, .slice none 0 0, .slice none 0 0, .int .i64 0, .slice none 0 0, .slice none 0 0]) ?_ 0 _ rfl; (with_reducible repeat (first | refine blk_drewN ?_ _ | refine blk_drew ?_ | refine blk_alloc ?_ _)); exact BK12.out) hb) (below_step ψ114 hb); clear BK10 BK11 BK12 HB; obtain ⟨HO815, BK10, BK11, BK12, HB⟩ := q; (try clear hb); (try clear ho0); obtain ⟨Ao15, co15, eo15⟩ := Kd.R_slice HO815.out; subst eo15; obtain ⟨y16_0, y16_1, y16_2, y16_3, y16_4, y16_5, u16_0, u16_1, u16_2, u16_3, u16_4, u16_5⟩ := cells6 BK12.out; obtain ⟨y17_0, y17_1, y17_2, y17_3, y17_4, y17_5, u17_0, u17_1, u17_2, u17_3, u17_4, u17_5⟩ := cells6 BK10.out) | ((with_reducible refine gate_callee (f := 59) rfl ?_); refine gL 13 Try.func59 #[.slice A0_2 l0_2.length c0_2] ?_; (with_reducible refine (laws_toInputS.calls k _ _ l0_2 _ _ ?_ ?_ A3.out).mono ?_); exact Kd.C_below HR0_2.out ψ114; exact HC0_2.out; rintro e w18 ⟨v818, rfl, ho0, hb⟩; refine ⟨_, rfl, ?_⟩; have q := n6_ (Kd.R_elder' ψ329 (Kd.R_base ho0) hb) (Kd.R_lower (Kd.R_new' ho0 (Kd.R_lt ψ329)) (below_size ψ114)) (blk_below (g := gb10) (o := .cells #[.int .i64 a0_0, .slice A0_1 l0_1.length c0_1, .slice A0_2 l0_2.length c0_2, .int .i64 a0_3, .slice A0_4 l0_4.length c0_4, .slice A0_5 l0_5.length c0_5] 45 (0, 0)) ψ120 hb) (blk_below (g := gb11) (o := .cells #[.int .i64 0, .slice none 0 0, .slice none 0 0, .int .i64 0, .slice none 0 0, .slice none 0 0] 35 (0, 0)) ψ121 hb) (blk_below (g := gb12) (o := .cells #[.int .i64 a0_0, .slice Ao15 t813.length co15, .slice none 0 0, .int .i64 0, .slice none 0 0, .slice none 0 0] 35 (0, 0)) (by (with_reducible repeat (first | refine blk_drewN ?_ _ | refine blk_drew ?_ | refine blk_alloc ?_ _)); refine blk_put (cs := #[.int .i64 a0_0, .slice none 0 0, .slice none 0 0, .int .i64 0, .slice none 0 0, .slice none 0 0]) ?_ 1 _ rfl; (with_reducible repeat (first | refine blk_drewN ?_ _ | refine blk_drew ?_ | refine blk_alloc ?_ _)); exact BK12.out) hb) (below_step ψ114 hb); clear HO815 BK10 BK11 BK12 HB; obtain ⟨HO815, HO819, BK10, BK11, BK12, HB⟩ := q; (try clear hb); (try clear ho0); obtain ⟨Ao19, co19, eo19⟩ := Kd.R_slice HO819.out; subst eo19; obtain ⟨y20_0, y20_1, y20_2, y20_3, y20_4, y20_5, u20_0, u20_1, u20_2, u20_3, u20_4, u20_5⟩ := cells6 BK12.out; obtain ⟨y21_0, y21_1, y21_2, y21_3, y21_4, y21_5, u21_0, u21_1, u21_2, u21_3, u21_4, u21_5⟩ := cells6 BK10.out) | ((with_reducible refine gate_callee (f := 39) rfl ?_); refine gL 20 Try.func39 #[.slice A0_4 l0_4.length c0_4] ?_; (with_reducible refine (laws_toInt64S.calls k _ _ l0_4 _ _ ?_ ?_ A4.out).mono ?_); exact Kd.C_below HR0_4.out ψ114; exact HC0_4.out; rintro e w22 ⟨v823, rfl, ho0, hb⟩; refine ⟨_, rfl, ?_⟩; have q := n7_ (Kd.R_below (by (with_reducible repeat (first | apply Kd.R_alloc | apply Kd.R_drewN | apply Kd.R_drew)); exact (Kd.R_mono (Kd.R_far (p := ⟨gb12, 3, none⟩) (Kd.R_far (p := ⟨gb12, 2, none⟩) (Kd.R_types HO815.out BK12.out ψ15) (fun _ hk => hk.2) (.slice Ao19 t817.length co19)) (fun _ hk => hk.2) (.int .i64 a0_3)) (fun _ h_ => h_.1))) hb) (Kd.R_below (by (with_reducible repeat (first | apply Kd.R_alloc | apply Kd.R_drewN | apply Kd.R_drew)); exact (Kd.R_mono (Kd.R_far (p := ⟨gb12, 3, none⟩) (Kd.R_far (p := ⟨gb12, 2, none⟩) (Kd.R_types HO819.out BK12.out ψ15) (fun _ hk => hk.2) (.slice Ao19 t817.length co19)) (fun _ hk => hk.2) (.int .i64 a0_3)) (fun _ h_ => h_.1))) hb) (Kd.R_lower ho0 (below_size ψ114)) (blk_below (g := gb10) (o := .cells #[.int .i64 a0_0, .slice A0_1 l0_1.length c0_1, .slice A0_2 l0_2.length c0_2, .int .i64 a0_3, .slice A0_4 l0_4.length c0_4, .slice A0_5 l0_5.length c0_5] 45 (0, 0)) ψ118 hb) (blk_below (g := gb11) (o := .cells #[.int .i64 0, .slice none 0 0, .slice none 0 0, .int .i64 0, .slice none 0 0, .slice none 0 0] 35 (0, 0)) ψ119 hb) (blk_below (g := gb12) (o := .cells #[.int .i64 a0_0, .slice Ao15 t813.length co15, .slice Ao19 t817.length co19, .int .i64 a0_3, .slice none 0 0, .slice none 0 0] 35 (0, 0)) (by (with_reducible repeat (first | refine blk_drewN ?_ _ | refine blk_drew ?_ | refine blk_alloc ?_ _)); refine blk_put (cs := #[.int .i64 a0_0, .slice Ao15 t813.length co15, .slice Ao19 t817.length co19, .int .i64 0, .slice none 0 0, .slice none 0 0]) ?_ 3 _ rfl; (with_reducible repeat (first | refine blk_drewN ?_ _ | refine blk_drew ?_ | refine blk_alloc ?_ _)); refine blk_put (cs := #[.int .i64 a0_0, .slice Ao15 t813.length co15, .slice none 0 0, .int .i64 0, .slice none 0 0, .slice none 0 0]) ?_ 2 _ rfl; (with_reducible repeat (first | refine blk_drewN ?_ _ | refine blk_drew ?_ | refine blk_alloc ?_ _)); exact BK12.out) hb) (below_step ψ114 hb); clear HO815 HO819 BK10 BK11 BK12 HB; obtain ⟨HO815, HO819, HO824, BK10, BK11, BK12, HB⟩ := q; (try clear hb); (try clear ho0); obtain ⟨Ao23, co23, eo23⟩ := Kd.R_slice HO824.out; subst eo23; obtain ⟨y24_0, y24_1, y24_2, y24_3, y24_4, y24_5, u24_0, u24_1, u24_2, u24_3, u24_4, u24_5⟩ := cells6 BK12.out; obtain ⟨y25_0, y25_1, y25_2, y25_3, y25_4, y25_5, u25_0, u25_1, u25_2, u25_3, u25_4, u25_5⟩ := cells6 BK10.out) | ((with_reducible refine gate_callee (f := 14) rfl ?_); refine gL 24 Try.func14 #[.slice A0_5 l0_5.length c0_5] ?_; (with_reducible refine (laws_toStmtS.calls k _ _ l0_5 _ _ ?_ ?_ A5.out).mono ?_); exact Kd.C_below HR0_5.out ψ114; exact HC0_5.out; rintro e w26 ⟨v827, rfl, ho0, hb⟩; refine ⟨_, rfl, ?_⟩; have q := n8_ (Kd.R_below (by (with_reducible repeat (first | apply Kd.R_alloc | apply Kd.R_drewN | apply Kd.R_drew)); exact (Kd.R_mono (Kd.R_far (p := ⟨gb12, 4, none⟩) (Kd.R_types HO815.out BK12.out ψ15) (fun _ hk => hk.2) (.slice Ao23 t822.length co23)) (fun _ h_ => h_.1))) hb) (Kd.R_below (by (with_reducible repeat (first | apply Kd.R_alloc | apply Kd.R_drewN | apply Kd.R_drew)); exact (Kd.R_mono (Kd.R_far (p := ⟨gb12, 4, none⟩) (Kd.R_types HO819.out BK12.out ψ15) (fun _ hk => hk.2) (.slice Ao23 t822.length co23)) (fun _ h_ => h_.1))) hb) (Kd.R_below (by (with_reducible repeat (first | apply Kd.R_alloc | apply Kd.R_drewN | apply Kd.R_drew)); exact (Kd.R_mono (Kd.R_far (p := ⟨gb12, 4, none⟩) (Kd.R_types HO824.out BK12.out ψ15) (fun _ hk => hk.2) (.slice Ao23 t822.length co23)) (fun _ h_ => h_.1))) hb) (Kd.S_lower ho0 (below_size ψ114)) (blk_below (g := gb10) (o := .cells #[.int .i64 a0_0, .slice A0_1 l0_1.length c0_1, .slice A0_2 l0_2.length c0_2, .int .i64 a0_3, .slice A0_4 l0_4.length c0_4, .slice A0_5 l0_5.length c0_5] 45 (0, 0)) ψ120 hb) (blk_below (g := gb11) (o := .cells #[.int .i64 0, .slice none 0 0, .slice none 0 0, .int .i64 0, .slice none 0 0, .slice none 0 0] 35 (0, 0)) ψ121 hb) (blk_below (g := gb12) (o := .cells #[.int .i64 a0_0, .slice Ao15 t813.length co15, .slice Ao19 t817.length co19, .int .i64 a0_3, .slice Ao23 t822.length co23, .slice none 0 0] 35 (0, 0)) (by (with_reducible repeat (first | refine blk_drewN ?_ _ | refine blk_drew ?_ | refine blk_alloc ?_ _)); refine blk_put (cs := #[.int .i64 a0_0, .slice Ao15 t813.length co15, .slice Ao19 t817.length co19, .int .i64 a0_3, .slice none 0 0, .slice none 0 0]) ?_ 4 _ rfl; (with_reducible repeat (first | refine blk_drewN ?_ _ | refine blk_drew ?_ | refine blk_alloc ?_ _)); exact BK12.out) hb) (below_step ψ114 hb); clear HO815 HO819 HO824 BK10 BK11 BK12 HB; obtain ⟨HO815, HO819, HO824, HO828, BK10, BK11, BK12, HB⟩ := q; (try clear hb); (try clear ho0); obtain ⟨Ao27, co27, eo27⟩ := Kd.S_slice HO828.out; subst eo27; obtain ⟨y28_0, y28_1, y28_2, y28_3, y28_4, y28_5, u28_0, u28_1, u28_2, u28_3, u28_4, u28_5⟩ := cells6 BK12.out; obtain ⟨y29_0, y29_1, y29_2, y29_3, y29_4, y29_5, u29_0, u29_1, u29_2, u29_3, u29_4, u29_5⟩ := cells6 BK11.out))
 refine bodyPost_ret (results_cell_row rfl _ _ gb11 35 #[.int .i64 a0_0, .slice Ao15 t813.length co15, .slice Ao19 t817.length co19, .int .i64 a0_3, .slice Ao23 t822.length co23, .slice Ao27 t826.length co27] (0, 0) _ rfl (by (with_reducible repeat (first | refine blk_drewN ?_ _ | refine blk_drew ?_ | refine blk_alloc ?_ _)); refine blk_put (cs := #[.int .i64 a0_0, .slice Ao15 t813.length co15, .slice Ao19 t817.length co19, .int .i64 a0_3, .slice Ao23 t822.length co23, .slice none 0 0]) ?_ 5 _ rfl; (with_reducible repeat (first | refine blk_drewN ?_ _ | refine blk_drew ?_ | refine blk_alloc ?_ _)); refine blk_put (cs := #[.int .i64 a0_0, .slice Ao15 t813.length co15, .slice Ao19 t817.length co19, .int .i64 a0_3, .slice none 0 0, .slice none 0 0]) ?_ 4 _ rfl; (with_reducible repeat (first | refine blk_drewN ?_ _ | refine blk_drew ?_ | refine blk_alloc ?_ _)); refine blk_put (cs := #[.int .i64 a0_0, .slice Ao15 t813.length co15, .slice Ao19 t817.length co19, .int .i64 0, .slice none 0 0, .slice none 0 0]) ?_ 3 _ rfl; (with_reducible repeat (first | refine blk_drewN ?_ _ | refine blk_drew ?_ | refine blk_alloc ?_ _)); refine blk_put (cs := #[.int .i64 a0_0, .slice Ao15 t813.length co15, .slice none 0 0, .int .i64 0, .slice none 0 0, .slice none 0 0]) ?_ 2 _ rfl; (with_reducible repeat (first | refine blk_drewN ?_ _ | refine blk_drew ?_ | refine blk_alloc ?_ _)); refine blk_put (cs := #[.int .i64 a0_0, .slice none 0 0, .slice none 0 0, .int .i64 0, .slice none 0 0, .slice none 0 0]) ?_ 1 _ rfl; (with_reducible repeat (first | refine blk_drewN ?_ _ | refine blk_drew ?_ | refine blk_alloc ?_ _)); refine blk_put (cs := #[.int .i64 0, .slice none 0 0, .slice none 0 0, .int .i64 0, .slice none 0 0, .slice none 0 0]) ?_ 0 _ rfl; (with_reducible repeat (first | refine blk_drewN ?_ _ | refine blk_drew ?_ | refine blk_alloc ?_ _)); refine blk_far ?_ NB11_12.out _; (with_reducible repeat (first | refine blk_drewN ?_ _ | refine blk_drew ?_ | refine blk_alloc ?_ _)); exact BK11.out) Try.underlying35 rfl ψ14) rfl ?_
 exact ⟨_, _, _, _, ψ9, by (with_reducible repeat (first | apply Kd.R_alloc | apply Kd.R_drewN | apply Kd.R_drew)); exact Kd.R_mono (Kd.R_far (p := ⟨gb11, 5, none⟩) (Kd.R_far (p := ⟨gb11, 4, none⟩) (Kd.R_far (p := ⟨gb11, 3, none⟩) (Kd.R_far (p := ⟨gb11, 2, none⟩) (Kd.R_far (p := ⟨gb11, 1, none⟩) (Kd.R_far (p := ⟨gb11, 0, none⟩) (Kd.R_far (p := ⟨gb12, 5, none⟩) (Kd.R_types (Kd.R_types HO815.out BK12.out ψ15) BK11.out ψ15) (fun _ hk => hk.1.2) (.slice Ao27 t826.length co27)) (fun _ hk => hk.2) (.int .i64 a0_0)) (fun _ hk => hk.2) (.slice Ao15 t813.length co15)) (fun _ hk => hk.2) (.slice Ao19 t817.length co19)) (fun _ hk => hk.2) (.int .i64 a0_3)) (fun _ hk => hk.2) (.slice Ao23 t822.length co23)) (fun _ hk => hk.2) (.slice Ao27 t826.length co27)) (fun _ hk => hk.1.1.2), by (with_reducible repeat (first | apply Kd.R_alloc | apply Kd.R_drewN | apply Kd.R_drew)); exact Kd.R_mono (Kd.R_far (p := ⟨gb11, 5, none⟩) (Kd.R_far (p := ⟨gb11, 4, none⟩) (Kd.R_far (p := ⟨gb11, 3, none⟩) (Kd.R_far (p := ⟨gb11, 2, none⟩) (Kd.R_far (p := ⟨gb11, 1, none⟩) (Kd.R_far (p := ⟨gb11, 0, none⟩) (Kd.R_far (p := ⟨gb12, 5, none⟩) (Kd.R_types (Kd.R_types HO819.out BK12.out ψ15) BK11.out ψ15) (fun _ hk => hk.1.2) (.slice Ao27 t826.length co27)) (fun _ hk => hk.2) (.int .i64 a0_0)) (fun _ hk => hk.2) (.slice Ao15 t813.length co15)) (fun _ hk => hk.2) (.slice Ao19 t817.length co19)) (fun _ hk => hk.2) (.int .i64 a0_3)) (fun _ hk => hk.2) (.slice Ao23 t822.length co23)) (fun _ hk => hk.2) (.slice Ao27 t826.length co27)) (fun _ hk => hk.1.1.2), by (with_reducible repeat (first | apply Kd.R_alloc | apply Kd.R_drewN | apply Kd.R_drew)); exact Kd.R_mono (Kd.R_far (p := ⟨gb11, 5, none⟩) (Kd.R_far (p := ⟨gb11, 4, none⟩) (Kd.R_far (p := ⟨gb11, 3, none⟩) (Kd.R_far (p := ⟨gb11, 2, none⟩) (Kd.R_far (p := ⟨gb11, 1, none⟩) (Kd.R_far (p := ⟨gb11, 0, none⟩) (Kd.R_far (p := ⟨gb12, 5, none⟩) (Kd.R_types (Kd.R_types HO824.out BK12.out ψ15) BK11.out ψ15) (fun _ hk => hk.1.2) (.slice Ao27 t826.length co27)) (fun _ hk => hk.2) (.int .i64 a0_0)) (fun _ hk => hk.2) (.slice Ao15 t813.length co15)) (fun _ hk => hk.2) (.slice Ao19 t817.length co19)) (fun _ hk => hk.2) (.int .i64 a0_3)) (fun _ hk => hk.2) (.slice Ao23 t822.length co23)) (fun _ hk => hk.2) (.slice Ao27 t826.length co27)) (fun _ hk => trivial), by (with_reducible repeat (first | apply Kd.S_alloc | apply Kd.S_drewN | apply Kd.S_drew)); exact Kd.S_mono (Kd.S_far (p := ⟨gb11, 5, none⟩) (Kd.S_far (p := ⟨gb11, 4, none⟩) (Kd.S_far (p := ⟨gb11, 3, none⟩) (Kd.S_far (p := ⟨gb11, 2, none⟩) (Kd.S_far (p := ⟨gb11, 1, none⟩) (Kd.S_far (p := ⟨gb11, 0, none⟩) (Kd.S_far (p := ⟨gb12, 5, none⟩) (Kd.S_types (Kd.S_types HO828.out BK12.out ψ15) BK11.out ψ15) (fun _ hk => hk.1.2) (.slice Ao27 t826.length co27)) (fun _ hk => hk.2) (.int .i64 a0_0)) (fun _ hk => hk.2) (.slice Ao15 t813.length co15)) (fun _ hk => hk.2) (.slice Ao19 t817.length co19)) (fun _ hk => hk.2) (.int .i64 a0_3)) (fun _ hk => hk.2) (.slice Ao23 t822.length co23)) (fun _ hk => hk.2) (.slice Ao27 t826.length co27)) (fun _ hk => trivial), ψ114⟩

/-! ### impl_greatest: function 88 -/
def impl_greatest.f (l0 : List (S35)) : Option (Int) := if 0 ≤ ((rd_T35 l0 0).f0) then (some (wrap64 ((shl .i64 1 ((rd_T35 l0 0).f0)) - 1))) else (none)
set_option maxHeartbeats 8000000 in
set_option maxRecDepth 100000 in
theorem impl_greatest.calls (A0 : Option Addr) (c0 : Nat) (l0 : List (S35)) (r : Int) (w : World) (hn0 : l0.length = 1) (hr0 : Kd.C k35 w A0 l0.length l0) (hc0 : l0.length ≤ c0) (h : impl_greatest.f l0 = some r) :
 Calls Try.prog 88 #[.pointer A0] w fun e w' => e = .returned (.int .i64 r) ∧ Drawn0 w w' := by
 have HR0 := Aside0.mk hr0
 have HC0 := Aside0.mk hc0
 clear hr0 hc0
 have H : (if 0 ≤ ((rd_T35 l0 0).f0) then (some (wrap64 ((shl .i64 1 ((rd_T35 l0 0).f0)) - 1))) else (none)) = some r := h
 clear h
 by_cases c2 : 0 ≤ ((rd_T35 l0 0).f0)
 ·rw [if_pos c2] at H
  have c2b0 := eq_true c2
  have c2b1 : decide (0 ≤ ((rd_T35 l0 0).f0)) = true := decide_eq_true c2
  clear c2
  obtain ⟨ji3, hji3⟩ : ∃ j_ : Int, (shl .i64 1 ((rd_T35 l0 0).f0)) = j_ := ⟨_, rfl⟩
  replace H : (some (wrap64 ((ji3) - 1))) = some r := by first | (rw [hji3] at H; exact H) | (simp only [hji3] at H ⊢; exact H)
  have hji3_ : (IntKind.i64.wrap (1 * 2 ^ min ((rd_T35 l0 0).f0).toNat 64)) = ji3 := hji3
  have hji3z : ((rd_T35 l0 0).f0) ≤ 64 → (IntKind.i64.wrap (1 * 2 ^ ((rd_T35 l0 0).f0).toNat)) = ji3 := shl_small hji3
  have hji3u : (IntKind.i64.wrap (2 ^ min ((rd_T35 l0 0).f0).toNat 64)) = ji3 := by have h_ := hji3_; rw [Int.one_mul] at h_; exact h_
  have hji3v : ((rd_T35 l0 0).f0) ≤ 64 → (IntKind.i64.wrap (2 ^ ((rd_T35 l0 0).f0).toNat)) = ji3 := fun hle_ => by have h_ := hji3z hle_; rw [Int.one_mul] at h_; exact h_
  have hji3y : (wrap64 (1 * 2 ^ min ((rd_T35 l0 0).f0).toNat 64)) = ji3 := (i64_w _).symm.trans hji3_
  have hji3x : ((rd_T35 l0 0).f0) ≤ 64 → (wrap64 (1 * 2 ^ ((rd_T35 l0 0).f0).toNat)) = ji3 := fun h_ => (i64_w _).symm.trans (hji3z h_)
  obtain rfl := Option.some.inj H
  have p830 : 0 ≤ (0 : Int) := ψ7
  have q830 : 0 < (l0.length : Int) := ψ330
  obtain ⟨ad830, A830_1, c830_1, A830_2, c830_2, A830_4, c830_4, A830_5, c830_5, e830, hx830_0, hx830_1, hx830_2, hx830_3, hx830_4, hx830_5, hl830_1, hi830_1, hl830_2, hi830_2, hl830_4, hi830_4, hl830_5, hi830_5⟩ := at_T35 HR0.out 0 p830 q830
  cases e830
  have qi830 : (0 < l0.length) = True := eq_true ψ7
  (try rw [show ((0 : Int)).toNat = 0 from rfl] at hx830_0)
  (try rw [show 0 * 6 = 0 from rfl] at hx830_0)
  (try rw [Addr.add_zero'] at hx830_0)
  (try rw [show ((0 : Int)).toNat = 0 from rfl] at hx830_1)
  (try rw [show 0 * 6 = 0 from rfl] at hx830_1)
  (try rw [Addr.add_zero'] at hx830_1)
  (try rw [show ((0 : Int)).toNat = 0 from rfl] at hx830_2)
  (try rw [show 0 * 6 = 0 from rfl] at hx830_2)
  (try rw [Addr.add_zero'] at hx830_2)
  (try rw [show ((0 : Int)).toNat = 0 from rfl] at hx830_3)
  (try rw [show 0 * 6 = 0 from rfl] at hx830_3)
  (try rw [Addr.add_zero'] at hx830_3)
  (try rw [show ((0 : Int)).toNat = 0 from rfl] at hx830_4)
  (try rw [show 0 * 6 = 0 from rfl] at hx830_4)
  (try rw [Addr.add_zero'] at hx830_4)
  (try rw [show ((0 : Int)).toNat = 0 from rfl] at hx830_5)
  (try rw [show 0 * 6 = 0 from rfl] at hx830_5)
  (try rw [Addr.add_zero'] at hx830_5)
  have HR830_1 := Aside0.mk hi830_1
  have HC830_1 := Aside0.mk hl830_1
  clear hi830_1 hl830_1
  have HR830_2 := Aside0.mk hi830_2
  have HC830_2 := Aside0.mk hl830_2
  clear hi830_2 hl830_2
  have HR830_4 := Aside0.mk hi830_4
  have HC830_4 := Aside0.mk hl830_4
  clear hi830_4 hl830_4
  have HR830_5 := Aside0.mk hi830_5
  have HC830_5 := Aside0.mk hl830_5
  clear hi830_5 hl830_5
  replace p830 := eq_true p830
  replace q830 := eq_true q830
  go_enter Try.func88, Try.ntmps88
  go_wp2
  go_ret
  exact ⟨by first | rfl | (simp; done) | (simp only [← hji3] <;> (first | rfl | simp)) | (simp [*]; done), ψ1⟩
 ·rw [if_neg c2] at H
  exact absurd H ψ8

/-! ### impl_bitsOf: function 89 -/
def impl_bitsOf.l0 : Nat → Int → Int → Option (Int)
 | 0, _, _ => none
 | k + 1, x0, x3 => if x0 > 0 then (impl_bitsOf.l0 k (wrap64 (Int.tdiv x0 2)) (wrap64 (x3 + 1))) else (some x3)
def impl_bitsOf.f (k : Nat) (a0 : Int) : Option (Int) := impl_bitsOf.l0 k a0 0
set_option maxHeartbeats 8000000 in
set_option maxRecDepth 100000 in
theorem impl_bitsOf.calls (k : Nat) (a0 : Int) (r : Int) (w : World) (h : impl_bitsOf.f k a0 = some r) :
 Calls Try.prog 89 #[.int .i64 a0] w fun e w' => e = .returned (.int .i64 r) ∧ Drawn0 w w' := by
 have H : (impl_bitsOf.l0 k a0 0) = some r := h
 clear h
 have H' := Aside0.mk H
 clear H
 go_enter Try.func89, Try.ntmps89
 go_wp2
 go_loopg [0, 3] k (fun kq v0 v3 w' => ∃ (x0_1 : Int) (x3_1 : Int), v0 = .int .i64 x0_1 ∧ v3 = .int .i64 x3_1 ∧ Aside0 (impl_bitsOf.l0 kq x0_1 x3_1 = some r) ∧ Aside0 (kq ≤ k) ∧ Drawn0 w w')
 case atStart => exact ⟨(a0), (0), ψ0, ψ0, H', ⟨Nat.le_refl _⟩, ψ1⟩
 case round =>
  clear H'
  obtain ⟨x0_1, x3_1, rfl, rfl, HA, HK1, ⟨m1, rfl⟩⟩ := hrel
  cases gk with
  | zero => exact absurd HA.out (by simp [impl_bitsOf.l0])
  | succ k1 =>
   have H := HA.out
   clear HA
   simp only [impl_bitsOf.l0] at H
   replace H := ifG H; rcases H with ⟨c2b0, H⟩ | ⟨c2b0, H⟩
   ·have H' := Aside0.mk H
    clear H
    go_wp2
    go_roundg k1
    case measure => have := HK1.out; omega
    case rel => exact ⟨(wrap64 (Int.tdiv x0_1 2)), (wrap64 (x3_1 + 1)), ψ0, ψ0, H', ⟨ψ53⟩, ψ1⟩
   ·obtain rfl := Option.some.inj H
    go_wp2
    go_ret
    exact ⟨ψ0, ψ1⟩

end Go.Proofs.Ytbjmhdoagjmmcaa.PCore

/- The walks of the functions that the laws come to, part 12: turned out of the kit's print, and mended where that fell. -/
import Derived.Test.YtakmkdlkipfnhaaPCoreg
import Derived.Test.YtakmkdlkipfnhaaPCoreg0
import Derived.Test.YtakmkdlkipfnhaaPCoreg1
import Derived.Test.YtakmkdlkipfnhaaPCoreg4
namespace Go.Proofs.Ytakmkdlkipfnhaa.PCore
open Go.RowKit Go.Proofs.YtakmkdlkipfnhaaW.PrintWords Go.Proofs.YtakmkdlkipfnhaaW.PrintLast Go.Proofs.YtakmkdlkipfnhaaW.PrintMore
attribute [local go_sem] max2_int min2_int max_two min_two max_three min_three max_four min_four   -- for this text's walks alone
set_option linter.unusedVariables false
set_option maxHeartbeats 8000000
set_option maxRecDepth 100000
set_option linter.unusedSimpArgs false

theorem ψ124 {P : Prop} (h : P := by (with_reducible repeat (first | apply Kd.R_alloc | apply Kd.R_drewN | apply Kd.R_drew)); exact (Kd.R_mono (Kd.R_far (p := ⟨gb12, 0, none⟩) (Kd.R_types HO404.out BK12.out (ψ13)) (fun _ hk => hk.2) (.slice Ao11 t402.length co11)) (fun _ h_ => h_.1))) : P := h
/-! ### laws_szInt64SS: function 66 -/
def laws_szInt64SS.l0 : Nat → List (List Int) → Int → Int → Option (Int)
 | 0, _, _, _ => none
 | k + 1, x0, x1, x5 => if x5 < (x0.length : Int) then (if 0 ≤ x5 then ((laws_szInt64S.f (rd_L5 x0 x5) x1).bind fun t118 => (if t118 < 0 then (some (-1)) else (laws_szInt64SS.l0 k x0 t118 (wrap64 (x5 + 1))))) else (none)) else (some x1)
def laws_szInt64SS.f (k : Nat) (l0 : List (List Int)) (a1 : Int) : Option (Int) := if (wrap64 (a1 - (l0.length : Int))) < 0 then (some (-1)) else (laws_szInt64SS.l0 k l0 (wrap64 (a1 - (l0.length : Int))) 0)
theorem τ7 {P : Prop} (h : P := by
 first | obtain rfl := Option.some.inj H | (have H' := Aside0.mk H; clear H)
 try (have p117 : 0 ≤ (x5_1 : Int) := of_decide_eq_true ψ5; have q117 : x5_1 < (l0.length : Int) := of_decide_eq_true ψ5; obtain ⟨ad117, A117_0, c117_0, e117, hx117_0, hl117_0, hi117_0⟩ := at_L5 HR0.out x5_1 p117 q117; cases e117; have q := n2_ hi117_0 hl117_0; clear hi117_0 hl117_0; obtain ⟨HR117_0, HC117_0⟩ := q; replace p117 := eq_true p117; replace q117 := eq_true q117)
 go_wp2_with (first | ((with_reducible refine gate_callee (f := 64) rfl ?_); refine gL 23 Try.func64 #[.slice A117_0 (rd_L5 l0 x5_1).length c117_0, .int .i64 x1_1] ?_; (with_reducible refine (laws_szInt64S.calls _ _ (rd_L5 l0 x5_1) x1_1 _ _ ?_ ?_ A6.out).mono ?_); exact (by repeat (first | exact HR117_0.out | (with_reducible refine Kd.C_alloc ?_ _) | (with_reducible refine Kd.C_drewN ?_ _) | (with_reducible refine Kd.C_drew ?_))); exact HC117_0.out; rintro e w' ⟨rfl, ⟨nd, rfl⟩⟩; refine ⟨_, rfl, ?_⟩))
 first | (go_ret; exact ⟨ψ0, ψ1⟩) | (go_roundg k1; (case measure => have := HK1.out; omega); (case rel => exact ⟨(t118), (wrap64 (x5_1 + 1)), ψ7, ψ7, H', ⟨ψ8⟩, ψ1⟩))) : P := h
theorem laws_szInt64SS.calls (k : Nat) (A0 : Option Addr) (c0 : Nat) (l0 : List (List Int)) (a1 : Int) (r : Int) (w : World) (hr0 : Kd.C (Kd.slice 2 (Kd.int .i64)) w A0 l0.length l0) (hc0 : l0.length ≤ c0) (h : laws_szInt64SS.f k l0 a1 = some r) :
 Calls Try.prog 66 #[.slice A0 l0.length c0, .int .i64 a1] w fun e w' => e = .returned (.int .i64 r) ∧ Drawn0 w w' := by
 have q := n2_ hr0 hc0
 clear hr0 hc0
 obtain ⟨HR0, HC0⟩ := q
 unfold laws_szInt64SS.f at h
 have H := h
 clear h
 replace H := ifD H; rcases H with ⟨c3b0, H⟩ | ⟨c3b0, H⟩
 ·obtain rfl := Option.some.inj H
  go_enter Try.func66, Try.ntmps66
  go_wp2
  go_ret
  exact ⟨ψ0, ψ1⟩
 ·have H' := Aside0.mk H
  clear H
  go_enter Try.func66, Try.ntmps66
  go_wp2
  go_loopg [1, 5] k (fun kq v1 v5 w' => ∃ (x1_1 : Int) (x5_1 : Int), v1 = .int .i64 x1_1 ∧ v5 = .int .i64 x5_1 ∧ Aside0 (laws_szInt64SS.l0 kq l0 x1_1 x5_1 = some r) ∧ Aside0 (kq ≤ k) ∧ Drawn0 w w')
  case atStart => exact ⟨(wrap64 (a1 - (l0.length : Int))), (0), ψ7, ψ7, H', ⟨Nat.le_refl _⟩, ψ1⟩
  case round =>
   clear H'
   try clear c3
   try clear c3b0
   obtain ⟨x1_1, x5_1, rfl, rfl, HA, HK1, ⟨m1, rfl⟩⟩ := hrel
   cases gk with
   | zero => exact absurd HA.out (by simp [laws_szInt64SS.l0])
   | succ k1 =>
    have H := HA.out
    clear HA
    simp only [laws_szInt64SS.l0] at H
    replace H := ifD H; rcases H with ⟨c4b0, H⟩ | ⟨c4b0, H⟩
    ·replace H := ifN H; obtain ⟨c5b0, H⟩ := H
     replace H := bS H; obtain ⟨t118, A6, H⟩ := H
     replace H := ifD H; rcases H with ⟨c7b0, H⟩ | ⟨c7b0, H⟩
     ·exact τ7
     ·exact τ7
    ·exact τ7

/-! ### laws_szEnv: function 16 -/
def laws_szEnv.f (k : Nat) (l0_0 : List Int) (l0_1 : List (List Int)) (a1 : Int) : Option (Int) := (laws_szInt64S.f l0_0 a1).bind fun t121 => (if t121 < 0 then (some (-1)) else ((laws_szInt64SS.f k l0_1 t121).bind fun t123 => (if t123 < 0 then (some (-1)) else (some t123))))
theorem τ8 {P : Prop} (h : P := by
 obtain rfl := Option.some.inj H
 go_enter Try.func16, Try.ntmps16
 go_wp2_with (first | ((with_reducible refine gate_dst (N := 2) rfl ?_); refine bE 2 #[.slice A0_0 l0_0.length c0_0, .slice A0_1 l0_1.length c0_1] 29 ?_; intro gb10 hg w1_ hbox hb; have q := n4_ (below_step ψ2 hb) (hbox) ((ψ113 : w.heap.size ≤ gb10)) ((ψ113 : w.heap.size ≤ gb10)); clear HB; obtain ⟨HB, BK10, GW10, GE10⟩ := q; clear hb hbox hg; obtain ⟨hczB10_0, hczB10_1, hfzB10_0, hfzB10_1⟩ := cells2 BK10.out) | ((with_reducible refine gate_callee (f := 64) rfl ?_); refine gL 8 Try.func64 #[.slice A0_0 l0_0.length c0_0, .int .i64 a1] ?_; (with_reducible refine (laws_szInt64S.calls _ _ l0_0 a1 _ _ ?_ ?_ A3.out).mono ?_); exact ψ11; exact HC0_0.out; rintro e w' ⟨rfl, ⟨nd, rfl⟩⟩; refine ⟨_, rfl, ?_⟩) | ((with_reducible refine gate_callee (f := 66) rfl ?_); refine gL 14 Try.func66 #[.slice A0_1 l0_1.length c0_1, .int .i64 t121] ?_; (with_reducible refine (laws_szInt64SS.calls k _ _ l0_1 t121 _ _ ?_ ?_ A7.out).mono ?_); exact (by repeat (first | exact (Kd.C_below HR0_1.out ψ2) | (with_reducible refine Kd.C_alloc ?_ _) | (with_reducible refine Kd.C_drewN ?_ _) | (with_reducible refine Kd.C_drew ?_))); exact HC0_1.out; rintro e w' ⟨rfl, ⟨nd, rfl⟩⟩; refine ⟨_, rfl, ?_⟩))
 go_ret
 exact ⟨ψ4, ψ2⟩) : P := h
theorem laws_szEnv.calls (k : Nat) (A0_0 : Option Addr) (c0_0 : Nat) (l0_0 : List Int) (A0_1 : Option Addr) (c0_1 : Nat) (l0_1 : List (List Int)) (a1 : Int) (r : Int) (w : World) (hr0_0 : Kd.C (Kd.int .i64) w A0_0 l0_0.length l0_0) (hc0_0 : l0_0.length ≤ c0_0) (hr0_1 : Kd.C (Kd.slice 2 (Kd.int .i64)) w A0_1 l0_1.length l0_1) (hc0_1 : l0_1.length ≤ c0_1) (h : laws_szEnv.f k l0_0 l0_1 a1 = some r) :
 Calls Try.prog 16 #[.agg #[.slice A0_0 l0_0.length c0_0, .slice A0_1 l0_1.length c0_1], .int .i64 a1] w fun e w' => e = .returned (.int .i64 r) ∧ Below w.heap.size w w' := by
 have hu29 := Try.underlying29
 have q := n4_ hr0_0 hc0_0 hr0_1 hc0_1
 clear hr0_0 hc0_0 hr0_1 hc0_1
 obtain ⟨HR0_0, HC0_0, HR0_1, HC0_1⟩ := q
 have HB := Aside0.mk (Below.refl w.heap.size w)
 unfold laws_szEnv.f at h
 have H := h
 clear h
 replace H := bS H; obtain ⟨t121, A3, H⟩ := H
 replace H := ifD H; rcases H with ⟨c4b0, H⟩ | ⟨c4b0, H⟩
 ·exact τ8
 ·replace H := bS H; obtain ⟨t123, A7, H⟩ := H
  replace H := ifD H; rcases H with ⟨c8b0, H⟩ | ⟨c8b0, H⟩
  ·exact τ8
  ·exact τ8

/-! ### spec_l5Values: function 68 -/
def spec_l5Values.l0 : Nat → List Int → Int → Int → Option (Bool)
 | 0, _, _, _ => none
 | k + 1, x0, x2, x7 => if x7 < (x0.length : Int) then (if 0 ≤ x7 then ((spec_l1In.f (rd x0 x7) 0 (wrap64 (x2 - 1))).bind fun t289 => (if t289 = true then (spec_l5Values.l0 k x0 x2 (wrap64 (x7 + 1))) else (some false))) else (none)) else (some true)
def spec_l5Values.f (k : Nat) (l0 : List Int) (a1 : Int) (a2 : Int) : Option (Bool) := if (l0.length : Int) = a1 then (spec_l5Values.l0 k l0 a2 0) else (some false)
theorem τ33 {P : Prop} (h : P := by
 first | obtain rfl := Option.some.inj H | (have H' := Aside0.mk H; clear H)
 try (have p288 : 0 ≤ (x7_1 : Int) := of_decide_eq_true ψ5; have q288 : x7_1 < (l0.length : Int) := of_decide_eq_true ψ5; obtain ⟨ad288, e288, hx288_0⟩ := Kd.at_int HR0.out x7_1 p288 q288; cases e288; replace p288 := eq_true p288; replace q288 := eq_true q288)
 go_wp2_with (first | ((with_reducible refine gate_callee (f := 79) rfl ?_); refine gL 24 Try.func79 #[.int .i64 (rd l0 x7_1), .int .i64 0, .int .i64 (wrap64 (a2 - 1))] ?_; (with_reducible refine (spec_l1In.calls (rd l0 x7_1) 0 (wrap64 (a2 - 1)) _ _ A7.out).mono ?_); rintro e w' ⟨rfl, ⟨nd, rfl⟩⟩; refine ⟨_, rfl, ?_⟩))
 first | (go_roundg k1; (case measure => have := HK1.out; omega); (case rel => exact ⟨(wrap64 (x7_1 + 1)), ψ7, H', ⟨ψ8⟩, ψ1⟩)) | (go_ret; exact ⟨ψ0, ψ1⟩)) : P := h
theorem spec_l5Values.calls (k : Nat) (A0 : Option Addr) (c0 : Nat) (l0 : List Int) (a1 : Int) (a2 : Int) (r : Bool) (w : World) (hr0 : Kd.C (Kd.int .i64) w A0 l0.length l0) (hc0 : l0.length ≤ c0) (h : spec_l5Values.f k l0 a1 a2 = some r) :
 Calls Try.prog 68 #[.slice A0 l0.length c0, .int .i64 a1, .int .i64 a2] w fun e w' => e = .returned (.bool r) ∧ Drawn0 w w' := by
 have q := n2_ hr0 hc0
 clear hr0 hc0
 obtain ⟨HR0, HC0⟩ := q
 unfold spec_l5Values.f at h
 have H := h
 clear h
 replace H := ifF H; rcases H with ⟨c4b0, c4b1, H⟩ | ⟨c4b0, c4b1, c4, H⟩
 ·have H' := Aside0.mk H
  clear H
  go_enter Try.func68, Try.ntmps68
  go_wp2
  go_loopg [7] k (fun kq v7 w' => ∃ (x7_1 : Int), v7 = .int .i64 x7_1 ∧ Aside0 (spec_l5Values.l0 kq l0 a2 x7_1 = some r) ∧ Aside0 (kq ≤ k) ∧ Drawn0 w w')
  case atStart => exact ⟨(0), ψ7, H', ⟨Nat.le_refl _⟩, ψ1⟩
  case round =>
   clear H'
   try clear c4
   try clear c4b0
   try clear c4b1
   obtain ⟨x7_1, rfl, HA, HK1, ⟨m1, rfl⟩⟩ := hrel
   cases gk with
   | zero => exact absurd HA.out (by simp [spec_l5Values.l0])
   | succ k1 =>
    have H := HA.out
    clear HA
    simp only [spec_l5Values.l0] at H
    replace H := ifD H; rcases H with ⟨c5b0, H⟩ | ⟨c5b0, H⟩
    ·replace H := ifN H; obtain ⟨c6b0, H⟩ := H
     replace H := bS H; obtain ⟨t289, A7, H⟩ := H
     replace H := ifB H; rcases H with ⟨rfl, H⟩ | ⟨rfl, H⟩
     ·exact τ33
     ·exact τ33
    ·exact τ33
 ·obtain rfl := Option.some.inj H
  go_enter Try.func68, Try.ntmps68
  go_wp2
  go_ret
  exact ⟨ψ0, ψ1⟩

/-! ### spec_EnvOk: function 17 -/
mutual
def spec_EnvOk.j0 : Nat → Bool → Int → List (S106) → List (S106) → Int → List Int → List (S114) → List Int → List (List Int) → Option (Bool)
 | 0, _, _, _, _, _, _, _, _, _ => none
 | k + 1, x27, x291000, x291001, x291002, x291003, x291004, x291005, x292000, x292001 => if x27 = true then (some false) else (spec_EnvOk.l0 k 0 x291000 x291001 x291002 x291003 x291004 x291005 x292000 x292001)
def spec_EnvOk.l0 : Nat → Int → Int → List (S106) → List (S106) → Int → List Int → List (S114) → List Int → List (List Int) → Option (Bool)
 | 0, _, _, _, _, _, _, _, _, _ => none
 | k + 1, x5, x291000, x291001, x291002, x291003, x291004, x291005, x292000, x292001 => if x5 < (x292001.length : Int) then (if 0 ≤ x5 then (if x5 < (x291004.length : Int) then ((spec_l3Size.f k x291000 x291001 x291002 x291003 x291004 x291005).bind fun t308 => ((spec_l5Values.f k (rd_L5 x292001 x5) (rd x291004 x5) t308).bind fun t309 => (if t309 = true then (spec_EnvOk.l0 k (wrap64 (x5 + 1)) x291000 x291001 x291002 x291003 x291004 x291005 x292000 x292001) else (some false)))) else (none)) else (none)) else (some true)
end
def spec_EnvOk.f (k : Nat) (a0_0 : Int) (l0_1 : List (S106)) (l0_2 : List (S106)) (a0_3 : Int) (l0_4 : List Int) (l0_5 : List (S114)) (l1_0 : List Int) (l1_1 : List (List Int)) : Option (Bool) := (spec_ProgOk.f k a0_0 l0_1 l0_2 a0_3 l0_4 l0_5).bind fun t293 => (if t293 = true then ((spec_l3Vars.f a0_0 l0_1 l0_2 a0_3 l0_4 l0_5).bind fun t296 => ((spec_l3Size.f k a0_0 l0_1 l0_2 a0_3 l0_4 l0_5).bind fun t298 => ((spec_l5Values.f k l1_0 t296 t298).bind fun t299 => (if t299 = true then (spec_EnvOk.j0 k ((l1_1.length : Int) != (l0_4.length : Int)) a0_0 l0_1 l0_2 a0_3 l0_4 l0_5 l1_0 l1_1) else (spec_EnvOk.j0 k true a0_0 l0_1 l0_2 a0_3 l0_4 l0_5 l1_0 l1_1))))) else (spec_EnvOk.j0 k true a0_0 l0_1 l0_2 a0_3 l0_4 l0_5 l1_0 l1_1))
def spec_EnvOk.T1 : Bool × List (List Nat × List Nat) := (true, [([], []), ([0], [0]), ([1], [1]), ([2, 1], [2]), ([3], [3]), ([4, 3], [3, 4]), ([3], [3]), ([6, 3, 3], [3, 6]), ([3], [3]), ([8, 7, 3], [3, 8]), ([5, 7, 9, 9, 3], [3, 5, 7, 9]), ([10, 3], [3, 10]), ([3, 11], [3, 11]), ([12, 10], [12]), ([13], [13]), ([14, 13], [13, 14]), ([15, 13], [13, 15]), ([13], [13]), ([17, 13], [13, 17]), ([18, 13], [13, 18]), ([16, 19, 13], [13, 16, 19]), ([13, 20], [13, 20])])
def spec_EnvOk.B1 : List Nat := [0, 1, 3, 7, 15, 31, 15, 79, 15, 463, 1023, 2047, 4095, 8191, 16383, 32767, 65535, 16383, 147455, 409599, 1048575, 2097151]
theorem spec_EnvOk.tab1 : rtab .any (opsOf Try.f17 1) = spec_EnvOk.T1 := by kernel_rfl
theorem spec_EnvOk.bits1 : waitsOk spec_EnvOk.T1.2 spec_EnvOk.B1 = true := by kernel_rfl
def spec_EnvOk.T6 : Bool × List (List Nat × List Nat) := (true, [([], []), ([0], [0]), ([], []), ([1, 2], [1, 2]), ([3], [3]), ([], []), ([5], [5]), ([], []), ([6, 7], [6, 7]), ([8], [8]), ([], []), ([10], [10]), ([4, 9, 11, 11], [4, 9, 11]), ([12], [12])])
def spec_EnvOk.B6 : List Nat := [0, 1, 0, 7, 15, 0, 32, 0, 224, 480, 0, 1024, 4095, 8191]
theorem spec_EnvOk.tab6 : rtab .any (opsOf Try.f17 6) = spec_EnvOk.T6 := by kernel_rfl
theorem spec_EnvOk.bits6 : waitsOk spec_EnvOk.T6.2 spec_EnvOk.B6 = true := by kernel_rfl
theorem τ34 {P : Prop} (h : P := by
 first | obtain rfl := Option.some.inj H | (have H' := Aside0.mk H; clear H)
 have hnb1_ := NB11_10.out
 have hnc1_ := NB10_11.out
 obtain ⟨hczB11_0, hczB11_1, hfzB11_0, hfzB11_1⟩ := cells2 BK11.out
 try go_wp2
 have q := n3_ (blk_drew BK10.out) (blk_drew BK11.out) (below_drew1 HB.out)
 clear BK10 BK11 HB
 obtain ⟨BK10, BK11, HB⟩ := q
 have p304 : 0 ≤ (x5_2 : Int) := of_decide_eq_true ψ5
 have q304 : x5_2 < (l1_1.length : Int) := of_decide_eq_true ψ5
 obtain ⟨ad304, A304_0, c304_0, e304, hx304_0, hl304_0, hi304_0⟩ := at_L5 HR1_1.out x5_2 p304 q304
 have hw304_0 := hx304_0
 cases e304
 replace hx304_0 := cB HB hx304_0
 have q := n2_ hi304_0 hl304_0
 clear hi304_0 hl304_0
 obtain ⟨HR304_0, HC304_0⟩ := q
 replace p304 := eq_true p304
 replace q304 := eq_true q304
 have p306 : 0 ≤ (x5_2 : Int) := of_decide_eq_true ψ5
 have q306 : x5_2 < (l0_4.length : Int) := of_decide_eq_true ψ5
 obtain ⟨ad306, e306, hx306_0⟩ := Kd.at_int HR0_4.out x5_2 p306 q306
 have hw306_0 := hx306_0
 cases e306
 replace hx306_0 := cB HB hx306_0
 replace p306 := eq_true p306
 replace q306 := eq_true q306
 refine start_ (n := 14) (S := fun w' => w'.cell? ⟨gb11, 0, none⟩ = some (.slice A1_0 l1_0.length c1_0) ∧ w'.cell? ⟨gb11, 1, none⟩ = some (.slice (some ad304) l1_1.length c1_1) ∧ w'.cell? ⟨gb10, 0, none⟩ = some (.int .i64 a0_0) ∧ w'.cell? ⟨gb10, 1, none⟩ = some (.slice A0_1 l0_1.length c0_1) ∧ w'.cell? ⟨gb10, 2, none⟩ = some (.slice A0_2 l0_2.length c0_2) ∧ w'.cell? ⟨gb10, 3, none⟩ = some (.int .i64 a0_3) ∧ w'.cell? ⟨gb10, 4, none⟩ = some (.slice (some ad306) l0_4.length c0_4) ∧ w'.cell? ⟨gb10, 5, none⟩ = some (.slice A0_5 l0_5.length c0_5) ∧ w'.cell? (ad304.add (x5_2).toNat) = some (.slice A304_0 (rd_L5 l1_1 x5_2).length c304_0) ∧ w'.cell? (ad306.add (x5_2).toNat) = some (.int .i64 (rd l0_4 x5_2))) (ds := []) #[false, false, false, false, false, false, false, false, false, false, false, false, false, false] ψ12 rfl rfl ⟨(blk_cell BK11.out 0).trans rfl, (blk_cell BK11.out 1).trans rfl, (blk_cell BK10.out 0).trans rfl, (blk_cell BK10.out 1).trans rfl, (blk_cell BK10.out 2).trans rfl, (blk_cell BK10.out 3).trans rfl, (blk_cell BK10.out 4).trans rfl, (blk_cell BK10.out 5).trans rfl, ((HB.out.cell (World.block_lt_of_cell? w _ hw304_0)).trans hw304_0), ((HB.out.cell (World.block_lt_of_cell? w _ hw306_0)).trans hw306_0)⟩ (fun hHeld => ?_); refine with_tabW spec_EnvOk.tab6 spec_EnvOk.bits6 (fun HT_ HW_ => ?_)
 generalize wr.drew = w1_ at BK10 BK11 HB HR304_0 hx304_0 hx306_0 hHeld ⊢
 refine rP 0 35 ?_; refine rP 2 37 ?_; refine rP 5 40 ?_; refine rP 7 42 ?_; refine rT 1 36 ?_; refine rP 3 38 ?_; refine rT 4 39 ?_; refine rT 6 41 ?_; refine rP 8 43 ?_; refine rT 9 44 ?_; refine rT 10 45 ?_
 refine one_ (i := 11) (N := some 46) #[true, true, true, true, true, true, true, true, true, true, true, true, false, false] rfl rfl (one_of HT_.out ψ12) ψ13 (fun K hK => ?_)
 refine goes_ Try.func70 ψ12 rfl #[.agg #[.int .i64 a0_0, .slice A0_1 l0_1.length c0_1, .slice A0_2 l0_2.length c0_2, .int .i64 a0_3, .slice (some ad306) l0_4.length c0_4, .slice A0_5 l0_5.length c0_5]] ψ14 rfl rfl ψ15 ?_
 with_reducible refine (spec_l3Size.calls k2 a0_0 _ _ l0_1 _ _ l0_2 a0_3 _ _ l0_4 _ _ l0_5 _ _ ?_ ?_ ?_ ?_ ?_ ?_ ?_ ?_ A26.out).mono ?_
 exact ψ9; exact HC0_1.out; exact ψ3; exact HC0_2.out; exact ψ16; exact HC0_4.out; exact ψ17; exact HC0_5.out
 rintro e w2_ ⟨rfl, hb⟩
 refine ⟨_, rfl, ?_⟩
 have q := n3_ (blk_below (g := gb10) ψ10 hb) (blk_below (g := gb11) ψ24 hb) (below_step ψ25 hb)
 clear BK10 BK11 HB
 obtain ⟨BK10, BK11, HB⟩ := q
 (try clear hb)
 refine hK.out _ _ ⟨(blk_cell BK11.out 0).trans rfl, (blk_cell BK11.out 1).trans rfl, (blk_cell BK10.out 0).trans rfl, (blk_cell BK10.out 1).trans rfl, (blk_cell BK10.out 2).trans rfl, (blk_cell BK10.out 3).trans rfl, (blk_cell BK10.out 4).trans rfl, (blk_cell BK10.out 5).trans rfl, ((HB.out.cell (World.block_lt_of_cell? w _ hw304_0)).trans hw304_0), ((HB.out.cell (World.block_lt_of_cell? w _ hw306_0)).trans hw306_0)⟩ (fun hHeld => ?_)
 clear hK K
 refine rN 46 ?_
 refine one_ (i := 12) (N := some 47) #[true, true, true, true, true, true, true, true, true, true, true, true, true, false] rfl rfl (one_of HT_.out ψ12) ψ13 (fun K hK => ?_)
 refine goes_ Try.func68 ψ12 rfl #[.slice A304_0 (rd_L5 l1_1 x5_2).length c304_0, .int .i64 (rd l0_4 x5_2), .int .i64 t308] ψ14 rfl rfl ψ15 ?_
 with_reducible refine (spec_l5Values.calls k2 _ _ (rd_L5 l1_1 x5_2) (rd l0_4 x5_2) t308 _ _ ?_ ?_ A27.out).mono ?_
 exact (by repeat (first | exact (Kd.C_below HR304_0.out HB.out) | (with_reducible refine Kd.C_alloc ?_ _) | (with_reducible refine Kd.C_drewN ?_ _) | (with_reducible refine Kd.C_drew ?_))); exact HC304_0.out
 rintro e w' ⟨rfl, ⟨nd, rfl⟩⟩
 refine ⟨_, rfl, ?_⟩
 refine hK.out _ _ ⟨(blk_cell BK11.out 0).trans rfl, (blk_cell BK11.out 1).trans rfl, (blk_cell BK10.out 0).trans rfl, (blk_cell BK10.out 1).trans rfl, (blk_cell BK10.out 2).trans rfl, (blk_cell BK10.out 3).trans rfl, (blk_cell BK10.out 4).trans rfl, (blk_cell BK10.out 5).trans rfl, ((HB.out.cell (World.block_lt_of_cell? w _ hw304_0)).trans hw304_0), ((HB.out.cell (World.block_lt_of_cell? w _ hw306_0)).trans hw306_0)⟩ (fun hHeld => ?_)
 clear hK K
 refine rN 47 ?_; refine rP 13 48 ?_
 refine done_ (done_of HT_.out ψ12) ?_
 try go_wp2
 first | (go_roundg k2; (case measure => have := HJ2.out; have := HK2.out; omega); (case rel => exact ⟨(wrap64 (x5_2 + 1)), ψ7, H', ⟨ψ33⟩, ⟨ψ10⟩, ⟨ψ24⟩, ⟨ψ25⟩⟩)) | (go_ret; exact ⟨ψ4, ψ25⟩)) : P := h
theorem spec_EnvOk.calls (k : Nat) (a0_0 : Int) (A0_1 : Option Addr) (c0_1 : Nat) (l0_1 : List (S106)) (A0_2 : Option Addr) (c0_2 : Nat) (l0_2 : List (S106)) (a0_3 : Int) (A0_4 : Option Addr) (c0_4 : Nat) (l0_4 : List Int) (A0_5 : Option Addr) (c0_5 : Nat) (l0_5 : List (S114)) (A1_0 : Option Addr) (c1_0 : Nat) (l1_0 : List Int) (A1_1 : Option Addr) (c1_1 : Nat) (l1_1 : List (List Int)) (r : Bool) (w : World) (hr0_1 : Kd.C k106 w A0_1 l0_1.length l0_1) (hc0_1 : l0_1.length ≤ c0_1) (hr0_2 : Kd.C k106 w A0_2 l0_2.length l0_2) (hc0_2 : l0_2.length ≤ c0_2) (hr0_4 : Kd.C (Kd.int .i64) w A0_4 l0_4.length l0_4) (hc0_4 : l0_4.length ≤ c0_4) (hr0_5 : Kd.C k114 w A0_5 l0_5.length l0_5) (hc0_5 : l0_5.length ≤ c0_5) (hr1_0 : Kd.C (Kd.int .i64) w A1_0 l1_0.length l1_0) (hc1_0 : l1_0.length ≤ c1_0) (hr1_1 : Kd.C (Kd.slice 2 (Kd.int .i64)) w A1_1 l1_1.length l1_1) (hc1_1 : l1_1.length ≤ c1_1) (h : spec_EnvOk.f k a0_0 l0_1 l0_2 a0_3 l0_4 l0_5 l1_0 l1_1 = some r) :
 Calls Try.prog 17 #[.agg #[.int .i64 a0_0, .slice A0_1 l0_1.length c0_1, .slice A0_2 l0_2.length c0_2, .int .i64 a0_3, .slice A0_4 l0_4.length c0_4, .slice A0_5 l0_5.length c0_5], .agg #[.slice A1_0 l1_0.length c1_0, .slice A1_1 l1_1.length c1_1]] w fun e w' => e = .returned (.bool r) ∧ Below w.heap.size w w' := by
 have hu36 := Try.underlying36
 have hu38 := Try.underlying38
 have q := n12_ hr0_1 hc0_1 hr0_2 hc0_2 hr0_4 hc0_4 hr0_5 hc0_5 hr1_0 hc1_0 hr1_1 hc1_1
 clear hr0_1 hc0_1 hr0_2 hc0_2 hr0_4 hc0_4 hr0_5 hc0_5 hr1_0 hc1_0 hr1_1 hc1_1
 obtain ⟨HR0_1, HC0_1, HR0_2, HC0_2, HR0_4, HC0_4, HR0_5, HC0_5, HR1_0, HC1_0, HR1_1, HC1_1⟩ := q
 have HB := Aside0.mk (Below.refl w.heap.size w)
 unfold spec_EnvOk.f at h
 have H := h
 clear h
 have HC3 := Aside0.mk H
 clear H
 go_enter Try.func17, Try.ntmps17
 go_upto_region 1 with (first | ((with_reducible refine gate_dst (N := 2) rfl ?_); (try (refine gate_guard ψ14 ?_; dsimp only)); refine bE 2 #[.int .i64 a0_0, .slice A0_1 l0_1.length c0_1, .slice A0_2 l0_2.length c0_2, .int .i64 a0_3, .slice A0_4 l0_4.length c0_4, .slice A0_5 l0_5.length c0_5] 36 ?_; intro gb10 hg w4 hbox hb; have q := n4_ (below_step ψ25 hb) (hbox) ((ψ115 : w.heap.size ≤ gb10)) ((ψ115 : w.heap.size ≤ gb10)); clear HB; obtain ⟨HB, BK10, GW10, GE10⟩ := q; clear hb hbox hg) | ((with_reducible refine gate_dst (N := 3) rfl ?_); (try (refine gate_guard ψ14 ?_; dsimp only)); refine bE 3 #[.slice A1_0 l1_0.length c1_0, .slice A1_1 l1_1.length c1_1] 38 ?_; intro gb11 hg w5 hbox hb; have q := n7_ (blk_below (g := gb10) ψ10 hb) (below_step ψ25 hb) (hbox) ((ψ115 : w.heap.size ≤ gb11)) ((ψ115 : w.heap.size ≤ gb11)) ((ψ116 : gb10 ≠ gb11)) ((ψ117 : gb11 ≠ gb10)); clear BK10 HB; obtain ⟨BK10, HB, BK11, GW11, GE11, NB10_11, NB11_10⟩ := q; clear hb hbox hg))
 (try simp only [Act.put, List.setIfInBounds_toArray, List.set_cons_zero, List.set_cons_succ])
 go_cut [27] (fun v27 wc => ∃ (kq : Nat) (x27_2 : Bool), v27 = .bool x27_2 ∧ Aside0 (spec_EnvOk.j0 kq x27_2 a0_0 l0_1 l0_2 a0_3 l0_4 l0_5 l1_0 l1_1 = some r) ∧ Aside0 (kq ≤ k) ∧ Aside0 (wc.heap[gb10]? = some (.cells #[.int .i64 a0_0, (.slice A0_1 l0_1.length c0_1), (.slice A0_2 l0_2.length c0_2), .int .i64 a0_3, (.slice A0_4 l0_4.length c0_4), (.slice A0_5 l0_5.length c0_5)] 36 (0, 0))) ∧ Aside0 (wc.heap[gb11]? = some (.cells #[(.slice A1_0 l1_0.length c1_0), (.slice A1_1 l1_1.length c1_1)] 38 (0, 0))) ∧ Aside0 (Below w.heap.size w wc))
 case first =>
  have H := HC3.out
  clear HC3
  replace H := bS H; obtain ⟨t293, A6, H⟩ := H
  replace H := ifB H; rcases H with ⟨rfl, H⟩ | ⟨rfl, H⟩
  ·replace H := bS H; obtain ⟨t296, A8, H⟩ := H
   replace H := bS H; obtain ⟨t298, A9, H⟩ := H
   replace H := bS H; obtain ⟨t299, A10, H⟩ := H
   replace H := ifB H; rcases H with ⟨rfl, H⟩ | ⟨rfl, H⟩
   ·have H' := Aside0.mk H
    clear H
    try go_wp2
    have q := n3_ (blk_drew BK10.out) (blk_drew BK11.out) (below_drew1 HB.out)
    clear BK10 BK11 HB
    obtain ⟨BK10, BK11, HB⟩ := q
    refine start_ (n := 22) (S := fun w' => w'.cell? ⟨gb10, 0, none⟩ = some (.int .i64 a0_0) ∧ w'.cell? ⟨gb10, 1, none⟩ = some (.slice A0_1 l0_1.length c0_1) ∧ w'.cell? ⟨gb10, 2, none⟩ = some (.slice A0_2 l0_2.length c0_2) ∧ w'.cell? ⟨gb10, 3, none⟩ = some (.int .i64 a0_3) ∧ w'.cell? ⟨gb10, 4, none⟩ = some (.slice A0_4 l0_4.length c0_4) ∧ w'.cell? ⟨gb10, 5, none⟩ = some (.slice A0_5 l0_5.length c0_5) ∧ w'.cell? ⟨gb11, 0, none⟩ = some (.slice A1_0 l1_0.length c1_0) ∧ w'.cell? ⟨gb11, 1, none⟩ = some (.slice A1_1 l1_1.length c1_1)) (ds := []) #[false, false, false, false, false, false, false, false, false, false, false, false, false, false, false, false, false, false, false, false, false, false] ψ12 rfl rfl ⟨(blk_cell BK10.out 0).trans rfl, (blk_cell BK10.out 1).trans rfl, (blk_cell BK10.out 2).trans rfl, (blk_cell BK10.out 3).trans rfl, (blk_cell BK10.out 4).trans rfl, (blk_cell BK10.out 5).trans rfl, (blk_cell BK11.out 0).trans rfl, (blk_cell BK11.out 1).trans rfl⟩ (fun hHeld => ?_); refine with_tabW spec_EnvOk.tab1 spec_EnvOk.bits1 (fun HT_ HW_ => ?_)
    generalize w5.drew = w12 at BK10 BK11 HB hHeld ⊢
    refine rT 0 6 ?_
    refine one_ (i := 1) (N := some 7) #[true, true, false, false, false, false, false, false, false, false, false, false, false, false, false, false, false, false, false, false, false, false] rfl rfl (one_of HT_.out ψ12) ψ13 (fun K hK => ?_)
    refine goes_ Try.func67 ψ12 rfl #[.agg #[.int .i64 a0_0, .slice A0_1 l0_1.length c0_1, .slice A0_2 l0_2.length c0_2, .int .i64 a0_3, .slice A0_4 l0_4.length c0_4, .slice A0_5 l0_5.length c0_5]] ψ14 rfl rfl ψ15 ?_
    with_reducible refine (spec_ProgOk.calls k a0_0 _ _ l0_1 _ _ l0_2 a0_3 _ _ l0_4 _ _ l0_5 _ _ ?_ ?_ ?_ ?_ ?_ ?_ ?_ ?_ A6.out).mono ?_
    exact ψ9; exact HC0_1.out; exact ψ3; exact HC0_2.out; exact ψ16; exact HC0_4.out; exact ψ17; exact HC0_5.out
    rintro e w13 ⟨rfl, hb⟩
    refine ⟨_, rfl, ?_⟩
    have q := n3_ (blk_below (g := gb10) ψ10 hb) (blk_below (g := gb11) ψ24 hb) (below_step ψ25 hb)
    clear BK10 BK11 HB
    obtain ⟨BK10, BK11, HB⟩ := q
    (try clear hb)
    refine hK.out _ _ ⟨(blk_cell BK10.out 0).trans rfl, (blk_cell BK10.out 1).trans rfl, (blk_cell BK10.out 2).trans rfl, (blk_cell BK10.out 3).trans rfl, (blk_cell BK10.out 4).trans rfl, (blk_cell BK10.out 5).trans rfl, (blk_cell BK11.out 0).trans rfl, (blk_cell BK11.out 1).trans rfl⟩ (fun hHeld => ?_)
    clear hK K
    refine rN 7 ?_; refine rP 2 8 ?_; refine rP 3 9 ?_; refine rP 4 10 ?_; refine rT 5 11 ?_; refine rT 6 12 ?_; refine rT 8 14 ?_
    refine one_ (i := 7) (N := some 13) #[true, true, true, true, true, true, true, true, true, false, false, false, false, false, false, false, false, false, false, false, false, false] rfl rfl (one_of HT_.out ψ12) ψ13 (fun K hK => ?_)
    refine goes_ Try.func69 ψ12 rfl #[.agg #[.int .i64 a0_0, .slice A0_1 l0_1.length c0_1, .slice A0_2 l0_2.length c0_2, .int .i64 a0_3, .slice A0_4 l0_4.length c0_4, .slice A0_5 l0_5.length c0_5]] ψ14 rfl rfl ψ15 ?_
    with_reducible refine (spec_l3Vars.calls a0_0 _ _ l0_1 _ _ l0_2 a0_3 _ _ l0_4 _ _ l0_5 _ _ ?_ ?_ ?_ ?_ ?_ ?_ ?_ ?_ A8.out).mono ?_
    exact ψ9; exact HC0_1.out; exact ψ3; exact HC0_2.out; exact ψ16; exact HC0_4.out; exact ψ17; exact HC0_5.out
    rintro e w14 ⟨rfl, hb⟩
    refine ⟨_, rfl, ?_⟩
    have q := n3_ (blk_below (g := gb10) ψ10 hb) (blk_below (g := gb11) ψ24 hb) (below_step ψ25 hb)
    clear BK10 BK11 HB
    obtain ⟨BK10, BK11, HB⟩ := q
    (try clear hb)
    refine hK.out _ _ ⟨(blk_cell BK10.out 0).trans rfl, (blk_cell BK10.out 1).trans rfl, (blk_cell BK10.out 2).trans rfl, (blk_cell BK10.out 3).trans rfl, (blk_cell BK10.out 4).trans rfl, (blk_cell BK10.out 5).trans rfl, (blk_cell BK11.out 0).trans rfl, (blk_cell BK11.out 1).trans rfl⟩ (fun hHeld => ?_)
    clear hK K
    refine rN 13 ?_
    refine one_ (i := 9) (N := some 15) #[true, true, true, true, true, true, true, true, true, true, false, false, false, false, false, false, false, false, false, false, false, false] rfl rfl (one_of HT_.out ψ12) ψ13 (fun K hK => ?_)
    refine goes_ Try.func70 ψ12 rfl #[.agg #[.int .i64 a0_0, .slice A0_1 l0_1.length c0_1, .slice A0_2 l0_2.length c0_2, .int .i64 a0_3, .slice A0_4 l0_4.length c0_4, .slice A0_5 l0_5.length c0_5]] ψ14 rfl rfl ψ15 ?_
    with_reducible refine (spec_l3Size.calls k a0_0 _ _ l0_1 _ _ l0_2 a0_3 _ _ l0_4 _ _ l0_5 _ _ ?_ ?_ ?_ ?_ ?_ ?_ ?_ ?_ A9.out).mono ?_
    exact ψ9; exact HC0_1.out; exact ψ3; exact HC0_2.out; exact ψ16; exact HC0_4.out; exact ψ17; exact HC0_5.out
    rintro e w15 ⟨rfl, hb⟩
    refine ⟨_, rfl, ?_⟩
    have q := n3_ (blk_below (g := gb10) ψ10 hb) (blk_below (g := gb11) ψ24 hb) (below_step ψ25 hb)
    clear BK10 BK11 HB
    obtain ⟨BK10, BK11, HB⟩ := q
    (try clear hb)
    refine hK.out _ _ ⟨(blk_cell BK10.out 0).trans rfl, (blk_cell BK10.out 1).trans rfl, (blk_cell BK10.out 2).trans rfl, (blk_cell BK10.out 3).trans rfl, (blk_cell BK10.out 4).trans rfl, (blk_cell BK10.out 5).trans rfl, (blk_cell BK11.out 0).trans rfl, (blk_cell BK11.out 1).trans rfl⟩ (fun hHeld => ?_)
    clear hK K
    refine rN 15 ?_
    refine one_ (i := 10) (N := some 16) #[true, true, true, true, true, true, true, true, true, true, true, false, false, false, false, false, false, false, false, false, false, false] rfl rfl (one_of HT_.out ψ12) ψ13 (fun K hK => ?_)
    refine goes_ Try.func68 ψ12 rfl #[.slice A1_0 l1_0.length c1_0, .int .i64 t296, .int .i64 t298] ψ14 rfl rfl ψ15 ?_
    with_reducible refine (spec_l5Values.calls k _ _ l1_0 t296 t298 _ _ ?_ ?_ A10.out).mono ?_
    exact ψ34; exact HC1_0.out
    rintro e w' ⟨rfl, ⟨nd, rfl⟩⟩
    refine ⟨_, rfl, ?_⟩
    refine hK.out _ _ ⟨(blk_cell BK10.out 0).trans rfl, (blk_cell BK10.out 1).trans rfl, (blk_cell BK10.out 2).trans rfl, (blk_cell BK10.out 3).trans rfl, (blk_cell BK10.out 4).trans rfl, (blk_cell BK10.out 5).trans rfl, (blk_cell BK11.out 0).trans rfl, (blk_cell BK11.out 1).trans rfl⟩ (fun hHeld => ?_)
    clear hK K
    refine rN 16 ?_; refine rP 11 17 ?_; refine rP 12 18 ?_; refine rP 13 19 ?_; refine rP 14 20 ?_; refine rP 17 23 ?_; refine rT 15 21 ?_; refine rP 16 22 ?_; refine rT 18 24 ?_; refine rP 19 25 ?_; refine rP 20 26 ?_; refine rP 21 27 ?_
    refine done_ (done_of HT_.out ψ12) ?_
    try go_wp2
    go_meet
    case rel => exact ⟨_, (((l1_1.length : Int) != (l0_4.length : Int))), ψ7, H', ⟨ψ19⟩, ⟨ψ10⟩, ⟨ψ24⟩, ⟨ψ25⟩⟩
   ·have H' := Aside0.mk H
    clear H
    try go_wp2
    have q := n3_ (blk_drew BK10.out) (blk_drew BK11.out) (below_drew1 HB.out)
    clear BK10 BK11 HB
    obtain ⟨BK10, BK11, HB⟩ := q
    refine start_ (n := 22) (S := fun w' => w'.cell? ⟨gb10, 0, none⟩ = some (.int .i64 a0_0) ∧ w'.cell? ⟨gb10, 1, none⟩ = some (.slice A0_1 l0_1.length c0_1) ∧ w'.cell? ⟨gb10, 2, none⟩ = some (.slice A0_2 l0_2.length c0_2) ∧ w'.cell? ⟨gb10, 3, none⟩ = some (.int .i64 a0_3) ∧ w'.cell? ⟨gb10, 4, none⟩ = some (.slice A0_4 l0_4.length c0_4) ∧ w'.cell? ⟨gb10, 5, none⟩ = some (.slice A0_5 l0_5.length c0_5) ∧ w'.cell? ⟨gb11, 0, none⟩ = some (.slice A1_0 l1_0.length c1_0) ∧ w'.cell? ⟨gb11, 1, none⟩ = some (.slice A1_1 l1_1.length c1_1)) (ds := []) #[false, false, false, false, false, false, false, false, false, false, false, false, false, false, false, false, false, false, false, false, false, false] ψ12 rfl rfl ⟨(blk_cell BK10.out 0).trans rfl, (blk_cell BK10.out 1).trans rfl, (blk_cell BK10.out 2).trans rfl, (blk_cell BK10.out 3).trans rfl, (blk_cell BK10.out 4).trans rfl, (blk_cell BK10.out 5).trans rfl, (blk_cell BK11.out 0).trans rfl, (blk_cell BK11.out 1).trans rfl⟩ (fun hHeld => ?_); refine with_tabW spec_EnvOk.tab1 spec_EnvOk.bits1 (fun HT_ HW_ => ?_)
    generalize w5.drew = w16 at BK10 BK11 HB hHeld ⊢
    refine rT 0 6 ?_
    refine one_ (i := 1) (N := some 7) #[true, true, false, false, false, false, false, false, false, false, false, false, false, false, false, false, false, false, false, false, false, false] rfl rfl (one_of HT_.out ψ12) ψ13 (fun K hK => ?_)
    refine goes_ Try.func67 ψ12 rfl #[.agg #[.int .i64 a0_0, .slice A0_1 l0_1.length c0_1, .slice A0_2 l0_2.length c0_2, .int .i64 a0_3, .slice A0_4 l0_4.length c0_4, .slice A0_5 l0_5.length c0_5]] ψ14 rfl rfl ψ15 ?_
    with_reducible refine (spec_ProgOk.calls k a0_0 _ _ l0_1 _ _ l0_2 a0_3 _ _ l0_4 _ _ l0_5 _ _ ?_ ?_ ?_ ?_ ?_ ?_ ?_ ?_ A6.out).mono ?_
    exact ψ9; exact HC0_1.out; exact ψ3; exact HC0_2.out; exact ψ16; exact HC0_4.out; exact ψ17; exact HC0_5.out
    rintro e w17 ⟨rfl, hb⟩
    refine ⟨_, rfl, ?_⟩
    have q := n3_ (blk_below (g := gb10) ψ10 hb) (blk_below (g := gb11) ψ24 hb) (below_step ψ25 hb)
    clear BK10 BK11 HB
    obtain ⟨BK10, BK11, HB⟩ := q
    (try clear hb)
    refine hK.out _ _ ⟨(blk_cell BK10.out 0).trans rfl, (blk_cell BK10.out 1).trans rfl, (blk_cell BK10.out 2).trans rfl, (blk_cell BK10.out 3).trans rfl, (blk_cell BK10.out 4).trans rfl, (blk_cell BK10.out 5).trans rfl, (blk_cell BK11.out 0).trans rfl, (blk_cell BK11.out 1).trans rfl⟩ (fun hHeld => ?_)
    clear hK K
    refine rN 7 ?_; refine rP 2 8 ?_; refine rP 3 9 ?_; refine rP 4 10 ?_; refine rT 5 11 ?_; refine rT 6 12 ?_; refine rT 8 14 ?_
    refine one_ (i := 7) (N := some 13) #[true, true, true, true, true, true, true, true, true, false, false, false, false, false, false, false, false, false, false, false, false, false] rfl rfl (one_of HT_.out ψ12) ψ13 (fun K hK => ?_)
    refine goes_ Try.func69 ψ12 rfl #[.agg #[.int .i64 a0_0, .slice A0_1 l0_1.length c0_1, .slice A0_2 l0_2.length c0_2, .int .i64 a0_3, .slice A0_4 l0_4.length c0_4, .slice A0_5 l0_5.length c0_5]] ψ14 rfl rfl ψ15 ?_
    with_reducible refine (spec_l3Vars.calls a0_0 _ _ l0_1 _ _ l0_2 a0_3 _ _ l0_4 _ _ l0_5 _ _ ?_ ?_ ?_ ?_ ?_ ?_ ?_ ?_ A8.out).mono ?_
    exact ψ9; exact HC0_1.out; exact ψ3; exact HC0_2.out; exact ψ16; exact HC0_4.out; exact ψ17; exact HC0_5.out
    rintro e w18 ⟨rfl, hb⟩
    refine ⟨_, rfl, ?_⟩
    have q := n3_ (blk_below (g := gb10) ψ10 hb) (blk_below (g := gb11) ψ24 hb) (below_step ψ25 hb)
    clear BK10 BK11 HB
    obtain ⟨BK10, BK11, HB⟩ := q
    (try clear hb)
    refine hK.out _ _ ⟨(blk_cell BK10.out 0).trans rfl, (blk_cell BK10.out 1).trans rfl, (blk_cell BK10.out 2).trans rfl, (blk_cell BK10.out 3).trans rfl, (blk_cell BK10.out 4).trans rfl, (blk_cell BK10.out 5).trans rfl, (blk_cell BK11.out 0).trans rfl, (blk_cell BK11.out 1).trans rfl⟩ (fun hHeld => ?_)
    clear hK K
    refine rN 13 ?_
    refine one_ (i := 9) (N := some 15) #[true, true, true, true, true, true, true, true, true, true, false, false, false, false, false, false, false, false, false, false, false, false] rfl rfl (one_of HT_.out ψ12) ψ13 (fun K hK => ?_)
    refine goes_ Try.func70 ψ12 rfl #[.agg #[.int .i64 a0_0, .slice A0_1 l0_1.length c0_1, .slice A0_2 l0_2.length c0_2, .int .i64 a0_3, .slice A0_4 l0_4.length c0_4, .slice A0_5 l0_5.length c0_5]] ψ14 rfl rfl ψ15 ?_
    with_reducible refine (spec_l3Size.calls k a0_0 _ _ l0_1 _ _ l0_2 a0_3 _ _ l0_4 _ _ l0_5 _ _ ?_ ?_ ?_ ?_ ?_ ?_ ?_ ?_ A9.out).mono ?_
    exact ψ9; exact HC0_1.out; exact ψ3; exact HC0_2.out; exact ψ16; exact HC0_4.out; exact ψ17; exact HC0_5.out
    rintro e w19 ⟨rfl, hb⟩
    refine ⟨_, rfl, ?_⟩
    have q := n3_ (blk_below (g := gb10) ψ10 hb) (blk_below (g := gb11) ψ24 hb) (below_step ψ25 hb)
    clear BK10 BK11 HB
    obtain ⟨BK10, BK11, HB⟩ := q
    (try clear hb)
    refine hK.out _ _ ⟨(blk_cell BK10.out 0).trans rfl, (blk_cell BK10.out 1).trans rfl, (blk_cell BK10.out 2).trans rfl, (blk_cell BK10.out 3).trans rfl, (blk_cell BK10.out 4).trans rfl, (blk_cell BK10.out 5).trans rfl, (blk_cell BK11.out 0).trans rfl, (blk_cell BK11.out 1).trans rfl⟩ (fun hHeld => ?_)
    clear hK K
    refine rN 15 ?_
    refine one_ (i := 10) (N := some 16) #[true, true, true, true, true, true, true, true, true, true, true, false, false, false, false, false, false, false, false, false, false, false] rfl rfl (one_of HT_.out ψ12) ψ13 (fun K hK => ?_)
    refine goes_ Try.func68 ψ12 rfl #[.slice A1_0 l1_0.length c1_0, .int .i64 t296, .int .i64 t298] ψ14 rfl rfl ψ15 ?_
    with_reducible refine (spec_l5Values.calls k _ _ l1_0 t296 t298 _ _ ?_ ?_ A10.out).mono ?_
    exact ψ34; exact HC1_0.out
    rintro e w' ⟨rfl, ⟨nd, rfl⟩⟩
    refine ⟨_, rfl, ?_⟩
    refine hK.out _ _ ⟨(blk_cell BK10.out 0).trans rfl, (blk_cell BK10.out 1).trans rfl, (blk_cell BK10.out 2).trans rfl, (blk_cell BK10.out 3).trans rfl, (blk_cell BK10.out 4).trans rfl, (blk_cell BK10.out 5).trans rfl, (blk_cell BK11.out 0).trans rfl, (blk_cell BK11.out 1).trans rfl⟩ (fun hHeld => ?_)
    clear hK K
    refine rN 16 ?_; refine rP 11 17 ?_; refine rP 12 18 ?_; refine rP 13 19 ?_; refine rU 14 20 ?_; refine rU 15 21 ?_; refine rU 16 22 ?_; refine rU 17 23 ?_; refine rU 18 24 ?_; refine rU 19 25 ?_; refine rU 20 26 ?_; refine rP 21 27 ?_
    refine done_ (done_of HT_.out ψ12) ?_
    try go_wp2
    go_meet
    case rel => exact ⟨_, (true), ψ7, H', ⟨ψ19⟩, ⟨ψ10⟩, ⟨ψ24⟩, ⟨ψ25⟩⟩
  ·have H' := Aside0.mk H
   clear H
   try go_wp2
   have q := n3_ (blk_drew BK10.out) (blk_drew BK11.out) (below_drew1 HB.out)
   clear BK10 BK11 HB
   obtain ⟨BK10, BK11, HB⟩ := q
   refine start_ (n := 22) (S := fun w' => w'.cell? ⟨gb10, 0, none⟩ = some (.int .i64 a0_0) ∧ w'.cell? ⟨gb10, 1, none⟩ = some (.slice A0_1 l0_1.length c0_1) ∧ w'.cell? ⟨gb10, 2, none⟩ = some (.slice A0_2 l0_2.length c0_2) ∧ w'.cell? ⟨gb10, 3, none⟩ = some (.int .i64 a0_3) ∧ w'.cell? ⟨gb10, 4, none⟩ = some (.slice A0_4 l0_4.length c0_4) ∧ w'.cell? ⟨gb10, 5, none⟩ = some (.slice A0_5 l0_5.length c0_5)) (ds := []) #[false, false, false, false, false, false, false, false, false, false, false, false, false, false, false, false, false, false, false, false, false, false] ψ12 rfl rfl ⟨(blk_cell BK10.out 0).trans rfl, (blk_cell BK10.out 1).trans rfl, (blk_cell BK10.out 2).trans rfl, (blk_cell BK10.out 3).trans rfl, (blk_cell BK10.out 4).trans rfl, (blk_cell BK10.out 5).trans rfl⟩ (fun hHeld => ?_); refine with_tabW spec_EnvOk.tab1 spec_EnvOk.bits1 (fun HT_ HW_ => ?_)
   generalize w5.drew = w20 at BK10 BK11 HB hHeld ⊢
   refine rT 0 6 ?_
   refine one_ (i := 1) (N := some 7) #[true, true, false, false, false, false, false, false, false, false, false, false, false, false, false, false, false, false, false, false, false, false] rfl rfl (one_of HT_.out ψ12) ψ13 (fun K hK => ?_)
   refine goes_ Try.func67 ψ12 rfl #[.agg #[.int .i64 a0_0, .slice A0_1 l0_1.length c0_1, .slice A0_2 l0_2.length c0_2, .int .i64 a0_3, .slice A0_4 l0_4.length c0_4, .slice A0_5 l0_5.length c0_5]] ψ14 rfl rfl ψ15 ?_
   with_reducible refine (spec_ProgOk.calls k a0_0 _ _ l0_1 _ _ l0_2 a0_3 _ _ l0_4 _ _ l0_5 _ _ ?_ ?_ ?_ ?_ ?_ ?_ ?_ ?_ A6.out).mono ?_
   exact ψ9; exact HC0_1.out; exact ψ3; exact HC0_2.out; exact ψ16; exact HC0_4.out; exact ψ17; exact HC0_5.out
   rintro e w21 ⟨rfl, hb⟩
   refine ⟨_, rfl, ?_⟩
   have q := n3_ (blk_below (g := gb10) ψ10 hb) (blk_below (g := gb11) ψ24 hb) (below_step ψ25 hb)
   clear BK10 BK11 HB
   obtain ⟨BK10, BK11, HB⟩ := q
   (try clear hb)
   refine hK.out _ _ ⟨(blk_cell BK10.out 0).trans rfl, (blk_cell BK10.out 1).trans rfl, (blk_cell BK10.out 2).trans rfl, (blk_cell BK10.out 3).trans rfl, (blk_cell BK10.out 4).trans rfl, (blk_cell BK10.out 5).trans rfl⟩ (fun hHeld => ?_)
   clear hK K
   refine rN 7 ?_; refine rP 2 8 ?_; refine rP 3 9 ?_; refine rU 4 10 ?_; refine rU 5 11 ?_; refine rU 6 12 ?_; refine rU 7 13 ?_; refine rU 8 14 ?_; refine rU 9 15 ?_; refine rU 10 16 ?_; refine rU 11 17 ?_; refine rP 12 18 ?_; refine rP 13 19 ?_; refine rU 14 20 ?_; refine rU 15 21 ?_; refine rU 16 22 ?_; refine rU 17 23 ?_; refine rU 18 24 ?_; refine rU 19 25 ?_; refine rU 20 26 ?_; refine rP 21 27 ?_
   refine done_ (done_of HT_.out ψ12) ?_
   try go_wp2
   go_meet
   case rel => exact ⟨_, (true), ψ7, H', ⟨ψ19⟩, ⟨ψ10⟩, ⟨ψ24⟩, ⟨ψ25⟩⟩
 case rest =>
  clear HC3
  try clear c7
  try clear c11
  obtain ⟨kq, x27_2, rfl, HA, HJ2, BK10, BK11, HB⟩ := hcut
  cases kq with
  | zero => exact absurd HA.out (by simp [spec_EnvOk.j0])
  | succ kj2 =>
   have H := HA.out
   clear HA
   simp only [spec_EnvOk.j0] at H
   replace H := ifB H; rcases H with ⟨rfl, H⟩ | ⟨rfl, H⟩
   ·obtain rfl := Option.some.inj H
    go_wp2
    go_ret
    exact ⟨ψ4, ψ25⟩
   ·have H' := Aside0.mk H
    clear H
    go_wp2
    go_loopg [5] kj2 (fun kq v5 w' => ∃ (x5_2 : Int), v5 = .int .i64 x5_2 ∧ Aside0 (spec_EnvOk.l0 kq x5_2 a0_0 l0_1 l0_2 a0_3 l0_4 l0_5 l1_0 l1_1 = some r) ∧ Aside0 (kq ≤ kj2) ∧ Aside0 (w'.heap[gb10]? = some (.cells #[.int .i64 a0_0, (.slice A0_1 l0_1.length c0_1), (.slice A0_2 l0_2.length c0_2), .int .i64 a0_3, (.slice A0_4 l0_4.length c0_4), (.slice A0_5 l0_5.length c0_5)] 36 (0, 0))) ∧ Aside0 (w'.heap[gb11]? = some (.cells #[(.slice A1_0 l1_0.length c1_0), (.slice A1_1 l1_1.length c1_1)] 38 (0, 0))) ∧ Aside0 (Below w.heap.size w w'))
    case atStart => exact ⟨(0), ψ7, H', ⟨Nat.le_refl _⟩, ⟨ψ10⟩, ⟨ψ24⟩, ⟨ψ25⟩⟩
    case round =>
     clear H'
     try clear c7
     try clear c11
     try clear c22
     obtain ⟨x5_2, rfl, HA, HK2, BK10, BK11, HB⟩ := hrel
     cases gk with
     | zero => exact absurd HA.out (by simp [spec_EnvOk.l0])
     | succ k2 =>
      have H := HA.out
      clear HA
      simp only [spec_EnvOk.l0] at H
      replace H := ifD H; rcases H with ⟨c23b0, H⟩ | ⟨c23b0, H⟩
      ·replace H := ifN H; obtain ⟨c24b0, H⟩ := H
       replace H := ifN H; obtain ⟨c25b0, H⟩ := H
       replace H := bS H; obtain ⟨t308, A26, H⟩ := H
       replace H := bS H; obtain ⟨t309, A27, H⟩ := H
       replace H := ifB H; rcases H with ⟨rfl, H⟩ | ⟨rfl, H⟩
       ·exact τ34
       ·exact τ34
      ·obtain rfl := Option.some.inj H
       have hnb37 := NB11_10.out
       have hnc37 := NB10_11.out
       obtain ⟨y38_0, y38_1, u38_0, u38_1⟩ := cells2 BK11.out
       go_wp2
       go_ret
       exact ⟨ψ4, ψ25⟩

/-! ### laws_toInt64SS: function 73 -/
def laws_toInt64SS.l0 : Nat → List (List Int) → List (List Int) → Int → Option ((List (List Int)))
 | 0, _, _, _ => none
 | k + 1, x0, x3, x4 => if x4 < (x0.length : Int) then (if 0 ≤ x4 then ((laws_toInt64S.f k (rd_L5 x0 x4)).bind fun t394 => (if x4 < (x3.length : Int) then (laws_toInt64SS.l0 k x0 (x3.set (x4 : Int).toNat t394) (wrap64 (x4 + 1))) else (none))) else (none)) else (some x3)
def laws_toInt64SS.f (k : Nat) (l0 : List (List Int)) : Option ((List (List Int))) := if 0 ≤ (l0.length : Int) then (if ((l0.length : Int) : Int).toNat ≤ 11728124029610 then (laws_toInt64SS.l0 k l0 (List.replicate ((l0.length : Int) : Int).toNat []) 0) else (none)) else (none)
theorem laws_toInt64SS.calls (k : Nat) (A0 : Option Addr) (c0 : Nat) (l0 : List (List Int)) (r : List (List Int)) (w : World) (hr0 : Kd.C (Kd.slice 2 (Kd.int .i64)) w A0 l0.length l0) (hc0 : l0.length ≤ c0) (h : laws_toInt64SS.f k l0 = some r) :
 Calls Try.prog 73 #[.slice A0 l0.length c0] w fun e w' => ∃ v0_ : Value, e = .returned (v0_) ∧ Kd.S (Kd.slice 2 (Kd.int .i64)) 23 w' w.heap.size (fun _ => True) v0_ r ∧ Below w.heap.size w w' := by
 have q := n2_ hr0 hc0
 clear hr0 hc0
 obtain ⟨HR0, HC0⟩ := q
 have HB := Aside0.mk (Below.refl w.heap.size w)
 unfold laws_toInt64SS.f at h
 have H := h
 clear h
 by_cases c2 : 0 ≤ (l0.length : Int)
 ·rw [if_pos c2] at H
  have c2b0 := eq_true c2
  have c2b1 : decide (0 ≤ (l0.length : Int)) = true := decide_eq_true c2
  clear c2
  by_cases c3 : ((l0.length : Int) : Int).toNat ≤ 11728124029610
  ·rw [if_pos c3] at H
   have c3b0 := eq_true c3
   have c3b1 : decide (((l0.length : Int) : Int).toNat ≤ 11728124029610) = true := decide_eq_true c3
   clear c3
   obtain ⟨y390, hy390⟩ : ∃ y_ : List (List Int), y_ = (List.replicate ((l0.length : Int) : Int).toNat []) := ⟨_, rfl⟩
   replace H : (laws_toInt64SS.l0 k l0 y390 0) = some r := by first | (rw [hy390]; with_reducible exact H) | (have H2_ := (Option.bind_some _ _).symm.trans H; rw [hy390]; with_reducible exact H2_) | (have H2_ := (Option.bind_some _ _).symm.trans H; with_reducible exact H2_) | with_reducible exact H | (rw [hy390]; exact H) | exact H
   have Ny390 := Aside0.mk hy390
   clear hy390
   have H' := Aside0.mk H
   clear H
   go_enter Try.func73, Try.ntmps73
   go_wp2_with (first | ((with_reducible refine gate_dst (N := 7) rfl ?_); refine Kd.S_make (Kd.slice 2 (Kd.int .i64)) _ 23 rfl (N := 7) rfl 27 _ _ rfl (l0.length : Int) rfl rfl Try.underlying27 (.slice none 0 0) 24 info23 rfl ψ13 ψ21 [] (ok := fun _ => True) (okp := fun _ => True) ⟨_, rfl, Kd.R_nil _ _ _ _ _⟩ (fun _ hk => hk) trivial (of_decide_eq_true ψ5) (Nat.le_trans (Nat.mul_le_mul_right _ (of_decide_eq_true ψ5 : (l0.length : Int).toNat ≤ 11728124029610)) ψ21) (Below.refl _ _) (Nat.le_refl _) ?_; intro v391 w4 ho5 hb hg_ hnew_; clear hg_ hnew_; (first | rw [← Ny390.out] at ho5 | (simp only [Int.reduceToNat] at ho5; rw [← Ny390.out] at ho5)); have q := n2_ (Kd.S_lower ho5 (below_size ψ6)) (below_step ψ6 hb); clear HB; obtain ⟨HO392, HB⟩ := q; clear hb ho5))
   go_loopg [4] k (fun kq v4 w' => ∃ (x3_1 : List (List Int)) (x4_1 : Int), v4 = .int .i64 x4_1 ∧ Aside0 (laws_toInt64SS.l0 kq l0 x3_1 x4_1 = some r) ∧ Aside0 (kq ≤ k) ∧ Aside0 (Kd.S (Kd.slice 2 (Kd.int .i64)) 23 w' w.heap.size (fun _ => True) v391 x3_1) ∧ Aside0 (Below w.heap.size w w'))
   case atStart => exact ⟨(y390), (0), ψ7, H', ⟨Nat.le_refl _⟩, ⟨have hZ := HO392; kS_⟩, ⟨ψ6⟩⟩
   case round =>
    clear H'
    try clear c2
    try clear c2b0
    try clear c2b1
    try clear c3
    try clear c3b0
    try clear c3b1
    obtain ⟨x3_1, x4_1, rfl, HA, HK1, HO_3, HB⟩ := hrel
    cases gk with
    | zero => exact absurd HA.out (by simp [laws_toInt64SS.l0])
    | succ k1 =>
     have H := HA.out
     clear HA
     simp only [laws_toInt64SS.l0] at H
     replace H := ifD H; rcases H with ⟨c6b0, H⟩ | ⟨c6b0, H⟩
     ·replace H := ifN H; obtain ⟨c7b0, H⟩ := H
      replace H := bS H; obtain ⟨t394, A8, H⟩ := H
      replace H := ifN H; obtain ⟨c9b0, H⟩ := H
      obtain ⟨y397, hy397⟩ : ∃ y_ : List (List Int), y_ = (x3_1.set (x4_1 : Int).toNat t394) := ⟨_, rfl⟩
      replace H : (laws_toInt64SS.l0 k1 l0 y397 (wrap64 (x4_1 + 1))) = some r := by first | (rw [hy397]; with_reducible exact H) | (have H2_ := (Option.bind_some _ _).symm.trans H; rw [hy397]; with_reducible exact H2_) | (have H2_ := (Option.bind_some _ _).symm.trans H; with_reducible exact H2_) | with_reducible exact H | (rw [hy397]; exact H) | exact H
      have Ny397 := Aside0.mk hy397
      clear hy397
      have H' := Aside0.mk H
      clear H
      have p393 : 0 ≤ (x4_1 : Int) := of_decide_eq_true ψ5
      have q393 : x4_1 < (l0.length : Int) := of_decide_eq_true ψ5
      obtain ⟨ad393, A393_0, c393_0, e393, hx393_0, hl393_0, hi393_0⟩ := at_L5 HR0.out x4_1 p393 q393
      cases e393
      replace hx393_0 := cB HB hx393_0
      have q := n2_ hi393_0 hl393_0
      clear hi393_0 hl393_0
      obtain ⟨HR393_0, HC393_0⟩ := q
      replace p393 := eq_true p393
      replace q393 := eq_true q393
      go_wp2_with (first | ((with_reducible refine gate_callee (f := 30) rfl ?_); refine gL 20 Try.func30 #[.slice A393_0 (rd_L5 l0 x4_1).length c393_0] ?_; (with_reducible refine (laws_toInt64S.calls k1 _ _ (rd_L5 l0 x4_1) _ _ ?_ ?_ A8.out).mono ?_); exact (by repeat (first | exact (Kd.C_below HR393_0.out HB.out) | (with_reducible refine Kd.C_alloc ?_ _) | (with_reducible refine Kd.C_drewN ?_ _) | (with_reducible refine Kd.C_drew ?_))); exact HC393_0.out; rintro e w11 ⟨v395, rfl, ho0, hb⟩; refine ⟨_, rfl, ?_⟩; have q := n3_ (Kd.S_elder' (have hZ := HO_3; kS_) (Kd.R_base ho0) hb) (Kd.R_lower ho0 (below_size ψ6)) (below_step ψ6 hb); clear HO_3 HB; obtain ⟨HO_3, HO396, HB⟩ := q; (try clear hb); (try clear ho0); have p10 : 0 ≤ (x4_1 : Int) := of_decide_eq_true ψ5; have q10 : (x4_1 : Int) < ((x3_1.length : Int) : Int) := of_decide_eq_true ψ5; obtain ⟨go10, co10, eo10, gb10, gl10, cl10, HG10⟩ := Kd.S_form HO_3.out ψ21; (first | cases eo10 | (injection eo10 with ea_ en_ ec_; (first | subst ea_ | (injection ea_ with ea_; subst ea_)); subst ec_; clear en_)); have GB10 := Aside0.mk gb10; have GG10 := Aside0.mk HG10; clear gb10 gl10 HG10; obtain ⟨_, ce10, hcl10, hM10, hcc10, hfr10, _, _⟩ := Kd.S_elem HO_3.out [] (x4_1 : Int) p10 q10; obtain ⟨ve10_0, rfl, ge10_0⟩ := hM10; have hx10_0 := hcc10 0 _ rfl; have hf10_0 := hfr10 0; (try simp only [show ((Kd.slice 2 (Kd.int .i64))).sz = 1 from rfl, Nat.mul_one, Nat.add_zero] at hx10_0); (try simp only [show ((Kd.slice 2 (Kd.int .i64))).sz = 1 from rfl, Nat.mul_one, Nat.add_zero] at hf10_0); (try clear hcl10); (try clear hcc10); (try clear hfr10); (try clear hM10); replace p10 := eq_true p10; replace q10 := eq_true q10; have n_ := Aside0.mk (Kd.S_mono (ok' := (fun k_ => some k_ ≠ (v395 : Value).ownBlock)) HO_3.out (fun k_ hk => hk.2)); clear HO_3; have HO_3 := n_; clear n_; have HX12 := Aside0.mk (show Kd.S (Kd.slice 2 (Kd.int .i64)) 23 w11 w.heap.size (fun k_ => ((fun _ => True)) k_ ∧ ¬ ((fun k_ => some k_ = (v395 : Value).ownBlock)) k_) (.slice (some ⟨go10, 0, none⟩) x3_1.length co10) x3_1 from (by (with_reducible repeat (first | apply Kd.S_alloc | apply Kd.S_drewN | apply Kd.S_drew)); exact Kd.S_mono HO_3.out (fun k_ hk => ⟨trivial, fun e_ => hk e_⟩))); obtain ⟨oki12, ce12, hcl12, hM12, hcc12, hfr12, hoki12, hH12⟩ := Kd.S_elem HX12.out [] (x4_1 : Int) (of_decide_eq_true ψ5) (by have h_ : (x4_1 : Int) < ((x3_1.length : Int) : Int) := of_decide_eq_true ψ5; first | exact h_ | (have e_ := (Kd.S_reads' HO_3.out).1; omega) | simpa using h_); obtain ⟨ve12_0, rfl, ge12_0⟩ := hM12; have HP12 := Kd.S_seg hH12 (of_decide_eq_true ψ5) (by have h_ : (x4_1 : Int) < ((x3_1.length : Int) : Int) := of_decide_eq_true ψ5; first | exact h_ | (have e_ := (Kd.S_reads' HO_3.out).1; omega) | simpa using h_) (seg := [v395]) (j := 0) (show 1 ≤ 1 from ψ13) (x' := t394) (Kd.M_row (Kd.R_mono (Kd.R_tight rfl (Kd.R_mono (ok' := fun k_ => ((fun _ => True)) k_ ∧ k_ ≠ go10) (Kd.R_apart' (HO396.out) (Kd.S_typed HO_3.out) ψ13) (fun k_ hk => ⟨trivial, fun e_ => (hk.2) (by rw [e_]; rfl)⟩))) (fun _ h_ => Or.inr (h_)))) (fun _ hk => hk) (fun k_ hk_ => ((Kd.R_mono (ok' := fun k_ => ((fun _ => True)) k_ ∧ k_ ≠ go10) (Kd.R_apart' (HO396.out) (Kd.S_typed HO_3.out) ψ13) (fun k_ hk => ⟨trivial, fun e_ => (hk.2) (by rw [e_]; rfl)⟩))).1 k_ hk_.symm); have hx12_0 := hcc12 0 _ rfl; (try simp only [show ((Kd.slice 2 (Kd.int .i64))).sz = 1 from rfl, Nat.mul_one, Nat.add_zero] at hx12_0); have hf12_0 := hfr12 0; (try simp only [show ((Kd.slice 2 (Kd.int .i64))).sz = 1 from rfl, Nat.mul_one, Nat.add_zero] at hf12_0); (try clear hcl12); (try clear hcc12); (try clear hfr12); (try clear hM12); (try clear hoki12); (try clear hH12); (try simp only [show ((Kd.slice 2 (Kd.int .i64))).sz = 1 from rfl, Nat.mul_one, Nat.add_zero] at HP12)) | ((with_reducible refine gate_store (t := 23) (p := 21) rfl ?_); have v395_hv_ : ∃ A_ n_ c_, v395 = .slice A_ n_ c_ := (by first | exact ⟨_, _, _, (Kd.R_slice HO396.out).choose_spec.choose_spec⟩ | exact ⟨_, _, _, (Kd.R_slice (Kd.S_R HO396.out)).choose_spec.choose_spec⟩); obtain ⟨_, _, _, v395_hw_⟩ := v395_hv_; refine store_event (t := 23) (p := 21) (v := ?vo_w13) (w1 := (w11.setCell ⟨go10, (x4_1 : Int).toNat, none⟩ (v395))) ?hg ?ho ?hn ?hr ?_; (case ho => rfl); (case hg => rfl); (case hn => rfl); (case hr => first | (go_simp; done) | (go_simp; rfl) | (simp only [v395_hw_]; go_simp; done) | (simp only [v395_hw_]; go_simp; rfl)); intro w13 hw; have hg : w11.grownBy w13 (some go10) := (by rw [hw]; exact HP12.2); have hp_ : Kd.S (Kd.slice 2 (Kd.int .i64)) 23 w13 w.heap.size (fun _ => True) (.slice (some ⟨go10, 0, none⟩) x3_1.length co10) y397 := (by rw [hw, Ny397.out]; exact HP12.1); clear HP12; have q := n2_ (hp_) ((by rw [hw]; exact below_set (HB.out) GB10.out : Below w.heap.size w w13)); clear HO_3 HB HO396; obtain ⟨HO_3, HB⟩ := q; clear hg hw hp_))
      go_roundg k1
      case measure => have := HK1.out; omega
      case rel => exact ⟨(y397), (wrap64 (x4_1 + 1)), ψ7, H', ⟨ψ8⟩, ⟨have hZ := HO_3; kS_⟩, ⟨ψ6⟩⟩
     ·obtain rfl := Option.some.inj H
      go_wp2
      go_ret
      exact ⟨_, ψ4, ψ44, ψ6⟩
  ·rw [if_neg c3] at H
   exact absurd H ψ22
 ·rw [if_neg c2] at H
  exact absurd H ψ22

/-! ### laws_toEnv: function 19 -/
def laws_toEnv.f (k : Nat) (l0_0 : List Int) (l0_1 : List (List Int)) : Option (List Int × (List (List Int))) := (laws_toInt64S.f k l0_0).bind fun t402 => ((laws_toInt64SS.f k l0_1).bind fun t406 => (some (t402, t406)))
theorem laws_toEnv.calls (k : Nat) (A0_0 : Option Addr) (c0_0 : Nat) (l0_0 : List Int) (A0_1 : Option Addr) (c0_1 : Nat) (l0_1 : List (List Int)) (r1 : List Int) (r2 : List (List Int)) (w : World) (hr0_0 : Kd.C (Kd.int .i64) w A0_0 l0_0.length l0_0) (hc0_0 : l0_0.length ≤ c0_0) (hr0_1 : Kd.C (Kd.slice 2 (Kd.int .i64)) w A0_1 l0_1.length l0_1) (hc0_1 : l0_1.length ≤ c0_1) (h : laws_toEnv.f k l0_0 l0_1 = some (r1, r2)) :
 Calls Try.prog 19 #[.agg #[.slice A0_0 l0_0.length c0_0, .slice A0_1 l0_1.length c0_1]] w fun e w' => ∃ v0_ v1_ : Value, e = .returned (.agg #[v0_, v1_]) ∧ Kd.R (Kd.int .i64) 2 w' w.heap.size (fun _ => True) v0_ r1 ∧ Kd.S (Kd.slice 2 (Kd.int .i64)) 23 w' w.heap.size (fun k_ => some k_ ≠ (v0_ : Value).ownBlock) v1_ r2 ∧ Below w.heap.size w w' := by
 have hu29 := Try.underlying29
 have hu38 := Try.underlying38
 have q := n4_ hr0_0 hc0_0 hr0_1 hc0_1
 clear hr0_0 hc0_0 hr0_1 hc0_1
 obtain ⟨HR0_0, HC0_0, HR0_1, HC0_1⟩ := q
 have HB := Aside0.mk (Below.refl w.heap.size w)
 unfold laws_toEnv.f at h
 have H := h
 clear h
 replace H := bS H; obtain ⟨t402, A2, H⟩ := H
 replace H := bS H; obtain ⟨t406, A3, H⟩ := H
 simp only [Option.some.injEq, Prod.mk.injEq] at H
 obtain ⟨rfl, rfl⟩ := H
 go_enter Try.func19, Try.ntmps19
 go_wp2_with (first | ((with_reducible refine gate_dst (N := 1) rfl ?_); refine bE 1 #[.slice A0_0 l0_0.length c0_0, .slice A0_1 l0_1.length c0_1] 29 ?_; intro gb10 hg w4 hbox hb; have q := n4_ (below_step ψ36 hb) (hbox) ((ψ119 : w.heap.size ≤ gb10)) ((ψ119 : w.heap.size ≤ gb10)); clear HB; obtain ⟨HB, BK10, GW10, GE10⟩ := q; clear hb hbox hg) | ((with_reducible refine gate_dst (N := 2) rfl ?_); refine bE 2 #[.slice none 0 0, .slice none 0 0] 38 ?_; intro gb11 hg w5 hbox hb; have q := n7_ (blk_below (g := gb10) ψ10 hb) (below_step ψ36 hb) (hbox) ((ψ119 : w.heap.size ≤ gb11)) ((ψ119 : w.heap.size ≤ gb11)) ((ψ116 : gb10 ≠ gb11)) ((ψ117 : gb11 ≠ gb10)); clear BK10 HB; obtain ⟨BK10, HB, BK11, GW11, GE11, NB10_11, NB11_10⟩ := q; clear hb hbox hg) | ((with_reducible refine gate_dst (N := 3) rfl ?_); refine bE 3 #[.slice none 0 0, .slice none 0 0] 38 ?_; intro gb12 hg w6 hbox hb; have q := n10_ (blk_below (g := gb10) ψ10 hb) (blk_below (g := gb11) ψ24 hb) (below_step ψ36 hb) (hbox) ((ψ119 : w.heap.size ≤ gb12)) ((ψ119 : w.heap.size ≤ gb12)) ((ψ116 : gb10 ≠ gb12)) ((ψ117 : gb12 ≠ gb10)) ((ψ120 : gb11 ≠ gb12)) ((ψ121 : gb12 ≠ gb11)); clear BK10 BK11 HB; obtain ⟨BK10, BK11, HB, BK12, GW12, GE12, NB10_12, NB12_10, NB11_12, NB12_11⟩ := q; clear hb hbox hg; have hnb7 := NB10_11.out; have hnc7 := NB11_10.out; have hnb8 := NB10_12.out; have hnc8 := NB12_10.out; obtain ⟨y9_0, y9_1, u9_0, u9_1⟩ := cells2 BK10.out) | ((with_reducible refine gate_callee (f := 30) rfl ?_); refine gL 6 Try.func30 #[.slice A0_0 l0_0.length c0_0] ?_; (with_reducible refine (laws_toInt64S.calls k _ _ l0_0 _ _ ?_ ?_ A2.out).mono ?_); exact ψ11; exact HC0_0.out; rintro e w10 ⟨v403, rfl, ho0, hb⟩; refine ⟨_, rfl, ?_⟩; have q := n5_ (Kd.R_lower ho0 (below_size ψ36)) (blk_below (g := gb10) ψ10 hb) (blk_below (g := gb11) ψ24 hb) (blk_below (g := gb12) ψ45 hb) (below_step ψ36 hb); clear BK10 BK11 BK12 HB; obtain ⟨HO404, BK10, BK11, BK12, HB⟩ := q; (try clear hb); (try clear ho0); obtain ⟨Ao11, co11, eo11⟩ := Kd.R_slice HO404.out; subst eo11; have hnb12 := NB12_11.out; have hnc12 := NB11_12.out; obtain ⟨y13_0, y13_1, u13_0, u13_1⟩ := cells2 BK12.out; obtain ⟨y14_0, y14_1, u14_0, u14_1⟩ := cells2 BK10.out) | ((with_reducible refine gate_callee (f := 73) rfl ?_); refine gL 10 Try.func73 #[.slice A0_1 l0_1.length c0_1] ?_; (with_reducible refine (laws_toInt64SS.calls k _ _ l0_1 _ _ ?_ ?_ A3.out).mono ?_); exact Kd.C_below HR0_1.out ψ36; exact HC0_1.out; rintro e w15 ⟨v407, rfl, ho0, hb⟩; refine ⟨_, rfl, ?_⟩; have q := n6_ (Kd.R_below ψ124 hb) (Kd.S_lower (Kd.S_new' ho0 (Kd.R_lt ψ124)) (below_size ψ36)) (blk_below (g := gb10) (o := .cells #[.slice A0_0 l0_0.length c0_0, .slice A0_1 l0_1.length c0_1] 29 (0, 0)) ψ41 hb) (blk_below (g := gb11) (o := .cells #[.slice none 0 0, .slice none 0 0] 38 (0, 0)) ψ42 hb) (blk_below (g := gb12) (o := .cells #[.slice Ao11 t402.length co11, .slice none 0 0] 38 (0, 0)) (by (with_reducible repeat (first | refine blk_drewN ?_ _ | refine blk_drew ?_ | refine blk_alloc ?_ _)); refine blk_put (cs := #[.slice none 0 0, .slice none 0 0]) ?_ 0 _ rfl; (with_reducible repeat (first | refine blk_drewN ?_ _ | refine blk_drew ?_ | refine blk_alloc ?_ _)); exact BK12.out) hb) (below_step ψ36 hb); clear HO404 BK10 BK11 BK12 HB; obtain ⟨HO404, HO408, BK10, BK11, BK12, HB⟩ := q; (try clear hb); (try clear ho0); obtain ⟨Ao16, co16, eo16⟩ := Kd.S_slice HO408.out; subst eo16; obtain ⟨y17_0, y17_1, u17_0, u17_1⟩ := cells2 BK12.out; obtain ⟨y18_0, y18_1, u18_0, u18_1⟩ := cells2 BK11.out))
 refine bodyPost_ret (results_cell_row rfl _ _ gb11 38 #[.slice Ao11 t402.length co11, .slice Ao16 t406.length co16] (0, 0) _ rfl (by (with_reducible repeat (first | refine blk_drewN ?_ _ | refine blk_drew ?_ | refine blk_alloc ?_ _)); refine blk_put (cs := #[.slice Ao11 t402.length co11, .slice none 0 0]) ?_ 1 _ rfl; (with_reducible repeat (first | refine blk_drewN ?_ _ | refine blk_drew ?_ | refine blk_alloc ?_ _)); refine blk_put (cs := #[.slice none 0 0, .slice none 0 0]) ?_ 0 _ rfl; (with_reducible repeat (first | refine blk_drewN ?_ _ | refine blk_drew ?_ | refine blk_alloc ?_ _)); refine blk_far ?_ NB11_12.out _; (with_reducible repeat (first | refine blk_drewN ?_ _ | refine blk_drew ?_ | refine blk_alloc ?_ _)); exact BK11.out) Try.underlying38 rfl ψ12) rfl ?_
 exact ⟨_, _, ψ4, by (with_reducible repeat (first | apply Kd.R_alloc | apply Kd.R_drewN | apply Kd.R_drew)); exact Kd.R_mono (Kd.R_far (p := ⟨gb11, 1, none⟩) (Kd.R_far (p := ⟨gb11, 0, none⟩) (Kd.R_far (p := ⟨gb12, 1, none⟩) (Kd.R_types (Kd.R_types HO404.out BK12.out ψ13) BK11.out ψ13) (fun _ hk => hk.1.2) (.slice Ao16 t406.length co16)) (fun _ hk => hk.2) (.slice Ao11 t402.length co11)) (fun _ hk => hk.2) (.slice Ao16 t406.length co16)) (fun _ hk => trivial), by (with_reducible repeat (first | apply Kd.S_alloc | apply Kd.S_drewN | apply Kd.S_drew)); exact Kd.S_mono (Kd.S_far (p := ⟨gb11, 1, none⟩) (Kd.S_far (p := ⟨gb11, 0, none⟩) (Kd.S_far (p := ⟨gb12, 1, none⟩) (Kd.S_types (Kd.S_types HO408.out BK12.out ψ13) BK11.out ψ13) (fun _ hk => hk.1.2) (.slice Ao16 t406.length co16)) (fun _ hk => hk.2) (.slice Ao11 t402.length co11)) (fun _ hk => hk.2) (.slice Ao16 t406.length co16)) (fun _ hk => hk.1.1.2), ψ36⟩

end Go.Proofs.Ytakmkdlkipfnhaa.PCore

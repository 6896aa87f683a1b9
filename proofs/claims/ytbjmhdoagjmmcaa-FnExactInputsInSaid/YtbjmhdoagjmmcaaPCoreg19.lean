/- The walks of the functions that the laws come to, part 19: turned out of the kit's print, and mended where that fell. -/
import Derived.Test.YtbjmhdoagjmmcaaPCoreg
import Derived.Test.YtbjmhdoagjmmcaaPCoreg4
import Derived.Test.YtbjmhdoagjmmcaaPCoreg5
import Derived.Test.YtbjmhdoagjmmcaaPCoreg8
import Derived.Test.YtbjmhdoagjmmcaaPCoreg9
import Derived.Test.YtbjmhdoagjmmcaaPCoreg10
import Derived.Test.YtbjmhdoagjmmcaaPCoreg11
namespace Go.Proofs.Ytbjmhdoagjmmcaa.PCore
open Go.RowKit Go.Proofs.YtbjmhdoagjmmcaaW.PrintWords Go.Proofs.YtbjmhdoagjmmcaaW.PrintLast Go.Proofs.YtbjmhdoagjmmcaaW.PrintMore
attribute [local go_sem] max2_int min2_int max_two min_two max_three min_three max_four min_four   -- for this text's walks alone
set_option linter.unusedVariables false
set_option linter.unusedSimpArgs false

theorem ψ196 {P : Prop} (h : P := by repeat (first | exact (Kd.R_reads' HO1294.out).2.2 | (with_reducible refine Kd.C_alloc ?_ _) | (with_reducible refine Kd.C_drewN ?_ _) | (with_reducible refine Kd.C_drew ?_))) : P := h
theorem ψ197 {P : Prop} (h : P := by repeat (first | exact (Kd.R_reads' HO1297.out).2.2 | (with_reducible refine Kd.C_alloc ?_ _) | (with_reducible refine Kd.C_drewN ?_ _) | (with_reducible refine Kd.C_drew ?_))) : P := h
theorem ψ198 {P : Prop} (h : P := by repeat (first | exact (Kd.R_reads' HO1301.out).2.2 | (with_reducible refine Kd.C_alloc ?_ _) | (with_reducible refine Kd.C_drewN ?_ _) | (with_reducible refine Kd.C_drew ?_))) : P := h
theorem ψ199 {P : Prop} (h : P := by repeat (first | exact (Kd.S_reads' HO1304.out).2.2 | (with_reducible refine Kd.C_alloc ?_ _) | (with_reducible refine Kd.C_drewN ?_ _) | (with_reducible refine Kd.C_drew ?_))) : P := h
theorem ψ200 {P : Prop} (h : P := by (with_reducible repeat (first | apply Kd.R_alloc | apply Kd.R_drewN | apply Kd.R_drew)); exact HO1294.out) : P := h
theorem ψ201 {P : Prop} (h : P := by (with_reducible repeat (first | apply Kd.R_alloc | apply Kd.R_drewN | apply Kd.R_drew)); exact HO1297.out) : P := h
theorem ψ202 {P : Prop} (h : P := by (with_reducible repeat (first | apply Kd.R_alloc | apply Kd.R_drewN | apply Kd.R_drew)); exact HO1301.out) : P := h
theorem ψ203 {P : Prop} (h : P := by (with_reducible repeat (first | apply Kd.S_alloc | apply Kd.S_drewN | apply Kd.S_drew)); exact HO1304.out) : P := h
theorem ψ204 {P : Prop} (h : P := by (with_reducible repeat (first | apply Kd.R_alloc | apply Kd.R_drewN | apply Kd.R_drew)); exact HO1310.out) : P := h
theorem ψ205 {P : Prop} (h : P := by (with_reducible repeat (first | apply Kd.R_alloc | apply Kd.R_drewN | apply Kd.R_drew)); exact HO1313.out) : P := h
theorem ψ206 {P : Prop} (h : P := by (with_reducible repeat (first | apply Kd.R_alloc | apply Kd.R_drewN | apply Kd.R_drew)); exact HO1317.out) : P := h
theorem ψ207 {P : Prop} (h : P := by (with_reducible repeat (first | apply Kd.S_alloc | apply Kd.S_drewN | apply Kd.S_drew)); exact HO1320.out) : P := h
theorem ψ368 {P : Prop} (h : P := by (with_reducible repeat (first | apply Kd.R_alloc | apply Kd.R_drewN | apply Kd.R_drew)); exact (Kd.R_mono (Kd.R_far (p := ⟨gb11, 5, none⟩) (Kd.R_far (p := ⟨gb11, 4, none⟩) (Kd.R_far (p := ⟨gb11, 3, none⟩) (Kd.R_far (p := ⟨gb11, 2, none⟩) (Kd.R_far (p := ⟨gb11, 1, none⟩) (Kd.R_far (p := ⟨gb11, 0, none⟩) (Kd.R_types HO1310.out BK11.out (ψ15)) (fun _ hk => hk.2) (.int .i64 t1307)) (fun _ hk => hk.2) (.slice Ao5_ t1308.length co5_)) (fun _ hk => hk.2) (.slice Ao6_ t1311.length co6_)) (fun _ hk => hk.2) (.int .i64 t1314)) (fun _ hk => hk.2) (.slice Ao7_ t1315.length co7_)) (fun _ hk => hk.2) (.slice Ao8_ t1318.length co8_)) (fun _ h_ => h_.1))) : P := h
theorem ψ369 {P : Prop} (h : P := by (with_reducible repeat (first | apply Kd.R_alloc | apply Kd.R_drewN | apply Kd.R_drew)); exact (Kd.R_mono (Kd.R_far (p := ⟨gb11, 5, none⟩) (Kd.R_far (p := ⟨gb11, 4, none⟩) (Kd.R_far (p := ⟨gb11, 3, none⟩) (Kd.R_far (p := ⟨gb11, 2, none⟩) (Kd.R_far (p := ⟨gb11, 1, none⟩) (Kd.R_far (p := ⟨gb11, 0, none⟩) (Kd.R_types HO1313.out BK11.out (ψ15)) (fun _ hk => hk.2) (.int .i64 t1307)) (fun _ hk => hk.2) (.slice Ao5_ t1308.length co5_)) (fun _ hk => hk.2) (.slice Ao6_ t1311.length co6_)) (fun _ hk => hk.2) (.int .i64 t1314)) (fun _ hk => hk.2) (.slice Ao7_ t1315.length co7_)) (fun _ hk => hk.2) (.slice Ao8_ t1318.length co8_)) (fun _ h_ => h_.1))) : P := h
theorem ψ370 {P : Prop} (h : P := by (with_reducible repeat (first | apply Kd.R_alloc | apply Kd.R_drewN | apply Kd.R_drew)); exact (Kd.R_mono (Kd.R_far (p := ⟨gb11, 5, none⟩) (Kd.R_far (p := ⟨gb11, 4, none⟩) (Kd.R_far (p := ⟨gb11, 3, none⟩) (Kd.R_far (p := ⟨gb11, 2, none⟩) (Kd.R_far (p := ⟨gb11, 1, none⟩) (Kd.R_far (p := ⟨gb11, 0, none⟩) (Kd.R_types HO1317.out BK11.out (ψ15)) (fun _ hk => hk.2) (.int .i64 t1307)) (fun _ hk => hk.2) (.slice Ao5_ t1308.length co5_)) (fun _ hk => hk.2) (.slice Ao6_ t1311.length co6_)) (fun _ hk => hk.2) (.int .i64 t1314)) (fun _ hk => hk.2) (.slice Ao7_ t1315.length co7_)) (fun _ hk => hk.2) (.slice Ao8_ t1318.length co8_)) (fun _ h_ => h_.1))) : P := h
theorem ψ371 {P : Prop} (h : P := by (with_reducible repeat (first | apply Kd.S_alloc | apply Kd.S_drewN | apply Kd.S_drew)); exact (Kd.S_mono (Kd.S_far (p := ⟨gb11, 5, none⟩) (Kd.S_far (p := ⟨gb11, 4, none⟩) (Kd.S_far (p := ⟨gb11, 3, none⟩) (Kd.S_far (p := ⟨gb11, 2, none⟩) (Kd.S_far (p := ⟨gb11, 1, none⟩) (Kd.S_far (p := ⟨gb11, 0, none⟩) (Kd.S_types HO1320.out BK11.out (ψ15)) (fun _ hk => hk.2) (.int .i64 t1307)) (fun _ hk => hk.2) (.slice Ao5_ t1308.length co5_)) (fun _ hk => hk.2) (.slice Ao6_ t1311.length co6_)) (fun _ hk => hk.2) (.int .i64 t1314)) (fun _ hk => hk.2) (.slice Ao7_ t1315.length co7_)) (fun _ hk => hk.2) (.slice Ao8_ t1318.length co8_)) (fun _ h_ => h_.1))) : P := h
theorem ψ372 {P : Prop} (h : P := by (with_reducible repeat (first | apply Kd.R_alloc | apply Kd.R_drewN | apply Kd.R_drew)); exact (Kd.R_mono (Kd.R_far (p := ⟨gb11, 5, none⟩) (Kd.R_far (p := ⟨gb11, 4, none⟩) (Kd.R_far (p := ⟨gb11, 3, none⟩) (Kd.R_far (p := ⟨gb11, 2, none⟩) (Kd.R_far (p := ⟨gb11, 1, none⟩) (Kd.R_far (p := ⟨gb11, 0, none⟩) (Kd.R_types HO1310.out BK11.out (ψ15)) (fun _ hk => hk.2) (.int .i64 t1307)) (fun _ hk => hk.2) (.slice Ao84 t1308.length co84)) (fun _ hk => hk.2) (.slice Ao85 t1311.length co85)) (fun _ hk => hk.2) (.int .i64 t1314)) (fun _ hk => hk.2) (.slice Ao86 t1315.length co86)) (fun _ hk => hk.2) (.slice Ao87 t1318.length co87)) (fun _ h_ => h_.1))) : P := h
theorem ψ373 {P : Prop} (h : P := by (with_reducible repeat (first | apply Kd.R_alloc | apply Kd.R_drewN | apply Kd.R_drew)); exact (Kd.R_mono (Kd.R_far (p := ⟨gb11, 5, none⟩) (Kd.R_far (p := ⟨gb11, 4, none⟩) (Kd.R_far (p := ⟨gb11, 3, none⟩) (Kd.R_far (p := ⟨gb11, 2, none⟩) (Kd.R_far (p := ⟨gb11, 1, none⟩) (Kd.R_far (p := ⟨gb11, 0, none⟩) (Kd.R_types HO1313.out BK11.out (ψ15)) (fun _ hk => hk.2) (.int .i64 t1307)) (fun _ hk => hk.2) (.slice Ao84 t1308.length co84)) (fun _ hk => hk.2) (.slice Ao85 t1311.length co85)) (fun _ hk => hk.2) (.int .i64 t1314)) (fun _ hk => hk.2) (.slice Ao86 t1315.length co86)) (fun _ hk => hk.2) (.slice Ao87 t1318.length co87)) (fun _ h_ => h_.1))) : P := h
theorem ψ374 {P : Prop} (h : P := by (with_reducible repeat (first | apply Kd.R_alloc | apply Kd.R_drewN | apply Kd.R_drew)); exact (Kd.R_mono (Kd.R_far (p := ⟨gb11, 5, none⟩) (Kd.R_far (p := ⟨gb11, 4, none⟩) (Kd.R_far (p := ⟨gb11, 3, none⟩) (Kd.R_far (p := ⟨gb11, 2, none⟩) (Kd.R_far (p := ⟨gb11, 1, none⟩) (Kd.R_far (p := ⟨gb11, 0, none⟩) (Kd.R_types HO1317.out BK11.out (ψ15)) (fun _ hk => hk.2) (.int .i64 t1307)) (fun _ hk => hk.2) (.slice Ao84 t1308.length co84)) (fun _ hk => hk.2) (.slice Ao85 t1311.length co85)) (fun _ hk => hk.2) (.int .i64 t1314)) (fun _ hk => hk.2) (.slice Ao86 t1315.length co86)) (fun _ hk => hk.2) (.slice Ao87 t1318.length co87)) (fun _ h_ => h_.1))) : P := h
theorem ψ375 {P : Prop} (h : P := by (with_reducible repeat (first | apply Kd.S_alloc | apply Kd.S_drewN | apply Kd.S_drew)); exact (Kd.S_mono (Kd.S_far (p := ⟨gb11, 5, none⟩) (Kd.S_far (p := ⟨gb11, 4, none⟩) (Kd.S_far (p := ⟨gb11, 3, none⟩) (Kd.S_far (p := ⟨gb11, 2, none⟩) (Kd.S_far (p := ⟨gb11, 1, none⟩) (Kd.S_far (p := ⟨gb11, 0, none⟩) (Kd.S_types HO1320.out BK11.out (ψ15)) (fun _ hk => hk.2) (.int .i64 t1307)) (fun _ hk => hk.2) (.slice Ao84 t1308.length co84)) (fun _ hk => hk.2) (.slice Ao85 t1311.length co85)) (fun _ hk => hk.2) (.int .i64 t1314)) (fun _ hk => hk.2) (.slice Ao86 t1315.length co86)) (fun _ hk => hk.2) (.slice Ao87 t1318.length co87)) (fun _ h_ => h_.1))) : P := h
/-! ### spec_l7Count: function 67 -/
def spec_l7Count.l0 : Nat → List Int → Int → Int → Option (Int)
 | 0, _, _, _ => none
 | k + 1, x0, x3, x4 => if x4 < (x0.length : Int) then (if 0 ≤ x4 then (spec_l7Count.l0 k x0 (wrap64 (x3 * (wrap64 ((rd x0 x4) + 1)))) (wrap64 (x4 + 1))) else (none)) else (some x3)
def spec_l7Count.f (k : Nat) (l0 : List Int) : Option (Int) := spec_l7Count.l0 k l0 1 0
set_option maxHeartbeats 8000000 in
set_option maxRecDepth 100000 in
theorem spec_l7Count.calls (k : Nat) (A0 : Option Addr) (c0 : Nat) (l0 : List Int) (r : Int) (w : World) (hr0 : Kd.C (Kd.int .i64) w A0 l0.length l0) (hc0 : l0.length ≤ c0) (h : spec_l7Count.f k l0 = some r) :
 Calls Try.prog 67 #[.slice A0 l0.length c0] w fun e w' => e = .returned (.int .i64 r) ∧ Drawn0 w w' := by
 have HR0 := Aside0.mk hr0
 have HC0 := Aside0.mk hc0
 clear hr0 hc0
 have H : (spec_l7Count.l0 k l0 1 0) = some r := h
 clear h
 have H' := Aside0.mk H
 clear H
 go_enter Try.func67, Try.ntmps67
 go_wp2
 go_loopg [3, 4] k (fun kq v3 v4 w' => ∃ (x3_1 : Int) (x4_1 : Int), v3 = .int .i64 x3_1 ∧ v4 = .int .i64 x4_1 ∧ Aside0 (spec_l7Count.l0 kq l0 x3_1 x4_1 = some r) ∧ Aside0 (kq ≤ k) ∧ Drawn0 w w')
 case atStart => exact ⟨(1), (0), ψ0, ψ0, H', ⟨Nat.le_refl _⟩, ψ1⟩
 case round =>
  clear H'
  obtain ⟨x3_1, x4_1, rfl, rfl, HA, HK1, ⟨m1, rfl⟩⟩ := hrel
  cases gk with
  | zero => exact absurd HA.out (by simp [spec_l7Count.l0])
  | succ k1 =>
   have H := HA.out
   clear HA
   simp only [spec_l7Count.l0] at H
   replace H := ifD H; rcases H with ⟨c2b0, H⟩ | ⟨c2b0, H⟩
   ·replace H := ifN H; obtain ⟨c3b0, H⟩ := H
    have H' := Aside0.mk H
    clear H
    have p1252 : 0 ≤ (x4_1 : Int) := of_decide_eq_true ψ2
    have q1252 : x4_1 < (l0.length : Int) := of_decide_eq_true ψ2
    obtain ⟨ad1252, e1252, hx1252_0⟩ := Kd.at_int HR0.out x4_1 p1252 q1252
    cases e1252
    replace p1252 := eq_true p1252
    replace q1252 := eq_true q1252
    go_wp2
    go_roundg k1
    case measure => have := HK1.out; omega
    case rel => exact ⟨(wrap64 (x3_1 * (wrap64 ((rd l0 x4_1) + 1)))), (wrap64 (x4_1 + 1)), ψ0, ψ0, H', ⟨ψ53⟩, ψ1⟩
   ·obtain rfl := Option.some.inj H
    go_wp2
    go_ret
    exact ⟨ψ0, ψ1⟩

/-! ### spec_InputsIn: function 31 -/
def spec_InputsIn.f (k : Nat) (a0_0 : Int) (l0_1 : List (S77)) (l0_2 : List (S77)) (a0_3 : Int) (l0_4 : List Int) (l0_5 : List (S42)) : Option (Int) := (spec_ProgOk.f k a0_0 l0_1 l0_2 a0_3 l0_4 l0_5).bind fun t1271 => (if t1271 = true then ((spec_l7Maxes.f k a0_0 l0_1 l0_2 a0_3 l0_4 l0_5).bind fun t1273 => ((spec_l7Count.f k t1273).bind fun t1276 => (some t1276))) else (some (-1)))
set_option maxRecDepth 100000 in
theorem τ83 {P : Prop} (h : P := by
 obtain rfl := Option.some.inj H
 go_enter Try.func31, Try.ntmps31
 go_wp2_with (first | ((with_reducible refine gate_dst (N := 1) rfl ?_); refine bE 1 #[.int .i64 a0_0, .slice A0_1 l0_1.length c0_1, .slice A0_2 l0_2.length c0_2, .int .i64 a0_3, .slice A0_4 l0_4.length c0_4, .slice A0_5 l0_5.length c0_5] 35 ?_; intro gb10 hg w1_ hbox hb; have q := n4_ (below_step ψ52 hb) (hbox) ((ψ311 : w.heap.size ≤ gb10)) ((ψ311 : w.heap.size ≤ gb10)); clear HB; obtain ⟨HB, BK10, GW10, GE10⟩ := q; clear hb hbox hg; obtain ⟨hczB10_0, hczB10_1, hczB10_2, hczB10_3, hczB10_4, hczB10_5, hfzB10_0, hfzB10_1, hfzB10_2, hfzB10_3, hfzB10_4, hfzB10_5⟩ := cells6 BK10.out) | ((with_reducible refine gate_callee (f := 25) rfl ?_); refine gL 4 Try.func25 #[.agg #[.int .i64 a0_0, .slice A0_1 l0_1.length c0_1, .slice A0_2 l0_2.length c0_2, .int .i64 a0_3, .slice A0_4 l0_4.length c0_4, .slice A0_5 l0_5.length c0_5]] ?_; (with_reducible refine (spec_ProgOk.calls k a0_0 _ _ l0_1 _ _ l0_2 a0_3 _ _ l0_4 _ _ l0_5 _ _ ?_ ?_ ?_ ?_ ?_ ?_ ?_ ?_ A2.out).mono ?_); exact ψ54; exact HC0_1.out; exact ψ55; exact HC0_2.out; exact ψ56; exact HC0_4.out; exact ψ57; exact HC0_5.out; rintro e w2_ ⟨rfl, hb⟩; refine ⟨_, rfl, ?_⟩; have q := n2_ (blk_below (g := gb10) ψ23 hb) (below_step ψ52 hb); clear BK10 HB; obtain ⟨BK10, HB⟩ := q; (try clear hb); (try (obtain ⟨hczB10_0, hczB10_1, hczB10_2, hczB10_3, hczB10_4, hczB10_5, hfzB10_0, hfzB10_1, hfzB10_2, hfzB10_3, hfzB10_4, hfzB10_5⟩ := cells6 BK10.out))) | ((with_reducible refine gate_callee (f := 68) rfl ?_); refine gL 7 Try.func68 #[.agg #[.int .i64 a0_0, .slice A0_1 l0_1.length c0_1, .slice A0_2 l0_2.length c0_2, .int .i64 a0_3, .slice A0_4 l0_4.length c0_4, .slice A0_5 l0_5.length c0_5]] ?_; (with_reducible refine (spec_l7Maxes.calls k a0_0 _ _ l0_1 _ _ l0_2 a0_3 _ _ l0_4 _ _ l0_5 _ _ ?_ ?_ ?_ ?_ ?_ ?_ ?_ ?_ A4.out).mono ?_); exact ψ54; exact HC0_1.out; exact ψ55; exact HC0_2.out; exact ψ56; exact HC0_4.out; exact ψ57; exact HC0_5.out; rintro e w3_ ⟨v1274, rfl, ho0, hb⟩; refine ⟨_, rfl, ?_⟩; have q := n3_ (Kd.R_lower ho0 (below_size ψ52)) (blk_below (g := gb10) ψ23 hb) (below_step ψ52 hb); clear BK10 HB; obtain ⟨HO1275, BK10, HB⟩ := q; (try clear hb); (try clear ho0); obtain ⟨Ao1_, co1_, eo1_⟩ := Kd.R_slice HO1275.out; subst eo1_) | ((with_reducible refine gate_callee (f := 67) rfl ?_); refine gL 8 Try.func67 #[.slice Ao1_ t1273.length co1_] ?_; (with_reducible refine (spec_l7Count.calls k _ _ t1273 _ _ ?_ ?_ A5.out).mono ?_); exact (by repeat (first | exact (Kd.R_reads' HO1275.out).2.2 | (with_reducible refine Kd.C_alloc ?_ _) | (with_reducible refine Kd.C_drewN ?_ _) | (with_reducible refine Kd.C_drew ?_))); exact (Kd.R_reads' HO1275.out).2.1; rintro e w' ⟨rfl, ⟨nd, rfl⟩⟩; refine ⟨_, rfl, ?_⟩))
 go_ret
 exact ⟨ψ9, ψ52⟩) : P := h
set_option maxHeartbeats 8000000 in
set_option maxRecDepth 100000 in
theorem spec_InputsIn.calls (k : Nat) (a0_0 : Int) (A0_1 : Option Addr) (c0_1 : Nat) (l0_1 : List (S77)) (A0_2 : Option Addr) (c0_2 : Nat) (l0_2 : List (S77)) (a0_3 : Int) (A0_4 : Option Addr) (c0_4 : Nat) (l0_4 : List Int) (A0_5 : Option Addr) (c0_5 : Nat) (l0_5 : List (S42)) (r : Int) (w : World) (hr0_1 : Kd.C k77 w A0_1 l0_1.length l0_1) (hc0_1 : l0_1.length ≤ c0_1) (hr0_2 : Kd.C k77 w A0_2 l0_2.length l0_2) (hc0_2 : l0_2.length ≤ c0_2) (hr0_4 : Kd.C (Kd.int .i64) w A0_4 l0_4.length l0_4) (hc0_4 : l0_4.length ≤ c0_4) (hr0_5 : Kd.C k42 w A0_5 l0_5.length l0_5) (hc0_5 : l0_5.length ≤ c0_5) (h : spec_InputsIn.f k a0_0 l0_1 l0_2 a0_3 l0_4 l0_5 = some r) :
 Calls Try.prog 31 #[.agg #[.int .i64 a0_0, .slice A0_1 l0_1.length c0_1, .slice A0_2 l0_2.length c0_2, .int .i64 a0_3, .slice A0_4 l0_4.length c0_4, .slice A0_5 l0_5.length c0_5]] w fun e w' => e = .returned (.int .i64 r) ∧ Below w.heap.size w w' := by
 have hu35 := Try.underlying35
 have HR0_1 := Aside0.mk hr0_1
 have HC0_1 := Aside0.mk hc0_1
 clear hr0_1 hc0_1
 have HR0_2 := Aside0.mk hr0_2
 have HC0_2 := Aside0.mk hc0_2
 clear hr0_2 hc0_2
 have HR0_4 := Aside0.mk hr0_4
 have HC0_4 := Aside0.mk hc0_4
 clear hr0_4 hc0_4
 have HR0_5 := Aside0.mk hr0_5
 have HC0_5 := Aside0.mk hc0_5
 clear hr0_5 hc0_5
 have HB := Aside0.mk (Below.refl w.heap.size w)
 have H : ((spec_ProgOk.f k a0_0 l0_1 l0_2 a0_3 l0_4 l0_5).bind fun t1271 => (if t1271 = true then ((spec_l7Maxes.f k a0_0 l0_1 l0_2 a0_3 l0_4 l0_5).bind fun t1273 => ((spec_l7Count.f k t1273).bind fun t1276 => (some t1276))) else (some (-1)))) = some r := h
 clear h
 replace H := Option.bind_eq_some_iff.mp H
 obtain ⟨t1271, A20, H⟩ := H
 have A2 := Aside0.mk A20
 clear A20
 replace H := ifB H; rcases H with ⟨rfl, H⟩ | ⟨rfl, H⟩
 ·replace H := Option.bind_eq_some_iff.mp H
  obtain ⟨t1273, A40, H⟩ := H
  have A4 := Aside0.mk A40
  clear A40
  replace H := Option.bind_eq_some_iff.mp H
  obtain ⟨t1276, A50, H⟩ := H
  have A5 := Aside0.mk A50
  clear A50
  exact τ83
 ·exact τ83

/-! ### impl_manyInputs: function 69 -/
def impl_manyInputs.l0 : Nat → Int → List (S77) → Int → Int → Option (Int)
 | 0, _, _, _, _ => none
 | k + 1, x3, x7, x8, x9 => if x9 < x8 then (if 0 ≤ x9 then (if x9 < (x7.length : Int) then (impl_manyInputs.l0 k (wrap64 (x3 * (wrap64 (((rd_T77 x7 x9).f0) + 1)))) x7 x8 (wrap64 (x9 + 1))) else (none)) else (none)) else (some x3)
def impl_manyInputs.f (k : Nat) (l0 : List (S35)) : Option (Int) := (impl_allInputs.f l0).bind fun t1277 => (impl_manyInputs.l0 k 1 t1277 (t1277.length : Int) 0)
set_option maxHeartbeats 8000000 in
set_option maxRecDepth 100000 in
theorem impl_manyInputs.calls (k : Nat) (A0 : Option Addr) (c0 : Nat) (l0 : List (S35)) (r : Int) (w : World) (hn0 : l0.length = 1) (hr0 : Kd.C k35 w A0 l0.length l0) (hc0 : l0.length ≤ c0) (h : impl_manyInputs.f k l0 = some r) :
 Calls Try.prog 69 #[.pointer A0] w fun e w' => e = .returned (.int .i64 r) ∧ Below w.heap.size w w' := by
 have hu77 := Try.underlying77
 have HR0 := Aside0.mk hr0
 have HC0 := Aside0.mk hc0
 clear hr0 hc0
 have HB := Aside0.mk (Below.refl w.heap.size w)
 have H : ((impl_allInputs.f l0).bind fun t1277 => (impl_manyInputs.l0 k 1 t1277 (t1277.length : Int) 0)) = some r := h
 clear h
 replace H := Option.bind_eq_some_iff.mp H
 obtain ⟨t1277, A20, H⟩ := H
 have A2 := Aside0.mk A20
 clear A20
 have H' := Aside0.mk H
 clear H
 go_enter Try.func69, Try.ntmps69
 go_wp2_with (first | ((with_reducible refine gate_callee (f := 78) rfl ?_); refine gL 7 Try.func78 #[.pointer A0] ?_; (with_reducible refine (impl_allInputs.calls _ c0 l0 _ _ ?_ ?_ ?_ A2.out).mono ?_); exact hn0; exact ψ6; exact HC0.out; rintro e w3 ⟨v1278, rfl, ho0, hb⟩; refine ⟨_, rfl, ?_⟩; have q := n2_ (Kd.R_lower ho0 (below_size ψ52)) (below_step ψ52 hb); clear HB; obtain ⟨HO1279, HB⟩ := q; (try clear hb); (try clear ho0); obtain ⟨Ao4, co4, eo4⟩ := Kd.R_slice HO1279.out; subst eo4))
 go_loopg [3, 9] k (fun kq v3 v9 w' => ∃ (x3_1 : Int) (x9_1 : Int), v3 = .int .i64 x3_1 ∧ v9 = .int .i64 x9_1 ∧ Aside0 (impl_manyInputs.l0 kq x3_1 t1277 (t1277.length : Int) x9_1 = some r) ∧ Aside0 (kq ≤ k) ∧ Aside0 (Kd.R k77 77 w' w.heap.size (fun _ => True) (.slice Ao4 t1277.length co4) t1277) ∧ Aside0 (Below w.heap.size w w'))
 case atStart => exact ⟨(1), (0), ψ0, ψ0, H', ⟨Nat.le_refl _⟩, ⟨by (with_reducible repeat (first | apply Kd.R_alloc | apply Kd.R_drewN | apply Kd.R_drew)); exact HO1279.out⟩, ⟨ψ52⟩⟩
 case round =>
  clear H'
  try clear p2
  obtain ⟨x3_1, x9_1, rfl, rfl, HA, HK1, HO_7, HB⟩ := hrel
  cases gk with
  | zero => exact absurd HA.out (by simp [impl_manyInputs.l0])
  | succ k1 =>
   have H := HA.out
   clear HA
   simp only [impl_manyInputs.l0] at H
   replace H := ifD H; rcases H with ⟨c5b0, H⟩ | ⟨c5b0, H⟩
   ·replace H := ifN H; obtain ⟨c6b0, H⟩ := H
    replace H := ifN H; obtain ⟨c7b0, H⟩ := H
    have H' := Aside0.mk H
    clear H
    have p1280 : 0 ≤ (x9_1 : Int) := of_decide_eq_true ψ2
    have q1280 : x9_1 < (t1277.length : Int) := of_decide_eq_true ψ2
    obtain ⟨ad1280, e1280, hx1280_0, hx1280_1⟩ := at_T77 (Kd.R_reads' HO_7.out).2.2 x9_1 p1280 q1280
    cases e1280
    replace p1280 := eq_true p1280
    replace q1280 := eq_true q1280
    go_wp2_with (first | ((with_reducible refine gate_dst (N := 5) rfl ?_); refine bE 5 #[.int .i64 0, .int .i64 0] 77 ?_; intro gb10 hg w8 hbox hb; have q := n5_ (Kd.R_below (Kd.R_elderB ψ183 gb10 (Nat.le_of_eq hg.symm)) hb) (below_step ψ52 hb) (hbox) ((ψ311 : w.heap.size ≤ gb10)) ((ψ311 : w.heap.size ≤ gb10)); clear HO_7 HB; obtain ⟨HO_7, HB, BK10, GW10, GE10⟩ := q; clear hb hbox hg; obtain ⟨y9_0, y9_1, u9_0, u9_1⟩ := cells2 BK10.out))
    go_roundg k1
    case measure => have := HK1.out; omega
    case rel => exact ⟨(wrap64 (x3_1 * (wrap64 (((rd_T77 t1277 x9_1).f0) + 1)))), (wrap64 (x9_1 + 1)), ψ0, ψ0, H', ⟨ψ53⟩, ⟨by (with_reducible repeat (first | apply Kd.R_alloc | apply Kd.R_drewN | apply Kd.R_drew)); exact Kd.R_mono (Kd.R_far (p := ⟨gb10, 1, none⟩) (Kd.R_far (p := ⟨gb10, 0, none⟩) (Kd.R_mono HO_7.out (fun k_ hk => (⟨hk, hk.2⟩ : _ ∧ k_ ≠ gb10))) (fun _ hk => hk.2) (.int .i64 ((rd_T77 t1277 x9_1).f0))) (fun _ hk => hk.2) (.int .i64 ((rd_T77 t1277 x9_1).f1))) (fun _ hk => trivial)⟩, ⟨ψ52⟩⟩
   ·obtain rfl := Option.some.inj H
    go_wp2
    go_ret
    exact ⟨ψ9, ψ52⟩

/-! ### impl_InputsIn: function 32 -/
theorem impl_InputsIn.box_T35 {w : World} {g : Nat} {x : S35} {A1 : Option Addr} {c1 : Nat} {A2 : Option Addr} {c2 : Nat} {A4 : Option Addr} {c4 : Nat} {A5 : Option Addr} {c5 : Nat} (hb : w.heap[g]? = some (.cells #[.int .i64 x.f0, .slice A1 x.f1.length c1, .slice A2 x.f2.length c2, .int .i64 x.f3, .slice A4 x.f4.length c4, .slice A5 x.f5.length c5] 35 (0, 0))) (l1 : x.f1.length ≤ c1) (g1 : Kd.C k77 w A1 x.f1.length x.f1) (l2 : x.f2.length ≤ c2) (g2 : Kd.C k77 w A2 x.f2.length x.f2) (l4 : x.f4.length ≤ c4) (g4 : Kd.C (Kd.int .i64) w A4 x.f4.length x.f4) (l5 : x.f5.length ≤ c5) (g5 : Kd.C k42 w A5 x.f5.length x.f5) : Kd.C k35 w (some ⟨g, 0, none⟩) ([x] : List S35).length [x] := by
 refine ⟨rfl, show (1 : Nat) ≤ 9223372036854775807 from ψ15, fun _ => ⟨_, rfl, fun j p hj => ?_⟩⟩
 match j, hj with
 | 0, hj =>
  cases hj
  refine ⟨_, rfl, k35_mk w x l1 g1 l2 g2 l4 g4 l5 g5, fun i u hu => ?_⟩
  match i, hu with
  | 0, hu => cases hu; exact (blk_cell hb 0).trans rfl
  | 1, hu => cases hu; exact (blk_cell hb 1).trans rfl
  | 2, hu => cases hu; exact (blk_cell hb 2).trans rfl
  | 3, hu => cases hu; exact (blk_cell hb 3).trans rfl
  | 4, hu => cases hu; exact (blk_cell hb 4).trans rfl
  | 5, hu => cases hu; exact (blk_cell hb 5).trans rfl
  | i + 6, hu => simp at hu
 | j + 1, hj => simp at hj
def impl_InputsIn.f (k : Nat) (a0_0 : Int) (l0_1 : List (S77)) (l0_2 : List (S77)) (a0_3 : Int) (l0_4 : List Int) (l0_5 : List (S42)) : Option (Int) := (impl_ProgOk.f k a0_0 l0_1 l0_2 a0_3 l0_4 l0_5).bind fun t1285 => (if t1285 = true then ((impl_manyInputs.f k [(⟨a0_0, l0_1, l0_2, a0_3, l0_4, l0_5⟩ : S35)]).bind fun t1286 => (some t1286)) else (some (-1)))
set_option maxRecDepth 100000 in
theorem τ84 {P : Prop} (h : P := by
 obtain rfl := Option.some.inj H
 go_enter Try.func32, Try.ntmps32
 go_wp2_with (first | ((with_reducible refine gate_dst (N := 1) rfl ?_); refine bE 1 #[.int .i64 a0_0, .slice A0_1 l0_1.length c0_1, .slice A0_2 l0_2.length c0_2, .int .i64 a0_3, .slice A0_4 l0_4.length c0_4, .slice A0_5 l0_5.length c0_5] 35 ?_; intro gb10 hg w1_ hbox hb; have q := n4_ (below_step ψ52 hb) (hbox) ((ψ311 : w.heap.size ≤ gb10)) ((ψ311 : w.heap.size ≤ gb10)); clear HB; obtain ⟨HB, BK10, GW10, GE10⟩ := q; clear hb hbox hg; obtain ⟨hczB10_0, hczB10_1, hczB10_2, hczB10_3, hczB10_4, hczB10_5, hfzB10_0, hfzB10_1, hfzB10_2, hfzB10_3, hfzB10_4, hfzB10_5⟩ := cells6 BK10.out) | ((with_reducible refine gate_callee (f := 26) rfl ?_); refine gL 4 Try.func26 #[.agg #[.int .i64 a0_0, .slice A0_1 l0_1.length c0_1, .slice A0_2 l0_2.length c0_2, .int .i64 a0_3, .slice A0_4 l0_4.length c0_4, .slice A0_5 l0_5.length c0_5]] ?_; (with_reducible refine (impl_ProgOk.calls k a0_0 _ _ l0_1 _ _ l0_2 a0_3 _ _ l0_4 _ _ l0_5 _ _ ?_ ?_ ?_ ?_ ?_ ?_ ?_ ?_ A2.out).mono ?_); exact ψ54; exact HC0_1.out; exact ψ55; exact HC0_2.out; exact ψ56; exact HC0_4.out; exact ψ57; exact HC0_5.out; rintro e w2_ ⟨rfl, hb⟩; refine ⟨_, rfl, ?_⟩; have q := n2_ (blk_below (g := gb10) ψ23 hb) (below_step ψ52 hb); clear BK10 HB; obtain ⟨BK10, HB⟩ := q; (try clear hb)) | ((with_reducible refine gate_callee (f := 69) rfl ?_); refine gL 6 Try.func69 #[.pointer (some ⟨gb10, 0, none⟩)] ?_; (with_reducible refine (impl_manyInputs.calls k _ 1 [(⟨a0_0, l0_1, l0_2, a0_3, l0_4, l0_5⟩ : S35)] _ _ ?_ ?_ ?_ A4.out).mono ?_); exact rfl; exact (by refine impl_InputsIn.box_T35 ψ23 ?_ ?_ ?_ ?_ ?_ ?_ ?_ ?_; exact HC0_1.out; repeat (first | exact (Kd.C_below HR0_1.out HB.out) | (with_reducible refine Kd.C_alloc ?_ _) | (with_reducible refine Kd.C_drewN ?_ _) | (with_reducible refine Kd.C_drew ?_)); exact HC0_2.out; repeat (first | exact (Kd.C_below HR0_2.out HB.out) | (with_reducible refine Kd.C_alloc ?_ _) | (with_reducible refine Kd.C_drewN ?_ _) | (with_reducible refine Kd.C_drew ?_)); exact HC0_4.out; repeat (first | exact (Kd.C_below HR0_4.out HB.out) | (with_reducible refine Kd.C_alloc ?_ _) | (with_reducible refine Kd.C_drewN ?_ _) | (with_reducible refine Kd.C_drew ?_)); exact HC0_5.out; repeat (first | exact (Kd.C_below HR0_5.out HB.out) | (with_reducible refine Kd.C_alloc ?_ _) | (with_reducible refine Kd.C_drewN ?_ _) | (with_reducible refine Kd.C_drew ?_))); exact Nat.le_refl 1; rintro e w3_ ⟨rfl, hb⟩; refine ⟨_, rfl, ?_⟩; have q := n2_ (blk_below (g := gb10) ψ23 hb) (below_step ψ52 hb); clear BK10 HB; obtain ⟨BK10, HB⟩ := q; (try clear hb)))
 go_ret
 exact ⟨ψ9, ψ52⟩) : P := h
set_option maxHeartbeats 8000000 in
set_option maxRecDepth 100000 in
theorem impl_InputsIn.calls (k : Nat) (a0_0 : Int) (A0_1 : Option Addr) (c0_1 : Nat) (l0_1 : List (S77)) (A0_2 : Option Addr) (c0_2 : Nat) (l0_2 : List (S77)) (a0_3 : Int) (A0_4 : Option Addr) (c0_4 : Nat) (l0_4 : List Int) (A0_5 : Option Addr) (c0_5 : Nat) (l0_5 : List (S42)) (r : Int) (w : World) (hr0_1 : Kd.C k77 w A0_1 l0_1.length l0_1) (hc0_1 : l0_1.length ≤ c0_1) (hr0_2 : Kd.C k77 w A0_2 l0_2.length l0_2) (hc0_2 : l0_2.length ≤ c0_2) (hr0_4 : Kd.C (Kd.int .i64) w A0_4 l0_4.length l0_4) (hc0_4 : l0_4.length ≤ c0_4) (hr0_5 : Kd.C k42 w A0_5 l0_5.length l0_5) (hc0_5 : l0_5.length ≤ c0_5) (h : impl_InputsIn.f k a0_0 l0_1 l0_2 a0_3 l0_4 l0_5 = some r) :
 Calls Try.prog 32 #[.agg #[.int .i64 a0_0, .slice A0_1 l0_1.length c0_1, .slice A0_2 l0_2.length c0_2, .int .i64 a0_3, .slice A0_4 l0_4.length c0_4, .slice A0_5 l0_5.length c0_5]] w fun e w' => e = .returned (.int .i64 r) ∧ Below w.heap.size w w' := by
 have hu35 := Try.underlying35
 have HR0_1 := Aside0.mk hr0_1
 have HC0_1 := Aside0.mk hc0_1
 clear hr0_1 hc0_1
 have HR0_2 := Aside0.mk hr0_2
 have HC0_2 := Aside0.mk hc0_2
 clear hr0_2 hc0_2
 have HR0_4 := Aside0.mk hr0_4
 have HC0_4 := Aside0.mk hc0_4
 clear hr0_4 hc0_4
 have HR0_5 := Aside0.mk hr0_5
 have HC0_5 := Aside0.mk hc0_5
 clear hr0_5 hc0_5
 have HB := Aside0.mk (Below.refl w.heap.size w)
 have H : ((impl_ProgOk.f k a0_0 l0_1 l0_2 a0_3 l0_4 l0_5).bind fun t1285 => (if t1285 = true then ((impl_manyInputs.f k [(⟨a0_0, l0_1, l0_2, a0_3, l0_4, l0_5⟩ : S35)]).bind fun t1286 => (some t1286)) else (some (-1)))) = some r := h
 clear h
 replace H := Option.bind_eq_some_iff.mp H
 obtain ⟨t1285, A20, H⟩ := H
 have A2 := Aside0.mk A20
 clear A20
 replace H := ifB H; rcases H with ⟨rfl, H⟩ | ⟨rfl, H⟩
 ·replace H := Option.bind_eq_some_iff.mp H
  obtain ⟨t1286, A40, H⟩ := H
  have A4 := Aside0.mk A40
  clear A40
  exact τ84
 ·exact τ84

/-! ### laws_FnExactInputsIn: function 9 -/
def laws_FnExactInputsIn.f (k : Nat) (a0_0 : Int) (l0_1 : List (S120)) (l0_2 : List (S120)) (a0_3 : Int) (l0_4 : List Int) (l0_5 : List (S64)) : Option (Bool) := (laws_szProg.f k a0_0 l0_1 l0_2 a0_3 l0_4 l0_5 1048576).bind fun t1289 => (if t1289 < 0 then (some true) else ((laws_toProg.f k a0_0 l0_1 l0_2 a0_3 l0_4 l0_5).bind fun bt1291 => ((spec_InputsIn.f k bt1291.1 bt1291.2.1 bt1291.2.2.1 bt1291.2.2.2.1 bt1291.2.2.2.2.1 bt1291.2.2.2.2.2).bind fun t1305 => ((laws_toProg.f k a0_0 l0_1 l0_2 a0_3 l0_4 l0_5).bind fun bt1307 => ((impl_InputsIn.f k bt1307.1 bt1307.2.1 bt1307.2.2.1 bt1307.2.2.2.1 bt1307.2.2.2.2.1 bt1307.2.2.2.2.2).bind fun t1323 => (if t1323 = t1305 then ((laws_toProg.f k a0_0 l0_1 l0_2 a0_3 l0_4 l0_5).bind fun bt1326 => ((laws_eqProg.f k bt1307.1 bt1307.2.1 bt1307.2.2.1 bt1307.2.2.2.1 bt1307.2.2.2.2.1 bt1307.2.2.2.2.2 bt1326.1 bt1326.2.1 bt1326.2.2.1 bt1326.2.2.2.1 bt1326.2.2.2.2.1 bt1326.2.2.2.2.2).bind fun t1340 => (if t1340 = true then (some true) else (some false)))) else (some false)))))))
set_option maxRecDepth 100000 in
theorem τ85 {P : Prop} (h : P := by
 obtain rfl := Option.some.inj H
 go_enter Try.func9, Try.ntmps9
 try go_wp2_with (first | ((with_reducible refine gate_dst (N := 1) rfl ?_); refine bE 1 #[.int .i64 a0_0, .slice A0_1 l0_1.length c0_1, .slice A0_2 l0_2.length c0_2, .int .i64 a0_3, .slice A0_4 l0_4.length c0_4, .slice A0_5 l0_5.length c0_5] 45 ?_; intro gb10 hg w1_ hbox hb; have q := n4_ (below_step ψ61 hb) (hbox) ((ψ312 : w.heap.size ≤ gb10)) ((ψ312 : w.heap.size ≤ gb10)); clear HB; obtain ⟨HB, BK10, GW10, GE10⟩ := q; clear hb hbox hg; obtain ⟨hczB10_0, hczB10_1, hczB10_2, hczB10_3, hczB10_4, hczB10_5, hfzB10_0, hfzB10_1, hfzB10_2, hfzB10_3, hfzB10_4, hfzB10_5⟩ := cells6 BK10.out) | ((with_reducible refine gate_callee (f := 20) rfl ?_); refine gL 9 Try.func20 #[.agg #[.int .i64 a0_0, .slice A0_1 l0_1.length c0_1, .slice A0_2 l0_2.length c0_2, .int .i64 a0_3, .slice A0_4 l0_4.length c0_4, .slice A0_5 l0_5.length c0_5], .int .i64 1048576] ?_; (with_reducible refine (laws_szProg.calls k a0_0 _ _ l0_1 _ _ l0_2 a0_3 _ _ l0_4 _ _ l0_5 1048576 _ _ ?_ ?_ ?_ ?_ ?_ ?_ ?_ ?_ A2.out).mono ?_); exact ψ54; exact HC0_1.out; exact ψ55; exact HC0_2.out; exact ψ56; exact HC0_4.out; exact ψ57; exact HC0_5.out; rintro e w2_ ⟨rfl, hb⟩; refine ⟨_, rfl, ?_⟩; have q := n2_ (blk_below (g := gb10) ψ23 hb) (below_step ψ61 hb); clear BK10 HB; obtain ⟨BK10, HB⟩ := q; (try clear hb); obtain ⟨hczB10_0, hczB10_1, hczB10_2, hczB10_3, hczB10_4, hczB10_5, hfzB10_0, hfzB10_1, hfzB10_2, hfzB10_3, hfzB10_4, hfzB10_5⟩ := cells6 BK10.out) | ((with_reducible refine gate_callee (f := 22) rfl ?_); refine gL 13 Try.func22 #[.agg #[.int .i64 a0_0, .slice A0_1 l0_1.length c0_1, .slice A0_2 l0_2.length c0_2, .int .i64 a0_3, .slice A0_4 l0_4.length c0_4, .slice A0_5 l0_5.length c0_5]] ?_; (with_reducible refine (laws_toProg.calls k a0_0 _ _ l0_1 _ _ l0_2 a0_3 _ _ l0_4 _ _ l0_5 _ _ _ _ _ _ _ ?_ ?_ ?_ ?_ ?_ ?_ ?_ ?_ A7.out).mono ?_); exact ψ54; exact HC0_1.out; exact ψ55; exact HC0_2.out; exact ψ56; exact HC0_4.out; exact ψ57; exact HC0_5.out; rintro e w3_ ⟨v1293, v1296, v1300, v1303, rfl, ho0, ho1, ho2, ho3, hb⟩; refine ⟨_, rfl, ?_⟩; have q := n6_ (Kd.R_lower ho0 (below_size ψ61)) (Kd.R_lower ho1 (below_size ψ61)) (Kd.R_lower ho2 (below_size ψ61)) (Kd.S_lower ho3 (below_size ψ61)) (blk_below (g := gb10) ψ23 hb) (below_step ψ61 hb); clear BK10 HB; obtain ⟨HO1294, HO1297, HO1301, HO1304, BK10, HB⟩ := q; (try clear hb); (try clear ho0); (try clear ho1); (try clear ho2); (try clear ho3); obtain ⟨Ao1_, co1_, eo1_⟩ := Kd.R_slice HO1294.out; subst eo1_; obtain ⟨Ao2_, co2_, eo2_⟩ := Kd.R_slice HO1297.out; subst eo2_; obtain ⟨Ao3_, co3_, eo3_⟩ := Kd.R_slice HO1301.out; subst eo3_; obtain ⟨Ao4_, co4_, eo4_⟩ := Kd.S_slice HO1304.out; subst eo4_) | ((with_reducible refine gate_callee (f := 31) rfl ?_); refine gL 14 Try.func31 #[.agg #[.int .i64 t1291, .slice Ao1_ t1292.length co1_, .slice Ao2_ t1295.length co2_, .int .i64 t1298, .slice Ao3_ t1299.length co3_, .slice Ao4_ t1302.length co4_]] ?_; (with_reducible refine (spec_InputsIn.calls k t1291 _ _ t1292 _ _ t1295 t1298 _ _ t1299 _ _ t1302 _ _ ?_ ?_ ?_ ?_ ?_ ?_ ?_ ?_ A8.out).mono ?_); exact ψ196; exact (Kd.R_reads' HO1294.out).2.1; exact ψ197; exact (Kd.R_reads' HO1297.out).2.1; exact ψ198; exact (Kd.R_reads' HO1301.out).2.1; exact ψ199; exact (Kd.S_reads' HO1304.out).2.1; rintro e w4_ ⟨rfl, hb⟩; refine ⟨_, rfl, ?_⟩; have q := n6_ (Kd.R_below ψ200 hb) (Kd.R_below ψ201 hb) (Kd.R_below ψ202 hb) (Kd.S_below ψ203 hb) (blk_below (g := gb10) ψ23 hb) (below_step ψ61 hb); clear HO1294 HO1297 HO1301 HO1304 BK10 HB; obtain ⟨HO1294, HO1297, HO1301, HO1304, BK10, HB⟩ := q; (try clear hb); obtain ⟨hczB10_0, hczB10_1, hczB10_2, hczB10_3, hczB10_4, hczB10_5, hfzB10_0, hfzB10_1, hfzB10_2, hfzB10_3, hfzB10_4, hfzB10_5⟩ := cells6 BK10.out) | ((with_reducible refine gate_callee (f := 22) rfl ?_); refine gL 16 Try.func22 #[.agg #[.int .i64 a0_0, .slice A0_1 l0_1.length c0_1, .slice A0_2 l0_2.length c0_2, .int .i64 a0_3, .slice A0_4 l0_4.length c0_4, .slice A0_5 l0_5.length c0_5]] ?_; (with_reducible refine (laws_toProg.calls k a0_0 _ _ l0_1 _ _ l0_2 a0_3 _ _ l0_4 _ _ l0_5 _ _ _ _ _ _ _ ?_ ?_ ?_ ?_ ?_ ?_ ?_ ?_ A9.out).mono ?_); exact ψ54; exact HC0_1.out; exact ψ55; exact HC0_2.out; exact ψ56; exact HC0_4.out; exact ψ57; exact HC0_5.out; rintro e w5_ ⟨v1309, v1312, v1316, v1319, rfl, ho0, ho1, ho2, ho3, hb⟩; refine ⟨_, rfl, ?_⟩; have q := n10_ (Kd.R_mono (Kd.R_told (Kd.R_told (Kd.R_old ψ200 hb) (Kd.R_base ho0)) (Kd.R_base ho1)) (fun _ h_ => h_.1)) (Kd.R_mono (Kd.R_told (Kd.R_told (Kd.R_old ψ201 hb) (Kd.R_base ho0)) (Kd.R_base ho1)) (fun _ h_ => h_.1)) (Kd.R_elder' ψ202 (Kd.R_base ho2) hb) (Kd.S_elder' ψ203 (Kd.S_base ho3) hb) (Kd.R_lower (Kd.R_new' (Kd.R_new' ho0 (Kd.R_lt ψ200)) (Kd.R_lt ψ201)) (below_size ψ61)) (Kd.R_lower (Kd.R_new' (Kd.R_new' ho1 (Kd.R_lt ψ200)) (Kd.R_lt ψ201)) (below_size ψ61)) (Kd.R_lower (Kd.R_new' ho2 (Kd.R_lt ψ202)) (below_size ψ61)) (Kd.S_lower (Kd.S_new' ho3 (Kd.S_lt ψ203)) (below_size ψ61)) (blk_below (g := gb10) ψ23 hb) (below_step ψ61 hb); clear HO1294 HO1297 HO1301 HO1304 BK10 HB; obtain ⟨HO1294, HO1297, HO1301, HO1304, HO1310, HO1313, HO1317, HO1320, BK10, HB⟩ := q; (try clear hb); (try clear ho0); (try clear ho1); (try clear ho2); (try clear ho3)) | ((with_reducible refine gate_dst (N := 5) rfl ?_); refine bE 5 #[.int .i64 0, .slice none 0 0, .slice none 0 0, .int .i64 0, .slice none 0 0, .slice none 0 0] 35 ?_; intro gb11 hg w6_ hbox hb; have q := n15_ (Kd.R_below ψ200 hb) (Kd.R_below ψ201 hb) (Kd.R_below ψ202 hb) (Kd.S_below ψ203 hb) (Kd.R_below ψ204 hb) (Kd.R_below ψ205 hb) (Kd.R_below ψ206 hb) (Kd.S_below ψ207 hb) (blk_below (g := gb10) ψ23 hb) (below_step ψ61 hb) (hbox) ((ψ312 : w.heap.size ≤ gb11)) ((ψ312 : w.heap.size ≤ gb11)) ((ψ304 : gb10 ≠ gb11)) ((ψ305 : gb11 ≠ gb10)); clear HO1294 HO1297 HO1301 HO1304 HO1310 HO1313 HO1317 HO1320 BK10 HB; obtain ⟨HO1294, HO1297, HO1301, HO1304, HO1310, HO1313, HO1317, HO1320, BK10, HB, BK11, GW11, GE11, NB10_11, NB11_10⟩ := q; clear hb hbox hg; have hnb1_ := NB11_10.out; have hnc1_ := NB10_11.out; obtain ⟨hczB11_0, hczB11_1, hczB11_2, hczB11_3, hczB11_4, hczB11_5, hfzB11_0, hfzB11_1, hfzB11_2, hfzB11_3, hfzB11_4, hfzB11_5⟩ := cells6 BK11.out; obtain ⟨Ao5_, co5_, eo5_⟩ := Kd.R_slice HO1310.out; subst eo5_; obtain ⟨Ao6_, co6_, eo6_⟩ := Kd.R_slice HO1313.out; subst eo6_; obtain ⟨Ao7_, co7_, eo7_⟩ := Kd.R_slice HO1317.out; subst eo7_; obtain ⟨Ao8_, co8_, eo8_⟩ := Kd.S_slice HO1320.out; subst eo8_) | ((with_reducible refine gate_callee (f := 32) rfl ?_); refine gL 18 Try.func32 #[.agg #[.int .i64 t1307, .slice Ao5_ t1308.length co5_, .slice Ao6_ t1311.length co6_, .int .i64 t1314, .slice Ao7_ t1315.length co7_, .slice Ao8_ t1318.length co8_]] ?_; (with_reducible refine (impl_InputsIn.calls k t1307 _ _ t1308 _ _ t1311 t1314 _ _ t1315 _ _ t1318 _ _ ?_ ?_ ?_ ?_ ?_ ?_ ?_ ?_ A10.out).mono ?_); exact (by refine (Kd.R_reads' (e := 77) (base := w.heap.size) (ok := fun k_ => ((some k_ ≠ (.slice Ao6_ t1311.length co6_ : Value).ownBlock ∧ some k_ ≠ (.slice Ao1_ t1292.length co1_ : Value).ownBlock) ∧ some k_ ≠ (.slice Ao2_ t1295.length co2_ : Value).ownBlock)) (n := t1308.length) (c := co5_) ?_).2.2; exact ψ368); exact (Kd.R_reads' HO1310.out).2.1; exact (by refine (Kd.R_reads' (e := 77) (base := w.heap.size) (ok := fun k_ => ((some k_ ≠ (.slice Ao5_ t1308.length co5_ : Value).ownBlock ∧ some k_ ≠ (.slice Ao1_ t1292.length co1_ : Value).ownBlock) ∧ some k_ ≠ (.slice Ao2_ t1295.length co2_ : Value).ownBlock)) (n := t1311.length) (c := co6_) ?_).2.2; exact ψ369); exact (Kd.R_reads' HO1313.out).2.1; exact (by refine (Kd.R_reads' (e := 2) (base := w.heap.size) (ok := fun k_ => (True ∧ some k_ ≠ (.slice Ao3_ t1299.length co3_ : Value).ownBlock)) (n := t1315.length) (c := co7_) ?_).2.2; exact ψ370); exact (Kd.R_reads' HO1317.out).2.1; exact (by refine (Kd.S_reads' (e := 42) (base := w.heap.size) (ok := fun k_ => (True ∧ some k_ ≠ (.slice Ao4_ t1302.length co4_ : Value).ownBlock)) (n := t1318.length) (c := co8_) ?_).2.2; exact ψ371); exact (Kd.S_reads' HO1320.out).2.1; rintro e w7_ ⟨rfl, hb⟩; refine ⟨_, rfl, ?_⟩; have q := n11_ (Kd.R_below (by (with_reducible repeat (first | apply Kd.R_alloc | apply Kd.R_drewN | apply Kd.R_drew)); exact (Kd.R_mono (Kd.R_far (p := ⟨gb11, 5, none⟩) (Kd.R_far (p := ⟨gb11, 4, none⟩) (Kd.R_far (p := ⟨gb11, 3, none⟩) (Kd.R_far (p := ⟨gb11, 2, none⟩) (Kd.R_far (p := ⟨gb11, 1, none⟩) (Kd.R_far (p := ⟨gb11, 0, none⟩) (Kd.R_types HO1294.out BK11.out ψ15) (fun _ hk => hk.2) (.int .i64 t1307)) (fun _ hk => hk.2) (.slice Ao5_ t1308.length co5_)) (fun _ hk => hk.2) (.slice Ao6_ t1311.length co6_)) (fun _ hk => hk.2) (.int .i64 t1314)) (fun _ hk => hk.2) (.slice Ao7_ t1315.length co7_)) (fun _ hk => hk.2) (.slice Ao8_ t1318.length co8_)) (fun _ h_ => h_.1))) hb) (Kd.R_below (by (with_reducible repeat (first | apply Kd.R_alloc | apply Kd.R_drewN | apply Kd.R_drew)); exact (Kd.R_mono (Kd.R_far (p := ⟨gb11, 5, none⟩) (Kd.R_far (p := ⟨gb11, 4, none⟩) (Kd.R_far (p := ⟨gb11, 3, none⟩) (Kd.R_far (p := ⟨gb11, 2, none⟩) (Kd.R_far (p := ⟨gb11, 1, none⟩) (Kd.R_far (p := ⟨gb11, 0, none⟩) (Kd.R_types HO1297.out BK11.out ψ15) (fun _ hk => hk.2) (.int .i64 t1307)) (fun _ hk => hk.2) (.slice Ao5_ t1308.length co5_)) (fun _ hk => hk.2) (.slice Ao6_ t1311.length co6_)) (fun _ hk => hk.2) (.int .i64 t1314)) (fun _ hk => hk.2) (.slice Ao7_ t1315.length co7_)) (fun _ hk => hk.2) (.slice Ao8_ t1318.length co8_)) (fun _ h_ => h_.1))) hb) (Kd.R_below (by (with_reducible repeat (first | apply Kd.R_alloc | apply Kd.R_drewN | apply Kd.R_drew)); exact (Kd.R_mono (Kd.R_far (p := ⟨gb11, 5, none⟩) (Kd.R_far (p := ⟨gb11, 4, none⟩) (Kd.R_far (p := ⟨gb11, 3, none⟩) (Kd.R_far (p := ⟨gb11, 2, none⟩) (Kd.R_far (p := ⟨gb11, 1, none⟩) (Kd.R_far (p := ⟨gb11, 0, none⟩) (Kd.R_types HO1301.out BK11.out ψ15) (fun _ hk => hk.2) (.int .i64 t1307)) (fun _ hk => hk.2) (.slice Ao5_ t1308.length co5_)) (fun _ hk => hk.2) (.slice Ao6_ t1311.length co6_)) (fun _ hk => hk.2) (.int .i64 t1314)) (fun _ hk => hk.2) (.slice Ao7_ t1315.length co7_)) (fun _ hk => hk.2) (.slice Ao8_ t1318.length co8_)) (fun _ h_ => h_.1))) hb) (Kd.S_below (by (with_reducible repeat (first | apply Kd.S_alloc | apply Kd.S_drewN | apply Kd.S_drew)); exact (Kd.S_mono (Kd.S_far (p := ⟨gb11, 5, none⟩) (Kd.S_far (p := ⟨gb11, 4, none⟩) (Kd.S_far (p := ⟨gb11, 3, none⟩) (Kd.S_far (p := ⟨gb11, 2, none⟩) (Kd.S_far (p := ⟨gb11, 1, none⟩) (Kd.S_far (p := ⟨gb11, 0, none⟩) (Kd.S_types HO1304.out BK11.out ψ15) (fun _ hk => hk.2) (.int .i64 t1307)) (fun _ hk => hk.2) (.slice Ao5_ t1308.length co5_)) (fun _ hk => hk.2) (.slice Ao6_ t1311.length co6_)) (fun _ hk => hk.2) (.int .i64 t1314)) (fun _ hk => hk.2) (.slice Ao7_ t1315.length co7_)) (fun _ hk => hk.2) (.slice Ao8_ t1318.length co8_)) (fun _ h_ => h_.1))) hb) (Kd.R_below ψ368 hb) (Kd.R_below ψ369 hb) (Kd.R_below ψ370 hb) (Kd.S_below ψ371 hb) (blk_below (g := gb10) (o := .cells #[.int .i64 a0_0, .slice A0_1 l0_1.length c0_1, .slice A0_2 l0_2.length c0_2, .int .i64 a0_3, .slice A0_4 l0_4.length c0_4, .slice A0_5 l0_5.length c0_5] 45 (0, 0)) ψ97 hb) (blk_below (g := gb11) (o := .cells #[.int .i64 t1307, .slice Ao5_ t1308.length co5_, .slice Ao6_ t1311.length co6_, .int .i64 t1314, .slice Ao7_ t1315.length co7_, .slice Ao8_ t1318.length co8_] 35 (0, 0)) (by (with_reducible repeat (first | refine blk_drewN ?_ _ | refine blk_drew ?_ | refine blk_alloc ?_ _)); refine blk_put (cs := #[.int .i64 t1307, .slice Ao5_ t1308.length co5_, .slice Ao6_ t1311.length co6_, .int .i64 t1314, .slice Ao7_ t1315.length co7_, .slice none 0 0]) ?_ 5 _ rfl; (with_reducible repeat (first | refine blk_drewN ?_ _ | refine blk_drew ?_ | refine blk_alloc ?_ _)); refine blk_put (cs := #[.int .i64 t1307, .slice Ao5_ t1308.length co5_, .slice Ao6_ t1311.length co6_, .int .i64 t1314, .slice none 0 0, .slice none 0 0]) ?_ 4 _ rfl; (with_reducible repeat (first | refine blk_drewN ?_ _ | refine blk_drew ?_ | refine blk_alloc ?_ _)); refine blk_put (cs := #[.int .i64 t1307, .slice Ao5_ t1308.length co5_, .slice Ao6_ t1311.length co6_, .int .i64 0, .slice none 0 0, .slice none 0 0]) ?_ 3 _ rfl; (with_reducible repeat (first | refine blk_drewN ?_ _ | refine blk_drew ?_ | refine blk_alloc ?_ _)); refine blk_put (cs := #[.int .i64 t1307, .slice Ao5_ t1308.length co5_, .slice none 0 0, .int .i64 0, .slice none 0 0, .slice none 0 0]) ?_ 2 _ rfl; (with_reducible repeat (first | refine blk_drewN ?_ _ | refine blk_drew ?_ | refine blk_alloc ?_ _)); refine blk_put (cs := #[.int .i64 t1307, .slice none 0 0, .slice none 0 0, .int .i64 0, .slice none 0 0, .slice none 0 0]) ?_ 1 _ rfl; (with_reducible repeat (first | refine blk_drewN ?_ _ | refine blk_drew ?_ | refine blk_alloc ?_ _)); refine blk_put (cs := #[.int .i64 0, .slice none 0 0, .slice none 0 0, .int .i64 0, .slice none 0 0, .slice none 0 0]) ?_ 0 _ rfl; (with_reducible repeat (first | refine blk_drewN ?_ _ | refine blk_drew ?_ | refine blk_alloc ?_ _)); exact BK11.out) hb) (below_step ψ61 hb); clear HO1294 HO1297 HO1301 HO1304 HO1310 HO1313 HO1317 HO1320 BK10 BK11 HB; obtain ⟨HO1294, HO1297, HO1301, HO1304, HO1310, HO1313, HO1317, HO1320, BK10, BK11, HB⟩ := q; (try clear hb)))
 have q := n11_ (Kd.R_drew HO1294.out) (Kd.R_drew HO1297.out) (Kd.R_drew HO1301.out) (Kd.S_drew HO1304.out) (Kd.R_drew HO1310.out) (Kd.R_drew HO1313.out) (Kd.R_drew HO1317.out) (Kd.S_drew HO1320.out) (blk_drew BK10.out) (blk_drew BK11.out) (below_drew1 HB.out)
 clear HO1294 HO1297 HO1301 HO1304 HO1310 HO1313 HO1317 HO1320 BK10 BK11 HB
 obtain ⟨HO1294, HO1297, HO1301, HO1304, HO1310, HO1313, HO1317, HO1320, BK10, BK11, HB⟩ := q
 refine start_ (n := 5) (S := fun w' => w'.cell? ⟨gb11, 0, none⟩ = some (.int .i64 t1307) ∧ w'.cell? ⟨gb11, 1, none⟩ = some (.slice Ao5_ t1308.length co5_) ∧ w'.cell? ⟨gb11, 2, none⟩ = some (.slice Ao6_ t1311.length co6_) ∧ w'.cell? ⟨gb11, 3, none⟩ = some (.int .i64 t1314) ∧ w'.cell? ⟨gb11, 4, none⟩ = some (.slice Ao7_ t1315.length co7_) ∧ w'.cell? ⟨gb11, 5, none⟩ = some (.slice Ao8_ t1318.length co8_) ∧ w'.cell? ⟨gb10, 0, none⟩ = some (.int .i64 a0_0) ∧ w'.cell? ⟨gb10, 1, none⟩ = some (.slice A0_1 l0_1.length c0_1) ∧ w'.cell? ⟨gb10, 2, none⟩ = some (.slice A0_2 l0_2.length c0_2) ∧ w'.cell? ⟨gb10, 3, none⟩ = some (.int .i64 a0_3) ∧ w'.cell? ⟨gb10, 4, none⟩ = some (.slice A0_4 l0_4.length c0_4) ∧ w'.cell? ⟨gb10, 5, none⟩ = some (.slice A0_5 l0_5.length c0_5)) (ds := []) #[false, false, false, false, false] ψ14 rfl rfl ⟨(blk_cell BK11.out 0).trans rfl, (blk_cell BK11.out 1).trans rfl, (blk_cell BK11.out 2).trans rfl, (blk_cell BK11.out 3).trans rfl, (blk_cell BK11.out 4).trans rfl, (blk_cell BK11.out 5).trans rfl, (blk_cell BK10.out 0).trans rfl, (blk_cell BK10.out 1).trans rfl, (blk_cell BK10.out 2).trans rfl, (blk_cell BK10.out 3).trans rfl, (blk_cell BK10.out 4).trans rfl, (blk_cell BK10.out 5).trans rfl⟩ (fun hHeld => ?_)
 generalize w7_.drew = w8_ at HO1294 HO1297 HO1301 HO1304 HO1310 HO1313 HO1317 HO1320 BK10 BK11 HB hHeld ⊢
 refine rT 0 22 ?_; refine rT 1 23 ?_
 refine one_ (i := 2) (N := some 24) #[true, true, true, false, false] rfl rfl ψ14 ψ15 (fun K hK => ?_)
 refine goes_ Try.func22 ψ14 rfl #[.agg #[.int .i64 a0_0, .slice A0_1 l0_1.length c0_1, .slice A0_2 l0_2.length c0_2, .int .i64 a0_3, .slice A0_4 l0_4.length c0_4, .slice A0_5 l0_5.length c0_5]] ψ16 rfl rfl ψ17 ?_
 with_reducible refine (laws_toProg.calls k a0_0 _ _ l0_1 _ _ l0_2 a0_3 _ _ l0_4 _ _ l0_5 _ _ _ _ _ _ _ ?_ ?_ ?_ ?_ ?_ ?_ ?_ ?_ A12.out).mono ?_
 exact ψ54; exact HC0_1.out; exact ψ55; exact HC0_2.out; exact ψ56; exact HC0_4.out; exact ψ57; exact HC0_5.out
 rintro e w9_ ⟨v1328, v1331, v1335, v1338, rfl, ho0, ho1, ho2, ho3, hb⟩
 refine ⟨_, rfl, ?_⟩
 have q := n15_ (Kd.R_mono (Kd.R_told (Kd.R_told (Kd.R_old ψ200 hb) (Kd.R_base ho0)) (Kd.R_base ho1)) (fun _ h_ => h_.1)) (Kd.R_mono (Kd.R_told (Kd.R_told (Kd.R_old ψ201 hb) (Kd.R_base ho0)) (Kd.R_base ho1)) (fun _ h_ => h_.1)) (Kd.R_elder' ψ202 (Kd.R_base ho2) hb) (Kd.S_elder' ψ203 (Kd.S_base ho3) hb) (Kd.R_mono (Kd.R_told (Kd.R_told (Kd.R_old ψ204 hb) (Kd.R_base ho0)) (Kd.R_base ho1)) (fun _ h_ => h_.1)) (Kd.R_mono (Kd.R_told (Kd.R_told (Kd.R_old ψ205 hb) (Kd.R_base ho0)) (Kd.R_base ho1)) (fun _ h_ => h_.1)) (Kd.R_elder' ψ206 (Kd.R_base ho2) hb) (Kd.S_elder' ψ207 (Kd.S_base ho3) hb) (Kd.R_lower (Kd.R_new' (Kd.R_new' (Kd.R_new' (Kd.R_new' ho0 (Kd.R_lt ψ200)) (Kd.R_lt ψ201)) (Kd.R_lt ψ204)) (Kd.R_lt ψ205)) (below_size ψ61)) (Kd.R_lower (Kd.R_new' (Kd.R_new' (Kd.R_new' (Kd.R_new' ho1 (Kd.R_lt ψ200)) (Kd.R_lt ψ201)) (Kd.R_lt ψ204)) (Kd.R_lt ψ205)) (below_size ψ61)) (Kd.R_lower (Kd.R_new' (Kd.R_new' ho2 (Kd.R_lt ψ202)) (Kd.R_lt ψ206)) (below_size ψ61)) (Kd.S_lower (Kd.S_new' (Kd.S_new' ho3 (Kd.S_lt ψ203)) (Kd.S_lt ψ207)) (below_size ψ61)) (blk_below (g := gb10) ψ23 hb) (blk_below (g := gb11) ψ34 hb) (below_step ψ61 hb)
 clear HO1294 HO1297 HO1301 HO1304 HO1310 HO1313 HO1317 HO1320 BK10 BK11 HB
 obtain ⟨HO1294, HO1297, HO1301, HO1304, HO1310, HO1313, HO1317, HO1320, HO1329, HO1332, HO1336, HO1339, BK10, BK11, HB⟩ := q
 (try clear hb)
 (try clear ho0)
 (try clear ho1)
 (try clear ho2)
 (try clear ho3)
 obtain ⟨Ao9_, co9_, eo9_⟩ := Kd.R_slice HO1329.out
 (first | subst eo9_ | (injection eo9_ with f1_ f2_ f3_; have f4_ := f1_.symm; have f5_ := f3_.symm; clear f1_ f2_ f3_; subst f4_; subst f5_))
 obtain ⟨Ao10_, co10_, eo10_⟩ := Kd.R_slice HO1332.out
 (first | subst eo10_ | (injection eo10_ with f1_ f2_ f3_; have f4_ := f1_.symm; have f5_ := f3_.symm; clear f1_ f2_ f3_; subst f4_; subst f5_))
 obtain ⟨Ao11_, co11_, eo11_⟩ := Kd.R_slice HO1336.out
 (first | subst eo11_ | (injection eo11_ with f1_ f2_ f3_; have f4_ := f1_.symm; have f5_ := f3_.symm; clear f1_ f2_ f3_; subst f4_; subst f5_))
 obtain ⟨Ao12_, co12_, eo12_⟩ := Kd.S_slice HO1339.out
 (first | subst eo12_ | (injection eo12_ with f1_ f2_ f3_; have f4_ := f1_.symm; have f5_ := f3_.symm; clear f1_ f2_ f3_; subst f4_; subst f5_))
 refine hK.out _ _ ⟨(blk_cell BK11.out 0).trans rfl, (blk_cell BK11.out 1).trans rfl, (blk_cell BK11.out 2).trans rfl, (blk_cell BK11.out 3).trans rfl, (blk_cell BK11.out 4).trans rfl, (blk_cell BK11.out 5).trans rfl, (blk_cell BK10.out 0).trans rfl, (blk_cell BK10.out 1).trans rfl, (blk_cell BK10.out 2).trans rfl, (blk_cell BK10.out 3).trans rfl, (blk_cell BK10.out 4).trans rfl, (blk_cell BK10.out 5).trans rfl⟩ (fun hHeld => ?_)
 clear hK K
 refine rN 24 ?_
 refine one_ (i := 3) (N := some 25) #[true, true, true, true, false] rfl rfl ψ14 ψ15 (fun K hK => ?_)
 refine goes_ Try.func24 ψ14 rfl #[.agg #[.int .i64 t1307, .slice Ao5_ t1308.length co5_, .slice Ao6_ t1311.length co6_, .int .i64 t1314, .slice Ao7_ t1315.length co7_, .slice Ao8_ t1318.length co8_], .agg #[.int .i64 t1326, .slice Ao9_ t1327.length co9_, .slice Ao10_ t1330.length co10_, .int .i64 t1333, .slice Ao11_ t1334.length co11_, .slice Ao12_ t1337.length co12_]] ψ16 rfl rfl ψ17 ?_
 with_reducible refine (laws_eqProg.calls k t1307 _ _ t1308 _ _ t1311 t1314 _ _ t1315 _ _ t1318 t1326 _ _ t1327 _ _ t1330 t1333 _ _ t1334 _ _ t1337 _ _ ?_ ?_ ?_ ?_ ?_ ?_ ?_ ?_ ?_ ?_ ?_ ?_ ?_ ?_ ?_ ?_ A13.out).mono ?_
 exact (by repeat (first | exact (Kd.R_reads' HO1310.out).2.2 | (with_reducible refine Kd.C_alloc ?_ _) | (with_reducible refine Kd.C_drewN ?_ _) | (with_reducible refine Kd.C_drew ?_))); exact (Kd.R_reads' HO1310.out).2.1; exact (by repeat (first | exact (Kd.R_reads' HO1313.out).2.2 | (with_reducible refine Kd.C_alloc ?_ _) | (with_reducible refine Kd.C_drewN ?_ _) | (with_reducible refine Kd.C_drew ?_))); exact (Kd.R_reads' HO1313.out).2.1; exact (by repeat (first | exact (Kd.R_reads' HO1317.out).2.2 | (with_reducible refine Kd.C_alloc ?_ _) | (with_reducible refine Kd.C_drewN ?_ _) | (with_reducible refine Kd.C_drew ?_))); exact (Kd.R_reads' HO1317.out).2.1; exact (by repeat (first | exact (Kd.S_reads' HO1320.out).2.2 | (with_reducible refine Kd.C_alloc ?_ _) | (with_reducible refine Kd.C_drewN ?_ _) | (with_reducible refine Kd.C_drew ?_))); exact (Kd.S_reads' HO1320.out).2.1; exact (by repeat (first | exact (Kd.R_reads' HO1329.out).2.2 | (with_reducible refine Kd.C_alloc ?_ _) | (with_reducible refine Kd.C_drewN ?_ _) | (with_reducible refine Kd.C_drew ?_))); exact (Kd.R_reads' HO1329.out).2.1; exact (by repeat (first | exact (Kd.R_reads' HO1332.out).2.2 | (with_reducible refine Kd.C_alloc ?_ _) | (with_reducible refine Kd.C_drewN ?_ _) | (with_reducible refine Kd.C_drew ?_))); exact (Kd.R_reads' HO1332.out).2.1; exact (by repeat (first | exact (Kd.R_reads' HO1336.out).2.2 | (with_reducible refine Kd.C_alloc ?_ _) | (with_reducible refine Kd.C_drewN ?_ _) | (with_reducible refine Kd.C_drew ?_))); exact (Kd.R_reads' HO1336.out).2.1; exact (by repeat (first | exact (Kd.S_reads' HO1339.out).2.2 | (with_reducible refine Kd.C_alloc ?_ _) | (with_reducible refine Kd.C_drewN ?_ _) | (with_reducible refine Kd.C_drew ?_))); exact (Kd.S_reads' HO1339.out).2.1
 rintro e w10_ ⟨rfl, hb⟩
 refine ⟨_, rfl, ?_⟩
 have q := n15_ (Kd.R_below ψ200 hb) (Kd.R_below ψ201 hb) (Kd.R_below ψ202 hb) (Kd.S_below ψ203 hb) (Kd.R_below ψ204 hb) (Kd.R_below ψ205 hb) (Kd.R_below ψ206 hb) (Kd.S_below ψ207 hb) (Kd.R_below (by (with_reducible repeat (first | apply Kd.R_alloc | apply Kd.R_drewN | apply Kd.R_drew)); exact HO1329.out) hb) (Kd.R_below (by (with_reducible repeat (first | apply Kd.R_alloc | apply Kd.R_drewN | apply Kd.R_drew)); exact HO1332.out) hb) (Kd.R_below (by (with_reducible repeat (first | apply Kd.R_alloc | apply Kd.R_drewN | apply Kd.R_drew)); exact HO1336.out) hb) (Kd.S_below (by (with_reducible repeat (first | apply Kd.S_alloc | apply Kd.S_drewN | apply Kd.S_drew)); exact HO1339.out) hb) (blk_below (g := gb10) ψ23 hb) (blk_below (g := gb11) ψ34 hb) (below_step ψ61 hb)
 clear HO1294 HO1297 HO1301 HO1304 HO1310 HO1313 HO1317 HO1320 HO1329 HO1332 HO1336 HO1339 BK10 BK11 HB
 obtain ⟨HO1294, HO1297, HO1301, HO1304, HO1310, HO1313, HO1317, HO1320, HO1329, HO1332, HO1336, HO1339, BK10, BK11, HB⟩ := q
 (try clear hb)
 refine hK.out _ _ ⟨(blk_cell BK11.out 0).trans rfl, (blk_cell BK11.out 1).trans rfl, (blk_cell BK11.out 2).trans rfl, (blk_cell BK11.out 3).trans rfl, (blk_cell BK11.out 4).trans rfl, (blk_cell BK11.out 5).trans rfl, (blk_cell BK10.out 0).trans rfl, (blk_cell BK10.out 1).trans rfl, (blk_cell BK10.out 2).trans rfl, (blk_cell BK10.out 3).trans rfl, (blk_cell BK10.out 4).trans rfl, (blk_cell BK10.out 5).trans rfl⟩ (fun hHeld => ?_)
 clear hK K
 refine rN 25 ?_; refine rP 4 26 ?_
 refine done_ ψ14 ?_
 try go_wp2
 go_ret
 exact ⟨ψ9, ψ61⟩) : P := h
set_option maxHeartbeats 8000000 in
set_option maxRecDepth 100000 in
theorem laws_FnExactInputsIn.calls (k : Nat) (a0_0 : Int) (A0_1 : Option Addr) (c0_1 : Nat) (l0_1 : List (S120)) (A0_2 : Option Addr) (c0_2 : Nat) (l0_2 : List (S120)) (a0_3 : Int) (A0_4 : Option Addr) (c0_4 : Nat) (l0_4 : List Int) (A0_5 : Option Addr) (c0_5 : Nat) (l0_5 : List (S64)) (r : Bool) (w : World) (hr0_1 : Kd.C k120 w A0_1 l0_1.length l0_1) (hc0_1 : l0_1.length ≤ c0_1) (hr0_2 : Kd.C k120 w A0_2 l0_2.length l0_2) (hc0_2 : l0_2.length ≤ c0_2) (hr0_4 : Kd.C (Kd.int .i64) w A0_4 l0_4.length l0_4) (hc0_4 : l0_4.length ≤ c0_4) (hr0_5 : Kd.C k64 w A0_5 l0_5.length l0_5) (hc0_5 : l0_5.length ≤ c0_5) (h : laws_FnExactInputsIn.f k a0_0 l0_1 l0_2 a0_3 l0_4 l0_5 = some r) :
 Calls Try.prog 9 #[.agg #[.int .i64 a0_0, .slice A0_1 l0_1.length c0_1, .slice A0_2 l0_2.length c0_2, .int .i64 a0_3, .slice A0_4 l0_4.length c0_4, .slice A0_5 l0_5.length c0_5]] w fun e w' => e = .returned (.bool r) ∧ Below w.heap.size w w' := by
 have hu45 := Try.underlying45
 have hu35 := Try.underlying35
 have HR0_1 := Aside0.mk hr0_1
 have HC0_1 := Aside0.mk hc0_1
 clear hr0_1 hc0_1
 have HR0_2 := Aside0.mk hr0_2
 have HC0_2 := Aside0.mk hc0_2
 clear hr0_2 hc0_2
 have HR0_4 := Aside0.mk hr0_4
 have HC0_4 := Aside0.mk hc0_4
 clear hr0_4 hc0_4
 have HR0_5 := Aside0.mk hr0_5
 have HC0_5 := Aside0.mk hc0_5
 clear hr0_5 hc0_5
 have HB := Aside0.mk (Below.refl w.heap.size w)
 have H : ((laws_szProg.f k a0_0 l0_1 l0_2 a0_3 l0_4 l0_5 1048576).bind fun t1289 => (if t1289 < 0 then (some true) else ((laws_toProg.f k a0_0 l0_1 l0_2 a0_3 l0_4 l0_5).bind fun bt1291 => ((spec_InputsIn.f k bt1291.1 bt1291.2.1 bt1291.2.2.1 bt1291.2.2.2.1 bt1291.2.2.2.2.1 bt1291.2.2.2.2.2).bind fun t1305 => ((laws_toProg.f k a0_0 l0_1 l0_2 a0_3 l0_4 l0_5).bind fun bt1307 => ((impl_InputsIn.f k bt1307.1 bt1307.2.1 bt1307.2.2.1 bt1307.2.2.2.1 bt1307.2.2.2.2.1 bt1307.2.2.2.2.2).bind fun t1323 => (if t1323 = t1305 then ((laws_toProg.f k a0_0 l0_1 l0_2 a0_3 l0_4 l0_5).bind fun bt1326 => ((laws_eqProg.f k bt1307.1 bt1307.2.1 bt1307.2.2.1 bt1307.2.2.2.1 bt1307.2.2.2.2.1 bt1307.2.2.2.2.2 bt1326.1 bt1326.2.1 bt1326.2.2.1 bt1326.2.2.2.1 bt1326.2.2.2.2.1 bt1326.2.2.2.2.2).bind fun t1340 => (if t1340 = true then (some true) else (some false)))) else (some false)))))))) = some r := h
 clear h
 replace H := Option.bind_eq_some_iff.mp H
 obtain ⟨t1289, A20, H⟩ := H
 have A2 := Aside0.mk A20
 clear A20
 replace H := ifD H; rcases H with ⟨c3b0, H⟩ | ⟨c3b0, H⟩
 ·obtain rfl := Option.some.inj H
  go_enter Try.func9, Try.ntmps9
  go_wp2_with (first | ((with_reducible refine gate_dst (N := 1) rfl ?_); refine bE 1 #[.int .i64 a0_0, .slice A0_1 l0_1.length c0_1, .slice A0_2 l0_2.length c0_2, .int .i64 a0_3, .slice A0_4 l0_4.length c0_4, .slice A0_5 l0_5.length c0_5] 45 ?_; intro gb10 hg w4 hbox hb; have q := n4_ (below_step ψ61 hb) (hbox) ((ψ312 : w.heap.size ≤ gb10)) ((ψ312 : w.heap.size ≤ gb10)); clear HB; obtain ⟨HB, BK10, GW10, GE10⟩ := q; clear hb hbox hg; obtain ⟨y5_0, y5_1, y5_2, y5_3, y5_4, y5_5, u5_0, u5_1, u5_2, u5_3, u5_4, u5_5⟩ := cells6 BK10.out) | ((with_reducible refine gate_callee (f := 20) rfl ?_); refine gL 9 Try.func20 #[.agg #[.int .i64 a0_0, .slice A0_1 l0_1.length c0_1, .slice A0_2 l0_2.length c0_2, .int .i64 a0_3, .slice A0_4 l0_4.length c0_4, .slice A0_5 l0_5.length c0_5], .int .i64 1048576] ?_; (with_reducible refine (laws_szProg.calls k a0_0 _ _ l0_1 _ _ l0_2 a0_3 _ _ l0_4 _ _ l0_5 1048576 _ _ ?_ ?_ ?_ ?_ ?_ ?_ ?_ ?_ A2.out).mono ?_); exact ψ54; exact HC0_1.out; exact ψ55; exact HC0_2.out; exact ψ56; exact HC0_4.out; exact ψ57; exact HC0_5.out; rintro e w6 ⟨rfl, hb⟩; refine ⟨_, rfl, ?_⟩; have q := n2_ (blk_below (g := gb10) ψ23 hb) (below_step ψ61 hb); clear BK10 HB; obtain ⟨BK10, HB⟩ := q; (try clear hb)))
  go_ret
  exact ⟨ψ9, ψ61⟩
 ·replace H := Option.bind_eq_some_iff.mp H
  obtain ⟨⟨t1291, t1292, t1295, t1298, t1299, t1302⟩, A70, H⟩ := H
  have A7 := Aside0.mk A70
  clear A70
  replace H := Option.bind_eq_some_iff.mp H
  obtain ⟨t1305, A80, H⟩ := H
  have A8 := Aside0.mk A80
  clear A80
  replace H := Option.bind_eq_some_iff.mp H
  obtain ⟨⟨t1307, t1308, t1311, t1314, t1315, t1318⟩, A90, H⟩ := H
  have A9 := Aside0.mk A90
  clear A90
  replace H := Option.bind_eq_some_iff.mp H
  obtain ⟨t1323, A100, H⟩ := H
  have A10 := Aside0.mk A100
  clear A100
  replace H := ifF H; rcases H with ⟨c11b0, c11b1, H⟩ | ⟨c11b0, c11b1, c11, H⟩
  ·replace H := Option.bind_eq_some_iff.mp H
   obtain ⟨⟨t1326, t1327, t1330, t1333, t1334, t1337⟩, A120, H⟩ := H
   have A12 := Aside0.mk A120
   clear A120
   replace H := Option.bind_eq_some_iff.mp H
   obtain ⟨t1340, A130, H⟩ := H
   have A13 := Aside0.mk A130
   clear A130
   replace H := ifB H; rcases H with ⟨rfl, H⟩ | ⟨rfl, H⟩
   ·exact τ85
   ·exact τ85
  ·obtain rfl := Option.some.inj H
   go_enter Try.func9, Try.ntmps9
   go_wp2_with (first | ((with_reducible refine gate_dst (N := 1) rfl ?_); refine bE 1 #[.int .i64 a0_0, .slice A0_1 l0_1.length c0_1, .slice A0_2 l0_2.length c0_2, .int .i64 a0_3, .slice A0_4 l0_4.length c0_4, .slice A0_5 l0_5.length c0_5] 45 ?_; intro gb10 hg w69 hbox hb; have q := n4_ (below_step ψ61 hb) (hbox) ((ψ312 : w.heap.size ≤ gb10)) ((ψ312 : w.heap.size ≤ gb10)); clear HB; obtain ⟨HB, BK10, GW10, GE10⟩ := q; clear hb hbox hg; obtain ⟨y70_0, y70_1, y70_2, y70_3, y70_4, y70_5, u70_0, u70_1, u70_2, u70_3, u70_4, u70_5⟩ := cells6 BK10.out) | ((with_reducible refine gate_callee (f := 20) rfl ?_); refine gL 9 Try.func20 #[.agg #[.int .i64 a0_0, .slice A0_1 l0_1.length c0_1, .slice A0_2 l0_2.length c0_2, .int .i64 a0_3, .slice A0_4 l0_4.length c0_4, .slice A0_5 l0_5.length c0_5], .int .i64 1048576] ?_; (with_reducible refine (laws_szProg.calls k a0_0 _ _ l0_1 _ _ l0_2 a0_3 _ _ l0_4 _ _ l0_5 1048576 _ _ ?_ ?_ ?_ ?_ ?_ ?_ ?_ ?_ A2.out).mono ?_); exact ψ54; exact HC0_1.out; exact ψ55; exact HC0_2.out; exact ψ56; exact HC0_4.out; exact ψ57; exact HC0_5.out; rintro e w71 ⟨rfl, hb⟩; refine ⟨_, rfl, ?_⟩; have q := n2_ (blk_below (g := gb10) ψ23 hb) (below_step ψ61 hb); clear BK10 HB; obtain ⟨BK10, HB⟩ := q; (try clear hb); obtain ⟨y72_0, y72_1, y72_2, y72_3, y72_4, y72_5, u72_0, u72_1, u72_2, u72_3, u72_4, u72_5⟩ := cells6 BK10.out) | ((with_reducible refine gate_callee (f := 22) rfl ?_); refine gL 13 Try.func22 #[.agg #[.int .i64 a0_0, .slice A0_1 l0_1.length c0_1, .slice A0_2 l0_2.length c0_2, .int .i64 a0_3, .slice A0_4 l0_4.length c0_4, .slice A0_5 l0_5.length c0_5]] ?_; (with_reducible refine (laws_toProg.calls k a0_0 _ _ l0_1 _ _ l0_2 a0_3 _ _ l0_4 _ _ l0_5 _ _ _ _ _ _ _ ?_ ?_ ?_ ?_ ?_ ?_ ?_ ?_ A7.out).mono ?_); exact ψ54; exact HC0_1.out; exact ψ55; exact HC0_2.out; exact ψ56; exact HC0_4.out; exact ψ57; exact HC0_5.out; rintro e w73 ⟨v1293, v1296, v1300, v1303, rfl, ho0, ho1, ho2, ho3, hb⟩; refine ⟨_, rfl, ?_⟩; have q := n6_ (Kd.R_lower ho0 (below_size ψ61)) (Kd.R_lower ho1 (below_size ψ61)) (Kd.R_lower ho2 (below_size ψ61)) (Kd.S_lower ho3 (below_size ψ61)) (blk_below (g := gb10) ψ23 hb) (below_step ψ61 hb); clear BK10 HB; obtain ⟨HO1294, HO1297, HO1301, HO1304, BK10, HB⟩ := q; (try clear hb); (try clear ho0); (try clear ho1); (try clear ho2); (try clear ho3); obtain ⟨Ao74, co74, eo74⟩ := Kd.R_slice HO1294.out; subst eo74; obtain ⟨Ao75, co75, eo75⟩ := Kd.R_slice HO1297.out; subst eo75; obtain ⟨Ao76, co76, eo76⟩ := Kd.R_slice HO1301.out; subst eo76; obtain ⟨Ao77, co77, eo77⟩ := Kd.S_slice HO1304.out; subst eo77) | ((with_reducible refine gate_callee (f := 31) rfl ?_); refine gL 14 Try.func31 #[.agg #[.int .i64 t1291, .slice Ao74 t1292.length co74, .slice Ao75 t1295.length co75, .int .i64 t1298, .slice Ao76 t1299.length co76, .slice Ao77 t1302.length co77]] ?_; (with_reducible refine (spec_InputsIn.calls k t1291 _ _ t1292 _ _ t1295 t1298 _ _ t1299 _ _ t1302 _ _ ?_ ?_ ?_ ?_ ?_ ?_ ?_ ?_ A8.out).mono ?_); exact ψ196; exact (Kd.R_reads' HO1294.out).2.1; exact ψ197; exact (Kd.R_reads' HO1297.out).2.1; exact ψ198; exact (Kd.R_reads' HO1301.out).2.1; exact ψ199; exact (Kd.S_reads' HO1304.out).2.1; rintro e w78 ⟨rfl, hb⟩; refine ⟨_, rfl, ?_⟩; have q := n6_ (Kd.R_below ψ200 hb) (Kd.R_below ψ201 hb) (Kd.R_below ψ202 hb) (Kd.S_below ψ203 hb) (blk_below (g := gb10) ψ23 hb) (below_step ψ61 hb); clear HO1294 HO1297 HO1301 HO1304 BK10 HB; obtain ⟨HO1294, HO1297, HO1301, HO1304, BK10, HB⟩ := q; (try clear hb); obtain ⟨y79_0, y79_1, y79_2, y79_3, y79_4, y79_5, u79_0, u79_1, u79_2, u79_3, u79_4, u79_5⟩ := cells6 BK10.out) | ((with_reducible refine gate_callee (f := 22) rfl ?_); refine gL 16 Try.func22 #[.agg #[.int .i64 a0_0, .slice A0_1 l0_1.length c0_1, .slice A0_2 l0_2.length c0_2, .int .i64 a0_3, .slice A0_4 l0_4.length c0_4, .slice A0_5 l0_5.length c0_5]] ?_; (with_reducible refine (laws_toProg.calls k a0_0 _ _ l0_1 _ _ l0_2 a0_3 _ _ l0_4 _ _ l0_5 _ _ _ _ _ _ _ ?_ ?_ ?_ ?_ ?_ ?_ ?_ ?_ A9.out).mono ?_); exact ψ54; exact HC0_1.out; exact ψ55; exact HC0_2.out; exact ψ56; exact HC0_4.out; exact ψ57; exact HC0_5.out; rintro e w80 ⟨v1309, v1312, v1316, v1319, rfl, ho0, ho1, ho2, ho3, hb⟩; refine ⟨_, rfl, ?_⟩; have q := n10_ (Kd.R_mono (Kd.R_told (Kd.R_told (Kd.R_old ψ200 hb) (Kd.R_base ho0)) (Kd.R_base ho1)) (fun _ h_ => h_.1)) (Kd.R_mono (Kd.R_told (Kd.R_told (Kd.R_old ψ201 hb) (Kd.R_base ho0)) (Kd.R_base ho1)) (fun _ h_ => h_.1)) (Kd.R_elder' ψ202 (Kd.R_base ho2) hb) (Kd.S_elder' ψ203 (Kd.S_base ho3) hb) (Kd.R_lower (Kd.R_new' (Kd.R_new' ho0 (Kd.R_lt ψ200)) (Kd.R_lt ψ201)) (below_size ψ61)) (Kd.R_lower (Kd.R_new' (Kd.R_new' ho1 (Kd.R_lt ψ200)) (Kd.R_lt ψ201)) (below_size ψ61)) (Kd.R_lower (Kd.R_new' ho2 (Kd.R_lt ψ202)) (below_size ψ61)) (Kd.S_lower (Kd.S_new' ho3 (Kd.S_lt ψ203)) (below_size ψ61)) (blk_below (g := gb10) ψ23 hb) (below_step ψ61 hb); clear HO1294 HO1297 HO1301 HO1304 BK10 HB; obtain ⟨HO1294, HO1297, HO1301, HO1304, HO1310, HO1313, HO1317, HO1320, BK10, HB⟩ := q; (try clear hb); (try clear ho0); (try clear ho1); (try clear ho2); (try clear ho3)) | ((with_reducible refine gate_dst (N := 5) rfl ?_); refine bE 5 #[.int .i64 0, .slice none 0 0, .slice none 0 0, .int .i64 0, .slice none 0 0, .slice none 0 0] 35 ?_; intro gb11 hg w81 hbox hb; have q := n15_ (Kd.R_below ψ200 hb) (Kd.R_below ψ201 hb) (Kd.R_below ψ202 hb) (Kd.S_below ψ203 hb) (Kd.R_below ψ204 hb) (Kd.R_below ψ205 hb) (Kd.R_below ψ206 hb) (Kd.S_below ψ207 hb) (blk_below (g := gb10) ψ23 hb) (below_step ψ61 hb) (hbox) ((ψ312 : w.heap.size ≤ gb11)) ((ψ312 : w.heap.size ≤ gb11)) ((ψ304 : gb10 ≠ gb11)) ((ψ305 : gb11 ≠ gb10)); clear HO1294 HO1297 HO1301 HO1304 HO1310 HO1313 HO1317 HO1320 BK10 HB; obtain ⟨HO1294, HO1297, HO1301, HO1304, HO1310, HO1313, HO1317, HO1320, BK10, HB, BK11, GW11, GE11, NB10_11, NB11_10⟩ := q; clear hb hbox hg; have hnb82 := NB11_10.out; have hnc82 := NB10_11.out; obtain ⟨y83_0, y83_1, y83_2, y83_3, y83_4, y83_5, u83_0, u83_1, u83_2, u83_3, u83_4, u83_5⟩ := cells6 BK11.out; obtain ⟨Ao84, co84, eo84⟩ := Kd.R_slice HO1310.out; subst eo84; obtain ⟨Ao85, co85, eo85⟩ := Kd.R_slice HO1313.out; subst eo85; obtain ⟨Ao86, co86, eo86⟩ := Kd.R_slice HO1317.out; subst eo86; obtain ⟨Ao87, co87, eo87⟩ := Kd.S_slice HO1320.out; subst eo87) | ((with_reducible refine gate_callee (f := 32) rfl ?_); refine gL 18 Try.func32 #[.agg #[.int .i64 t1307, .slice Ao84 t1308.length co84, .slice Ao85 t1311.length co85, .int .i64 t1314, .slice Ao86 t1315.length co86, .slice Ao87 t1318.length co87]] ?_; (with_reducible refine (impl_InputsIn.calls k t1307 _ _ t1308 _ _ t1311 t1314 _ _ t1315 _ _ t1318 _ _ ?_ ?_ ?_ ?_ ?_ ?_ ?_ ?_ A10.out).mono ?_); exact (by refine (Kd.R_reads' (e := 77) (base := w.heap.size) (ok := fun k_ => ((some k_ ≠ (.slice Ao85 t1311.length co85 : Value).ownBlock ∧ some k_ ≠ (.slice Ao74 t1292.length co74 : Value).ownBlock) ∧ some k_ ≠ (.slice Ao75 t1295.length co75 : Value).ownBlock)) (n := t1308.length) (c := co84) ?_).2.2; exact ψ372); exact (Kd.R_reads' HO1310.out).2.1; exact (by refine (Kd.R_reads' (e := 77) (base := w.heap.size) (ok := fun k_ => ((some k_ ≠ (.slice Ao84 t1308.length co84 : Value).ownBlock ∧ some k_ ≠ (.slice Ao74 t1292.length co74 : Value).ownBlock) ∧ some k_ ≠ (.slice Ao75 t1295.length co75 : Value).ownBlock)) (n := t1311.length) (c := co85) ?_).2.2; exact ψ373); exact (Kd.R_reads' HO1313.out).2.1; exact (by refine (Kd.R_reads' (e := 2) (base := w.heap.size) (ok := fun k_ => (True ∧ some k_ ≠ (.slice Ao76 t1299.length co76 : Value).ownBlock)) (n := t1315.length) (c := co86) ?_).2.2; exact ψ374); exact (Kd.R_reads' HO1317.out).2.1; exact (by refine (Kd.S_reads' (e := 42) (base := w.heap.size) (ok := fun k_ => (True ∧ some k_ ≠ (.slice Ao77 t1302.length co77 : Value).ownBlock)) (n := t1318.length) (c := co87) ?_).2.2; exact ψ375); exact (Kd.S_reads' HO1320.out).2.1; rintro e w88 ⟨rfl, hb⟩; refine ⟨_, rfl, ?_⟩; have q := n11_ (Kd.R_below (by (with_reducible repeat (first | apply Kd.R_alloc | apply Kd.R_drewN | apply Kd.R_drew)); exact (Kd.R_mono (Kd.R_far (p := ⟨gb11, 5, none⟩) (Kd.R_far (p := ⟨gb11, 4, none⟩) (Kd.R_far (p := ⟨gb11, 3, none⟩) (Kd.R_far (p := ⟨gb11, 2, none⟩) (Kd.R_far (p := ⟨gb11, 1, none⟩) (Kd.R_far (p := ⟨gb11, 0, none⟩) (Kd.R_types HO1294.out BK11.out ψ15) (fun _ hk => hk.2) (.int .i64 t1307)) (fun _ hk => hk.2) (.slice Ao84 t1308.length co84)) (fun _ hk => hk.2) (.slice Ao85 t1311.length co85)) (fun _ hk => hk.2) (.int .i64 t1314)) (fun _ hk => hk.2) (.slice Ao86 t1315.length co86)) (fun _ hk => hk.2) (.slice Ao87 t1318.length co87)) (fun _ h_ => h_.1))) hb) (Kd.R_below (by (with_reducible repeat (first | apply Kd.R_alloc | apply Kd.R_drewN | apply Kd.R_drew)); exact (Kd.R_mono (Kd.R_far (p := ⟨gb11, 5, none⟩) (Kd.R_far (p := ⟨gb11, 4, none⟩) (Kd.R_far (p := ⟨gb11, 3, none⟩) (Kd.R_far (p := ⟨gb11, 2, none⟩) (Kd.R_far (p := ⟨gb11, 1, none⟩) (Kd.R_far (p := ⟨gb11, 0, none⟩) (Kd.R_types HO1297.out BK11.out ψ15) (fun _ hk => hk.2) (.int .i64 t1307)) (fun _ hk => hk.2) (.slice Ao84 t1308.length co84)) (fun _ hk => hk.2) (.slice Ao85 t1311.length co85)) (fun _ hk => hk.2) (.int .i64 t1314)) (fun _ hk => hk.2) (.slice Ao86 t1315.length co86)) (fun _ hk => hk.2) (.slice Ao87 t1318.length co87)) (fun _ h_ => h_.1))) hb) (Kd.R_below (by (with_reducible repeat (first | apply Kd.R_alloc | apply Kd.R_drewN | apply Kd.R_drew)); exact (Kd.R_mono (Kd.R_far (p := ⟨gb11, 5, none⟩) (Kd.R_far (p := ⟨gb11, 4, none⟩) (Kd.R_far (p := ⟨gb11, 3, none⟩) (Kd.R_far (p := ⟨gb11, 2, none⟩) (Kd.R_far (p := ⟨gb11, 1, none⟩) (Kd.R_far (p := ⟨gb11, 0, none⟩) (Kd.R_types HO1301.out BK11.out ψ15) (fun _ hk => hk.2) (.int .i64 t1307)) (fun _ hk => hk.2) (.slice Ao84 t1308.length co84)) (fun _ hk => hk.2) (.slice Ao85 t1311.length co85)) (fun _ hk => hk.2) (.int .i64 t1314)) (fun _ hk => hk.2) (.slice Ao86 t1315.length co86)) (fun _ hk => hk.2) (.slice Ao87 t1318.length co87)) (fun _ h_ => h_.1))) hb) (Kd.S_below (by (with_reducible repeat (first | apply Kd.S_alloc | apply Kd.S_drewN | apply Kd.S_drew)); exact (Kd.S_mono (Kd.S_far (p := ⟨gb11, 5, none⟩) (Kd.S_far (p := ⟨gb11, 4, none⟩) (Kd.S_far (p := ⟨gb11, 3, none⟩) (Kd.S_far (p := ⟨gb11, 2, none⟩) (Kd.S_far (p := ⟨gb11, 1, none⟩) (Kd.S_far (p := ⟨gb11, 0, none⟩) (Kd.S_types HO1304.out BK11.out ψ15) (fun _ hk => hk.2) (.int .i64 t1307)) (fun _ hk => hk.2) (.slice Ao84 t1308.length co84)) (fun _ hk => hk.2) (.slice Ao85 t1311.length co85)) (fun _ hk => hk.2) (.int .i64 t1314)) (fun _ hk => hk.2) (.slice Ao86 t1315.length co86)) (fun _ hk => hk.2) (.slice Ao87 t1318.length co87)) (fun _ h_ => h_.1))) hb) (Kd.R_below ψ372 hb) (Kd.R_below ψ373 hb) (Kd.R_below ψ374 hb) (Kd.S_below ψ375 hb) (blk_below (g := gb10) (o := .cells #[.int .i64 a0_0, .slice A0_1 l0_1.length c0_1, .slice A0_2 l0_2.length c0_2, .int .i64 a0_3, .slice A0_4 l0_4.length c0_4, .slice A0_5 l0_5.length c0_5] 45 (0, 0)) ψ97 hb) (blk_below (g := gb11) (o := .cells #[.int .i64 t1307, .slice Ao84 t1308.length co84, .slice Ao85 t1311.length co85, .int .i64 t1314, .slice Ao86 t1315.length co86, .slice Ao87 t1318.length co87] 35 (0, 0)) (by (with_reducible repeat (first | refine blk_drewN ?_ _ | refine blk_drew ?_ | refine blk_alloc ?_ _)); refine blk_put (cs := #[.int .i64 t1307, .slice Ao84 t1308.length co84, .slice Ao85 t1311.length co85, .int .i64 t1314, .slice Ao86 t1315.length co86, .slice none 0 0]) ?_ 5 _ rfl; (with_reducible repeat (first | refine blk_drewN ?_ _ | refine blk_drew ?_ | refine blk_alloc ?_ _)); refine blk_put (cs := #[.int .i64 t1307, .slice Ao84 t1308.length co84, .slice Ao85 t1311.length co85, .int .i64 t1314, .slice none 0 0, .slice none 0 0]) ?_ 4 _ rfl; (with_reducible repeat (first | refine blk_drewN ?_ _ | refine blk_drew ?_ | refine blk_alloc ?_ _)); refine blk_put (cs := #[.int .i64 t1307, .slice Ao84 t1308.length co84, .slice Ao85 t1311.length co85, .int .i64 0, .slice none 0 0, .slice none 0 0]) ?_ 3 _ rfl; (with_reducible repeat (first | refine blk_drewN ?_ _ | refine blk_drew ?_ | refine blk_alloc ?_ _)); refine blk_put (cs := #[.int .i64 t1307, .slice Ao84 t1308.length co84, .slice none 0 0, .int .i64 0, .slice none 0 0, .slice none 0 0]) ?_ 2 _ rfl; (with_reducible repeat (first | refine blk_drewN ?_ _ | refine blk_drew ?_ | refine blk_alloc ?_ _)); refine blk_put (cs := #[.int .i64 t1307, .slice none 0 0, .slice none 0 0, .int .i64 0, .slice none 0 0, .slice none 0 0]) ?_ 1 _ rfl; (with_reducible repeat (first | refine blk_drewN ?_ _ | refine blk_drew ?_ | refine blk_alloc ?_ _)); refine blk_put (cs := #[.int .i64 0, .slice none 0 0, .slice none 0 0, .int .i64 0, .slice none 0 0, .slice none 0 0]) ?_ 0 _ rfl; (with_reducible repeat (first | refine blk_drewN ?_ _ | refine blk_drew ?_ | refine blk_alloc ?_ _)); exact BK11.out) hb) (below_step ψ61 hb); clear HO1294 HO1297 HO1301 HO1304 HO1310 HO1313 HO1317 HO1320 BK10 BK11 HB; obtain ⟨HO1294, HO1297, HO1301, HO1304, HO1310, HO1313, HO1317, HO1320, BK10, BK11, HB⟩ := q; (try clear hb)))
   go_ret
   exact ⟨ψ9, ψ61⟩

end Go.Proofs.Ytbjmhdoagjmmcaa.PCore

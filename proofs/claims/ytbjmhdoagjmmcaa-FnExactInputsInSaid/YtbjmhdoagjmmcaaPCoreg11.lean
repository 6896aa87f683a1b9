/- The walks of the functions that the laws come to, part 11: turned out of the kit's print, and mended where that fell. -/
import Derived.Test.YtbjmhdoagjmmcaaPCoreg
namespace Go.Proofs.Ytbjmhdoagjmmcaa.PCore
open Go.RowKit Go.Proofs.YtbjmhdoagjmmcaaW.PrintWords Go.Proofs.YtbjmhdoagjmmcaaW.PrintLast Go.Proofs.YtbjmhdoagjmmcaaW.PrintMore
attribute [local go_sem] max2_int min2_int max_two min_two max_three min_three max_four min_four   -- for this text's walks alone
set_option linter.unusedVariables false
set_option linter.unusedSimpArgs false

/-! ### spec_l7Maxes: function 68 -/
mutual
def spec_l7Maxes.l0 : Nat → List Int → Int → Int → List (S77) → List (S77) → Int → List Int → List (S42) → Option (List Int)
 | 0, _, _, _, _, _, _, _, _ => none
 | k + 1, x3, x4, x1254000, x1254001, x1254002, x1254003, x1254004, x1254005 => if x4 < (x1254001.length : Int) then (if 0 ≤ x4 then (if x3.length < 17592186044416 then (spec_l7Maxes.l0 k (x3 ++ [(rd_T77 x1254001 x4).f0]) (wrap64 (x4 + 1)) x1254000 x1254001 x1254002 x1254003 x1254004 x1254005) else (none)) else (none)) else (spec_l7Maxes.l1 k x3 0 x1254000 x1254001 x1254002 x1254003 x1254004 x1254005)
def spec_l7Maxes.l1 : Nat → List Int → Int → Int → List (S77) → List (S77) → Int → List Int → List (S42) → Option (List Int)
 | 0, _, _, _, _, _, _, _, _ => none
 | k + 1, x3, x5, x1254000, x1254001, x1254002, x1254003, x1254004, x1254005 => if x5 < (x1254002.length : Int) then (if 0 ≤ x5 then (if x3.length < 17592186044416 then (spec_l7Maxes.l1 k (x3 ++ [(rd_T77 x1254002 x5).f0]) (wrap64 (x5 + 1)) x1254000 x1254001 x1254002 x1254003 x1254004 x1254005) else (none)) else (none)) else (some x3)
end
def spec_l7Maxes.f (k : Nat) (a0_0 : Int) (l0_1 : List (S77)) (l0_2 : List (S77)) (a0_3 : Int) (l0_4 : List Int) (l0_5 : List (S42)) : Option (List Int) := spec_l7Maxes.l0 k (([] : List Int)) 0 a0_0 l0_1 l0_2 a0_3 l0_4 l0_5
set_option maxHeartbeats 8000000 in
set_option maxRecDepth 100000 in
theorem spec_l7Maxes.calls (k : Nat) (a0_0 : Int) (A0_1 : Option Addr) (c0_1 : Nat) (l0_1 : List (S77)) (A0_2 : Option Addr) (c0_2 : Nat) (l0_2 : List (S77)) (a0_3 : Int) (A0_4 : Option Addr) (c0_4 : Nat) (l0_4 : List Int) (A0_5 : Option Addr) (c0_5 : Nat) (l0_5 : List (S42)) (r : List Int) (w : World) (hr0_1 : Kd.C k77 w A0_1 l0_1.length l0_1) (hc0_1 : l0_1.length ≤ c0_1) (hr0_2 : Kd.C k77 w A0_2 l0_2.length l0_2) (hc0_2 : l0_2.length ≤ c0_2) (hr0_4 : Kd.C (Kd.int .i64) w A0_4 l0_4.length l0_4) (hc0_4 : l0_4.length ≤ c0_4) (hr0_5 : Kd.C k42 w A0_5 l0_5.length l0_5) (hc0_5 : l0_5.length ≤ c0_5) (h : spec_l7Maxes.f k a0_0 l0_1 l0_2 a0_3 l0_4 l0_5 = some r) :
 Calls Try.prog 68 #[.agg #[.int .i64 a0_0, .slice A0_1 l0_1.length c0_1, .slice A0_2 l0_2.length c0_2, .int .i64 a0_3, .slice A0_4 l0_4.length c0_4, .slice A0_5 l0_5.length c0_5]] w fun e w' => ∃ v0_ : Value, e = .returned (v0_) ∧ Kd.R (Kd.int .i64) 2 w' w.heap.size (fun _ => True) v0_ r ∧ Below w.heap.size w w' := by
 have hu35 := Try.underlying35
 have HR0_1 := Aside0.mk hr0_1
 have HC0_1 := Aside0.mk hc0_1
 clear hr0_1 hc0_1
 have HR0_2 := Aside0.mk hr0_2
 have HC0_2 := Aside0.mk hc0_2
 clear hr0_2 hc0_2
 have HR0_4 := Aside0.mk hr0_4
 have HC0_4 := Aside0.mk hc0_4
 clear hr0_4 hc0_4
 have HR0_5 := Aside0.mk hr0_5
 have HC0_5 := Aside0.mk hc0_5
 clear hr0_5 hc0_5
 have HB := Aside0.mk (Below.refl w.heap.size w)
 have H : (spec_l7Maxes.l0 k (([] : List Int)) 0 a0_0 l0_1 l0_2 a0_3 l0_4 l0_5) = some r := h
 clear h
 obtain ⟨y1254, hy1254⟩ : ∃ y_ : List Int, y_ = (([] : List Int)) := ⟨_, rfl⟩
 replace H : (spec_l7Maxes.l0 k y1254 0 a0_0 l0_1 l0_2 a0_3 l0_4 l0_5) = some r := by first | (rw [hy1254]; with_reducible exact H) | (have H2_ := (Option.bind_some _ _).symm.trans H; rw [hy1254]; with_reducible exact H2_) | (have H2_ := (Option.bind_some _ _).symm.trans H; with_reducible exact H2_) | with_reducible exact H | (rw [hy1254]; exact H) | exact H
 have Ny1254 := Aside0.mk hy1254
 clear hy1254
 have H' := Aside0.mk H
 clear H
 go_enter Try.func68, Try.ntmps68
 go_wp2_with (first | ((with_reducible refine gate_dst (N := 1) rfl ?_); refine bE 1 #[.int .i64 a0_0, .slice A0_1 l0_1.length c0_1, .slice A0_2 l0_2.length c0_2, .int .i64 a0_3, .slice A0_4 l0_4.length c0_4, .slice A0_5 l0_5.length c0_5] 35 ?_; intro gb10 hg w2 hbox hb; have q := n4_ (below_step ψ52 hb) (hbox) ((ψ311 : w.heap.size ≤ gb10)) ((ψ311 : w.heap.size ≤ gb10)); clear HB; obtain ⟨HB, BK10, GW10, GE10⟩ := q; clear hb hbox hg) | ((with_reducible refine gate_dst (N := 6) rfl ?_); refine Kd.R_lit (Kd.int .i64) _ 2 ?hg (N := 6) ?hd (xs := ([] : List Int)) (inner := []) (ok := fun _ => True) (okp := fun _ => True) ?hr ?hp (fun _ hk => hk) trivial (Below.refl _ _) (Nat.le_refl _) ψ8 ?_; (case hd => rfl); (case hg => rfl); (case hr => first | (go_simp; done) | (go_simp; rfl)); (case hp => exact (Reps.none _ _)); intro v1255 w3 ho4 hb hg_ hnew_; clear hg_ hnew_; (first | rw [← Ny1254.out] at ho4 | (simp only [Int.reduceToNat] at ho4; rw [← Ny1254.out] at ho4)); have q := n3_ (Kd.R_lower ho4 (below_size ψ52)) (blk_below (g := gb10) ψ23 hb) (below_step ψ52 hb); clear BK10 HB; obtain ⟨HO1256, BK10, HB⟩ := q; clear hb ho4))
 go_loopg [3, 4] k (fun kq v3 v4 w' => ∃ (x3_1 : List Int) (x4_1 : Int), v4 = .int .i64 x4_1 ∧ Aside0 (spec_l7Maxes.l0 kq x3_1 x4_1 a0_0 l0_1 l0_2 a0_3 l0_4 l0_5 = some r) ∧ Aside0 (kq ≤ k) ∧ Aside0 (Kd.R (Kd.int .i64) 2 w' w.heap.size (fun _ => True) v3 x3_1) ∧ Aside0 (w'.heap[gb10]? = some (.cells #[.int .i64 a0_0, (.slice A0_1 l0_1.length c0_1), (.slice A0_2 l0_2.length c0_2), .int .i64 a0_3, (.slice A0_4 l0_4.length c0_4), (.slice A0_5 l0_5.length c0_5)] 35 (0, 0))) ∧ Aside0 (Below w.heap.size w w'))
 case atStart => exact ⟨(y1254), (0), ψ0, H', ⟨Nat.le_refl _⟩, ⟨by (with_reducible repeat (first | apply Kd.R_alloc | apply Kd.R_drewN | apply Kd.R_drew)); exact HO1256.out⟩, ⟨ψ23⟩, ⟨ψ52⟩⟩
 case round =>
  clear H'
  try clear p2
  obtain ⟨x3_1, x4_1, rfl, HA, HK1, HO_3, BK10, HB⟩ := hrel
  cases gk with
  | zero => exact absurd HA.out (by simp [spec_l7Maxes.l0])
  | succ k1 =>
   have H := HA.out
   clear HA
   simp only [spec_l7Maxes.l0] at H
   replace H := ifD H; rcases H with ⟨c5b0, H⟩ | ⟨c5b0, H⟩
   ·replace H := ifN H; obtain ⟨c6b0, H⟩ := H
    by_cases c7 : x3_1.length < 17592186044416
    ·rw [if_pos c7] at H
     have LMc7 := Aside0.mk c7
     clear c7
     obtain ⟨y1260, hy1260⟩ : ∃ y_ : List Int, y_ = (x3_1 ++ [(rd_T77 l0_1 x4_1).f0]) := ⟨_, rfl⟩
     replace H : (spec_l7Maxes.l0 k1 y1260 (wrap64 (x4_1 + 1)) a0_0 l0_1 l0_2 a0_3 l0_4 l0_5) = some r := by first | (rw [hy1260]; with_reducible exact H) | (have H2_ := (Option.bind_some _ _).symm.trans H; rw [hy1260]; with_reducible exact H2_) | (have H2_ := (Option.bind_some _ _).symm.trans H; with_reducible exact H2_) | with_reducible exact H | (rw [hy1260]; exact H) | exact H
     have Ny1260 := Aside0.mk hy1260
     clear hy1260
     have H' := Aside0.mk H
     clear H
     obtain ⟨y8_0, y8_1, y8_2, y8_3, y8_4, y8_5, u8_0, u8_1, u8_2, u8_3, u8_4, u8_5⟩ := cells6 BK10.out
     have p1259 : 0 ≤ (x4_1 : Int) := of_decide_eq_true ψ2
     have q1259 : x4_1 < (l0_1.length : Int) := of_decide_eq_true ψ2
     obtain ⟨ad1259, e1259, hx1259_0, hx1259_1⟩ := at_T77 HR0_1.out x4_1 p1259 q1259
     cases e1259
     replace hx1259_0 := (HB.out.cell (World.block_lt_of_cell? w _ hx1259_0)).trans hx1259_0
     replace hx1259_1 := (HB.out.cell (World.block_lt_of_cell? w _ hx1259_1)).trans hx1259_1
     replace p1259 := eq_true p1259
     replace q1259 := eq_true q1259
     go_wp2_with (first | ((with_reducible refine gate_builtin (b := .append) (xs := #[.tmp 14, .tmp 21]) rfl ?_); at_builtin; refine Kd.R_append (Kd.int .i64) (w0 := w) w.heap.size rfl (.tmp 14) (.tmp 21) 33 2 (.int .i64 0) 8 rfl Try.underlying33 info2 rfl ψ15 ψ7 u3 x3_1 ((rd_T77 l0_1 x4_1).f0) [.int .i64 ((rd_T77 l0_1 x4_1).f0)] (fun _ => True) (fun _ => False) rfl rfl ?aP (fun _ hk => hk.elim) ?aF ?aO ?aB ?aS ?aL ?_; (case aP => exact rfl); (case aB => exact ψ52); (case aF => exact (fun _ _ => trivial)); (case aO => exact ψ116); (case aS => exact (below_size ψ52)); (case aL => have := LMc7.out; omega); intro v1261 w9 ho hb hg hat; rw [← Ny1260.out] at ho; have q := n3_ (blk_grown (g := gb10) ψ23 hg (Kd.R_ne HO_3.out BK10.out ψ15)) (hb) (ho); clear BK10 HB HO_3; obtain ⟨BK10, HB, HO1262⟩ := q; clear ho hb hg hat))
     go_roundg k1
     case measure => have := HK1.out; omega
     case rel => exact ⟨(y1260), (wrap64 (x4_1 + 1)), ψ0, H', ⟨ψ53⟩, ⟨by (with_reducible repeat (first | apply Kd.R_alloc | apply Kd.R_drewN | apply Kd.R_drew)); exact HO1262.out⟩, ⟨ψ23⟩, ⟨ψ52⟩⟩
    ·rw [if_neg c7] at H
     exact absurd H ψ8
   ·have H' := Aside0.mk H
    clear H
    obtain ⟨y10_0, y10_1, y10_2, y10_3, y10_4, y10_5, u10_0, u10_1, u10_2, u10_3, u10_4, u10_5⟩ := cells6 BK10.out
    go_wp2
    go_loopg [3, 5] k1 (fun kq v3 v5 w' => ∃ (x3_2 : List Int) (x5_2 : Int), v5 = .int .i64 x5_2 ∧ Aside0 (spec_l7Maxes.l1 kq x3_2 x5_2 a0_0 l0_1 l0_2 a0_3 l0_4 l0_5 = some r) ∧ Aside0 (kq ≤ k1) ∧ Aside0 (Kd.R (Kd.int .i64) 2 w' w.heap.size (fun _ => True) v3 x3_2) ∧ Aside0 (w'.heap[gb10]? = some (.cells #[.int .i64 a0_0, (.slice A0_1 l0_1.length c0_1), (.slice A0_2 l0_2.length c0_2), .int .i64 a0_3, (.slice A0_4 l0_4.length c0_4), (.slice A0_5 l0_5.length c0_5)] 35 (0, 0))) ∧ Aside0 (Below w.heap.size w w'))
    case atStart => exact ⟨(x3_1), (0), ψ0, H', ⟨Nat.le_refl _⟩, ⟨ψ116⟩, ⟨ψ23⟩, ⟨ψ52⟩⟩
    case round =>
     clear H'
     try clear p1
     try clear q1
     try clear hx1
     try clear p2
     try clear c5
     try clear c5b0
     try clear c6
     try clear c6b0
     try clear p6
     try clear c7
     try clear y10_0 y10_1 y10_2 y10_3 y10_4 y10_5
     try clear y8_0 y8_1 y8_2 y8_3 y8_4 y8_5
     try clear u10_0 u10_1 u10_2 u10_3 u10_4 u10_5
     try clear u8_0 u8_1 u8_2 u8_3 u8_4 u8_5
     try clear hx1259_0
     try clear hx1259_1
     try clear p1259
     try clear p2
     try clear q1259
     obtain ⟨x3_2, x5_2, rfl, HA, HK2, HO_3, BK10, HB⟩ := hrel
     cases gk with
     | zero => exact absurd HA.out (by simp [spec_l7Maxes.l1])
     | succ k2 =>
      have H := HA.out
      clear HA
      simp only [spec_l7Maxes.l1] at H
      replace H := ifD H; rcases H with ⟨c11b0, H⟩ | ⟨c11b0, H⟩
      ·replace H := ifN H; obtain ⟨c12b0, H⟩ := H
       by_cases c13 : x3_2.length < 17592186044416
       ·rw [if_pos c13] at H
        have LMc13 := Aside0.mk c13
        clear c13
        obtain ⟨y1266, hy1266⟩ : ∃ y_ : List Int, y_ = (x3_2 ++ [(rd_T77 l0_2 x5_2).f0]) := ⟨_, rfl⟩
        replace H : (spec_l7Maxes.l1 k2 y1266 (wrap64 (x5_2 + 1)) a0_0 l0_1 l0_2 a0_3 l0_4 l0_5) = some r := by first | (rw [hy1266]; with_reducible exact H) | (have H2_ := (Option.bind_some _ _).symm.trans H; rw [hy1266]; with_reducible exact H2_) | (have H2_ := (Option.bind_some _ _).symm.trans H; with_reducible exact H2_) | with_reducible exact H | (rw [hy1266]; exact H) | exact H
        have Ny1266 := Aside0.mk hy1266
        clear hy1266
        have H' := Aside0.mk H
        clear H
        obtain ⟨y14_0, y14_1, y14_2, y14_3, y14_4, y14_5, u14_0, u14_1, u14_2, u14_3, u14_4, u14_5⟩ := cells6 BK10.out
        have p1265 : 0 ≤ (x5_2 : Int) := of_decide_eq_true ψ2
        have q1265 : x5_2 < (l0_2.length : Int) := of_decide_eq_true ψ2
        obtain ⟨ad1265, e1265, hx1265_0, hx1265_1⟩ := at_T77 HR0_2.out x5_2 p1265 q1265
        cases e1265
        replace hx1265_0 := (HB.out.cell (World.block_lt_of_cell? w _ hx1265_0)).trans hx1265_0
        replace hx1265_1 := (HB.out.cell (World.block_lt_of_cell? w _ hx1265_1)).trans hx1265_1
        replace p1265 := eq_true p1265
        replace q1265 := eq_true q1265
        go_wp2_with (first | ((with_reducible refine gate_builtin (b := .append) (xs := #[.tmp 30, .tmp 37]) rfl ?_); at_builtin; refine Kd.R_append (Kd.int .i64) (w0 := w) w.heap.size rfl (.tmp 30) (.tmp 37) 33 2 (.int .i64 0) 8 rfl Try.underlying33 info2 rfl ψ15 ψ7 u3 x3_2 ((rd_T77 l0_2 x5_2).f0) [.int .i64 ((rd_T77 l0_2 x5_2).f0)] (fun _ => True) (fun _ => False) rfl rfl ?aP (fun _ hk => hk.elim) ?aF ?aO ?aB ?aS ?aL ?_; (case aP => exact rfl); (case aB => exact ψ52); (case aF => exact (fun _ _ => trivial)); (case aO => exact ψ116); (case aS => exact (below_size ψ52)); (case aL => have := LMc13.out; omega); intro v1267 w15 ho hb hg hat; rw [← Ny1266.out] at ho; have q := n3_ (blk_grown (g := gb10) ψ23 hg (Kd.R_ne HO_3.out BK10.out ψ15)) (hb) (ho); clear BK10 HB HO_3; obtain ⟨BK10, HB, HO1268⟩ := q; clear ho hb hg hat))
        go_roundg k2
        case measure => have := HK1.out; have := HK2.out; omega
        case rel => exact ⟨(y1266), (wrap64 (x5_2 + 1)), ψ0, H', ⟨by have := HK1.out; have := HK2.out; omega⟩, ⟨by (with_reducible repeat (first | apply Kd.R_alloc | apply Kd.R_drewN | apply Kd.R_drew)); exact HO1268.out⟩, ⟨ψ23⟩, ⟨ψ52⟩⟩
       ·rw [if_neg c13] at H
        exact absurd H ψ8
      ·obtain rfl := Option.some.inj H
       obtain ⟨y16_0, y16_1, y16_2, y16_3, y16_4, y16_5, u16_0, u16_1, u16_2, u16_3, u16_4, u16_5⟩ := cells6 BK10.out
       go_wp2
       go_ret
       exact ⟨_, ψ9, ψ116, ψ52⟩

end Go.Proofs.Ytbjmhdoagjmmcaa.PCore

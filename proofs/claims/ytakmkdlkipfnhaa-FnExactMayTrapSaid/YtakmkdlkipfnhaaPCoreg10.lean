/- The walks of the functions that the laws come to, part 10: turned out of the kit's print, and mended where that fell. -/
import Derived.Test.YtakmkdlkipfnhaaPCoreg
import Derived.Test.YtakmkdlkipfnhaaPCoreg5
import Derived.Test.YtakmkdlkipfnhaaPCoreg6
import Derived.Test.YtakmkdlkipfnhaaPCoreg7
import Derived.Test.YtakmkdlkipfnhaaPCoreg9
namespace Go.Proofs.Ytakmkdlkipfnhaa.PCore
open Go.RowKit Go.Proofs.YtakmkdlkipfnhaaW.PrintWords Go.Proofs.YtakmkdlkipfnhaaW.PrintLast Go.Proofs.YtakmkdlkipfnhaaW.PrintMore
attribute [local go_sem] max2_int min2_int max_two min_two max_three min_three max_four min_four   -- for this text's walks alone
set_option linter.unusedVariables false
set_option maxHeartbeats 8000000
set_option maxRecDepth 100000
set_option linter.unusedSimpArgs false

theorem ψ140 {P : Prop} (h : P := by refine impl_CodeOf.box_T36 (ψ10) ?_ ?_ ?_ ?_ ?_ ?_ ?_ ?_; exact HC0_1.out; repeat (first | exact (Kd.C_below HR0_1.out HB.out) | (with_reducible refine Kd.C_alloc ?_ _) | (with_reducible refine Kd.C_drewN ?_ _) | (with_reducible refine Kd.C_drew ?_)); exact HC0_2.out; repeat (first | exact (Kd.C_below HR0_2.out HB.out) | (with_reducible refine Kd.C_alloc ?_ _) | (with_reducible refine Kd.C_drewN ?_ _) | (with_reducible refine Kd.C_drew ?_)); exact HC0_4.out; repeat (first | exact (Kd.C_below HR0_4.out HB.out) | (with_reducible refine Kd.C_alloc ?_ _) | (with_reducible refine Kd.C_drewN ?_ _) | (with_reducible refine Kd.C_drew ?_)); exact HC0_5.out; repeat (first | exact (Kd.C_below HR0_5.out HB.out) | (with_reducible refine Kd.C_alloc ?_ _) | (with_reducible refine Kd.C_drewN ?_ _) | (with_reducible refine Kd.C_drew ?_))) : P := h
/-! ### impl_CodeOf: function 111 -/
theorem impl_CodeOf.one_T114 {w : World} {ad : Addr} {n : Nat} {xs : List S114} (h : Kd.C k114 w (some ad) n xs) (i : Int) (h0 : 0 ≤ i) (h1 : i < (xs.length : Int)) : Kd.C k114 w (some (ad.add (i.toNat * 4))) ([rd_T114 xs i] : List S114).length [rd_T114 xs i] := by
 refine ⟨rfl, show (1 : Nat) ≤ 9223372036854775807 from ψ13, fun _ => ⟨_, rfl, fun j p hj => ?_⟩⟩
 obtain ⟨ad2, e, hc⟩ := h.2.2 (by have := h.1; omega)
 cases e
 have hl : i.toNat < xs.length := by omega
 match j, hj with
 | 0, hj =>
  cases hj
  obtain ⟨c, h1, h2, h3⟩ := hc i.toNat (rd_T114 xs i) (by show xs[i.toNat]? = some (xs.getD i.toNat _); rw [List.getElem?_eq_getElem hl, List.getD_eq_getElem?_getD, List.getElem?_eq_getElem hl]; rfl)
  refine ⟨c, h1, h2, fun j u hu => ?_⟩
  rw [add_add, show i.toNat * 4 + (0 * (k114).sz + j) = i.toNat * (k114).sz + j by rw [Nat.zero_mul, Nat.zero_add]; rfl]
  exact h3 j u hu
 | j + 1, hj => simp at hj
theorem impl_CodeOf.box_T36 {w : World} {g : Nat} {x : S36} {A1 : Option Addr} {c1 : Nat} {A2 : Option Addr} {c2 : Nat} {A4 : Option Addr} {c4 : Nat} {A5 : Option Addr} {c5 : Nat} (hb : w.heap[g]? = some (.cells #[.int .i64 x.f0, .slice A1 x.f1.length c1, .slice A2 x.f2.length c2, .int .i64 x.f3, .slice A4 x.f4.length c4, .slice A5 x.f5.length c5] 36 (0, 0))) (l1 : x.f1.length ≤ c1) (g1 : Kd.C k106 w A1 x.f1.length x.f1) (l2 : x.f2.length ≤ c2) (g2 : Kd.C k106 w A2 x.f2.length x.f2) (l4 : x.f4.length ≤ c4) (g4 : Kd.C (Kd.int .i64) w A4 x.f4.length x.f4) (l5 : x.f5.length ≤ c5) (g5 : Kd.C k114 w A5 x.f5.length x.f5) : Kd.C k36 w (some ⟨g, 0, none⟩) ([x] : List S36).length [x] := by
 refine ⟨rfl, show (1 : Nat) ≤ 9223372036854775807 from ψ13, fun _ => ⟨_, rfl, fun j p hj => ?_⟩⟩
 match j, hj with
 | 0, hj =>
  cases hj
  refine ⟨_, rfl, k36_mk w x l1 g1 l2 g2 l4 g4 l5 g5, fun i u hu => ?_⟩
  match i, hu with
  | 0, hu => cases hu; exact (blk_cell hb 0).trans rfl
  | 1, hu => cases hu; exact (blk_cell hb 1).trans rfl
  | 2, hu => cases hu; exact (blk_cell hb 2).trans rfl
  | 3, hu => cases hu; exact (blk_cell hb 3).trans rfl
  | 4, hu => cases hu; exact (blk_cell hb 4).trans rfl
  | 5, hu => cases hu; exact (blk_cell hb 5).trans rfl
  | i + 6, hu => simp at hu
 | j + 1, hj => simp at hj
mutual
def impl_CodeOf.j0 : Nat → Bool → Int → List (S106) → List (S106) → Int → List Int → List (S114) → Option (Int)
 | 0, _, _, _, _, _, _, _ => none
 | k + 1, x6, x617000, x617001, x617002, x617003, x617004, x617005 => if x6 = true then (some 1) else ((impl_inputRight.f k [(⟨x617000, x617001, x617002, x617003, x617004, x617005⟩ : S36)]).bind fun t619 => (if t619 = true then ((impl_roomRight.f k [(⟨x617000, x617001, x617002, x617003, x617004, x617005⟩ : S36)]).bind fun t620 => (if t620 = true then (impl_CodeOf.l0 k (x617005.length : Int) 0 x617000 x617001 x617002 x617003 x617004 x617005) else (some 3))) else (some 2)))
def impl_CodeOf.l0 : Nat → Int → Int → Int → List (S106) → List (S106) → Int → List Int → List (S114) → Option (Int)
 | 0, _, _, _, _, _, _, _, _ => none
 | k + 1, x23, x24, x617000, x617001, x617002, x617003, x617004, x617005 => if x24 < x23 then (if 0 ≤ x24 then (if x24 < (x617005.length : Int) then ((impl_stmtRight.f k [(⟨x617000, x617001, x617002, x617003, x617004, x617005⟩ : S36)] [rd_T114 x617005 x24]).bind fun t624 => (if t624 = true then (impl_CodeOf.l0 k x23 (wrap64 (x24 + 1)) x617000 x617001 x617002 x617003 x617004 x617005) else (some 4))) else (none)) else (none)) else ((impl_nodesOf.f k x617005).bind fun bt626 => (if bt626.2 = true then ((impl_stepsIn.f k x617005 bt626.1).bind fun t631 => (if t631 > 400 then (some 6) else (some 0))) else (some 5)))
end
def impl_CodeOf.f (k : Nat) (a0_0 : Int) (l0_1 : List (S106)) (l0_2 : List (S106)) (a0_3 : Int) (l0_4 : List Int) (l0_5 : List (S114)) : Option (Int) := if a0_0 < 1 then (impl_CodeOf.j0 k true a0_0 l0_1 l0_2 a0_3 l0_4 l0_5) else (impl_CodeOf.j0 k (decide (a0_0 > 8)) a0_0 l0_1 l0_2 a0_3 l0_4 l0_5)
theorem τ57 {P : Prop} (h : P := by
 obtain rfl := Option.some.inj H
 go_wp2_with (first | ((with_reducible refine gate_callee (f := 135) rfl ?_); refine gL 16 Try.func135 #[.pointer (some ⟨gb10, 0, none⟩)] ?_; (with_reducible refine (impl_inputRight.calls kj1 _ 1 [(⟨a0_0, l0_1, l0_2, a0_3, l0_4, l0_5⟩ : S36)] _ _ ?_ ?_ ?_ A8.out).mono ?_); exact rfl; exact ψ140; exact Nat.le_refl 1; rintro e w1_ ⟨rfl, hb⟩; refine ⟨_, rfl, ?_⟩; have q := n2_ (blk_below (g := gb10) ψ10 hb) (below_step ψ2 hb); clear BK10 HB; obtain ⟨BK10, HB⟩ := q; (try clear hb)) | ((with_reducible refine gate_callee (f := 136) rfl ?_); refine gL 19 Try.func136 #[.pointer (some ⟨gb10, 0, none⟩)] ?_; (with_reducible refine (impl_roomRight.calls kj1 _ 1 [(⟨a0_0, l0_1, l0_2, a0_3, l0_4, l0_5⟩ : S36)] _ _ ?_ ?_ ?_ A10.out).mono ?_); exact rfl; exact ψ140; exact Nat.le_refl 1; rintro e w' ⟨rfl, ⟨nd, rfl⟩⟩; refine ⟨_, rfl, ?_⟩))
 go_ret
 exact ⟨ψ4, ψ2⟩) : P := h
theorem τ58 {P : Prop} (h : P := by
 first | obtain rfl := Option.some.inj H | (have H' := Aside0.mk H; clear H)
 obtain ⟨hczB10_0, hczB10_1, hczB10_2, hczB10_3, hczB10_4, hczB10_5, hfzB10_0, hfzB10_1, hfzB10_2, hfzB10_3, hfzB10_4, hfzB10_5⟩ := cells6 BK10.out
 try (have p623 : 0 ≤ (x24_2 : Int) := of_decide_eq_true ψ5; have q623 : x24_2 < (l0_5.length : Int) := of_decide_eq_true ψ5; obtain ⟨ad623, A623_2, c623_2, A623_3, c623_3, e623, hx623_0, hx623_1, hx623_2, hx623_3, hl623_2, hi623_2, hl623_3, hi623_3⟩ := at_T114 HR0_5.out x24_2 p623 q623; cases e623; have HSe623 := HR0_5.out; replace hx623_0 := cB HB hx623_0; replace hx623_1 := cB HB hx623_1; replace hx623_2 := cB HB hx623_2; replace hx623_3 := cB HB hx623_3; have q := n4_ hi623_2 hl623_2 hi623_3 hl623_3; clear hi623_2 hl623_2 hi623_3 hl623_3; obtain ⟨HR623_2, HC623_2, HR623_3, HC623_3⟩ := q; replace p623 := eq_true p623; replace q623 := eq_true q623)
 try (have HRe623 := Aside0.mk (impl_CodeOf.one_T114 HSe623 x24_2 (of_eq_true p623) (of_eq_true q623)))
 try (have HCe623 := Aside0.mk (show ([rd_T114 l0_5 x24_2] : List S114).length ≤ 1 from Nat.le_refl 1))
 go_wp2_with (first | ((with_reducible refine gate_callee (f := 137) rfl ?_); refine gL 31 Try.func137 #[.pointer (some ⟨gb10, 0, none⟩), .pointer (some (ad623.add (x24_2.toNat * 4)))] ?_; (with_reducible refine (impl_stmtRight.calls k2 _ 1 [(⟨a0_0, l0_1, l0_2, a0_3, l0_4, l0_5⟩ : S36)] _ 1 [rd_T114 l0_5 x24_2] _ _ ?_ ?_ ?_ ?_ ?_ ?_ A17.out).mono ?_); exact rfl; exact ψ140; exact Nat.le_refl 1; exact rfl; exact (by repeat (first | exact (Kd.C_below HRe623.out HB.out) | (with_reducible refine Kd.C_alloc ?_ _) | (with_reducible refine Kd.C_drewN ?_ _) | (with_reducible refine Kd.C_drew ?_))); exact HCe623.out; rintro e w1_ ⟨rfl, hb⟩; refine ⟨_, rfl, ?_⟩; have q := n2_ (blk_below (g := gb10) ψ10 hb) (below_step ψ2 hb); clear BK10 HB; obtain ⟨BK10, HB⟩ := q; (try clear hb)) | ((with_reducible refine gate_callee (f := 138) rfl ?_); refine gL 37 Try.func138 #[.slice A0_5 l0_5.length c0_5] ?_; (with_reducible refine (impl_nodesOf.calls k2 _ _ l0_5 _ _ _ ?_ ?_ A23.out).mono ?_); exact ψ17; exact HC0_5.out; rintro e w1_ ⟨v628, rfl, ho0, hb⟩; refine ⟨_, rfl, ?_⟩; have q := n3_ (Kd.R_lower ho0 (below_size ψ2)) (blk_below (g := gb10) ψ10 hb) (below_step ψ2 hb); clear BK10 HB; obtain ⟨HO629, BK10, HB⟩ := q; (try clear hb); (try clear ho0); (try (obtain ⟨hczB10_0, hczB10_1, hczB10_2, hczB10_3, hczB10_4, hczB10_5, hfzB10_0, hfzB10_1, hfzB10_2, hfzB10_3, hfzB10_4, hfzB10_5⟩ := cells6 BK10.out)); (try (obtain ⟨Ao1_, co1_, eo1_⟩ := Kd.R_slice HO629.out)); (try (subst eo1_))) | ((with_reducible refine gate_callee (f := 139) rfl ?_); refine gL 47 Try.func139 #[.slice A0_5 l0_5.length c0_5, .slice Ao1_ t626.length co1_] ?_; (with_reducible refine (impl_stepsIn.calls k2 _ _ l0_5 _ _ t626 t631 _ ?_ ?_ ?_ ?_ A25.out).mono ?_); exact ψ17; exact HC0_5.out; exact (have hZ := HO629; rR_); exact (Kd.R_reads' HO629.out).2.1; rintro e w2_ ⟨rfl, hb⟩; refine ⟨_, rfl, ?_⟩; have q := n3_ (Kd.R_below (have hZ := HO629; kR_) hb) (blk_below (g := gb10) ψ10 hb) (below_step ψ2 hb); clear HO629 BK10 HB; obtain ⟨HO629, BK10, HB⟩ := q; (try clear hb)))
 first | (go_roundg k2; (case measure => have := HJ1.out; have := HK2.out; omega); (case rel => exact ⟨(wrap64 (x24_2 + 1)), ψ7, H', ⟨ψ20⟩, ⟨ψ10⟩, ⟨ψ2⟩⟩)) | (go_ret; exact ⟨ψ4, ψ2⟩)) : P := h
theorem impl_CodeOf.calls (k : Nat) (a0_0 : Int) (A0_1 : Option Addr) (c0_1 : Nat) (l0_1 : List (S106)) (A0_2 : Option Addr) (c0_2 : Nat) (l0_2 : List (S106)) (a0_3 : Int) (A0_4 : Option Addr) (c0_4 : Nat) (l0_4 : List Int) (A0_5 : Option Addr) (c0_5 : Nat) (l0_5 : List (S114)) (r : Int) (w : World) (hr0_1 : Kd.C k106 w A0_1 l0_1.length l0_1) (hc0_1 : l0_1.length ≤ c0_1) (hr0_2 : Kd.C k106 w A0_2 l0_2.length l0_2) (hc0_2 : l0_2.length ≤ c0_2) (hr0_4 : Kd.C (Kd.int .i64) w A0_4 l0_4.length l0_4) (hc0_4 : l0_4.length ≤ c0_4) (hr0_5 : Kd.C k114 w A0_5 l0_5.length l0_5) (hc0_5 : l0_5.length ≤ c0_5) (h : impl_CodeOf.f k a0_0 l0_1 l0_2 a0_3 l0_4 l0_5 = some r) :
 Calls Try.prog 111 #[.agg #[.int .i64 a0_0, .slice A0_1 l0_1.length c0_1, .slice A0_2 l0_2.length c0_2, .int .i64 a0_3, .slice A0_4 l0_4.length c0_4, .slice A0_5 l0_5.length c0_5]] w fun e w' => e = .returned (.int .i64 r) ∧ Below w.heap.size w w' := by
 have hu36 := Try.underlying36
 have q := n8_ hr0_1 hc0_1 hr0_2 hc0_2 hr0_4 hc0_4 hr0_5 hc0_5
 clear hr0_1 hc0_1 hr0_2 hc0_2 hr0_4 hc0_4 hr0_5 hc0_5
 obtain ⟨HR0_1, HC0_1, HR0_2, HC0_2, HR0_4, HC0_4, HR0_5, HC0_5⟩ := q
 have HB := Aside0.mk (Below.refl w.heap.size w)
 unfold impl_CodeOf.f at h
 have H := h
 clear h
 have HC2 := Aside0.mk H
 clear H
 go_enter Try.func111, Try.ntmps111
 go_upto_region 1 with (first | ((with_reducible refine gate_dst (N := 1) rfl ?_); refine bE 1 #[.int .i64 a0_0, .slice A0_1 l0_1.length c0_1, .slice A0_2 l0_2.length c0_2, .int .i64 a0_3, .slice A0_4 l0_4.length c0_4, .slice A0_5 l0_5.length c0_5] 36 ?_; intro gb10 hg w3 hbox hb; have q := n4_ (below_step ψ2 hb) (hbox) ((ψ113 : w.heap.size ≤ gb10)) ((ψ113 : w.heap.size ≤ gb10)); clear HB; obtain ⟨HB, BK10, GW10, GE10⟩ := q; clear hb hbox hg))
 (try simp only [Act.put, List.setIfInBounds_toArray, List.set_cons_zero, List.set_cons_succ])
 go_cut [6] (fun v6 wc => ∃ (kq : Nat) (x6_1 : Bool), v6 = .bool x6_1 ∧ Aside0 (impl_CodeOf.j0 kq x6_1 a0_0 l0_1 l0_2 a0_3 l0_4 l0_5 = some r) ∧ Aside0 (kq ≤ k) ∧ Aside0 (wc.heap[gb10]? = some (.cells #[.int .i64 a0_0, (.slice A0_1 l0_1.length c0_1), (.slice A0_2 l0_2.length c0_2), .int .i64 a0_3, (.slice A0_4 l0_4.length c0_4), (.slice A0_5 l0_5.length c0_5)] 36 (0, 0))) ∧ Aside0 (Below w.heap.size w wc))
 case first =>
  have H := HC2.out
  clear HC2
  replace H := ifD H; rcases H with ⟨c4b0, H⟩ | ⟨c4b0, H⟩
  ·(first | rw [c4b0] | (simp only [i64_w, i32_w]; rw [c4b0]) | skip)
   have H' := Aside0.mk H
   clear H
   obtain ⟨y5_0, y5_1, y5_2, y5_3, y5_4, y5_5, u5_0, u5_1, u5_2, u5_3, u5_4, u5_5⟩ := cells6 BK10.out
   go_wp2
   go_meet
   case rel => exact ⟨_, (true), ψ7, H', ⟨ψ19⟩, ⟨ψ10⟩, ⟨ψ2⟩⟩
  ·(first | rw [c4b0] | (simp only [i64_w, i32_w]; rw [c4b0]) | skip)
   have H' := Aside0.mk H
   clear H
   obtain ⟨y6_0, y6_1, y6_2, y6_3, y6_4, y6_5, u6_0, u6_1, u6_2, u6_3, u6_4, u6_5⟩ := cells6 BK10.out
   go_wp2
   go_meet
   case rel => exact ⟨_, (decide (a0_0 > 8)), ψ7, H', ⟨ψ19⟩, ⟨ψ10⟩, ⟨ψ2⟩⟩
 case rest =>
  clear HC2
  try clear c4
  try clear c4b0
  try clear y5_0 y5_1 y5_2 y5_3 y5_4 y5_5
  try clear y6_0 y6_1 y6_2 y6_3 y6_4 y6_5
  try clear u5_0 u5_1 u5_2 u5_3 u5_4 u5_5
  try clear u6_0 u6_1 u6_2 u6_3 u6_4 u6_5
  obtain ⟨kq, x6_1, rfl, HA, HJ1, BK10, HB⟩ := hcut
  cases kq with
  | zero => exact absurd HA.out (by simp [impl_CodeOf.j0])
  | succ kj1 =>
   have H := HA.out
   clear HA
   simp only [impl_CodeOf.j0] at H
   replace H := ifB H; rcases H with ⟨rfl, H⟩ | ⟨rfl, H⟩
   ·exact τ57
   ·replace H := bS H; obtain ⟨t619, A8, H⟩ := H
    replace H := ifB H; rcases H with ⟨rfl, H⟩ | ⟨rfl, H⟩
    ·replace H := bS H; obtain ⟨t620, A10, H⟩ := H
     replace H := ifB H; rcases H with ⟨rfl, H⟩ | ⟨rfl, H⟩
     ·have H' := Aside0.mk H
      clear H
      go_wp2_with (first | ((with_reducible refine gate_callee (f := 135) rfl ?_); refine gL 16 Try.func135 #[.pointer (some ⟨gb10, 0, none⟩)] ?_; (with_reducible refine (impl_inputRight.calls kj1 _ 1 [(⟨a0_0, l0_1, l0_2, a0_3, l0_4, l0_5⟩ : S36)] _ _ ?_ ?_ ?_ A8.out).mono ?_); exact rfl; exact ψ140; exact Nat.le_refl 1; rintro e w12 ⟨rfl, hb⟩; refine ⟨_, rfl, ?_⟩; have q := n2_ (blk_below (g := gb10) ψ10 hb) (below_step ψ2 hb); clear BK10 HB; obtain ⟨BK10, HB⟩ := q; (try clear hb)) | ((with_reducible refine gate_callee (f := 136) rfl ?_); refine gL 19 Try.func136 #[.pointer (some ⟨gb10, 0, none⟩)] ?_; (with_reducible refine (impl_roomRight.calls kj1 _ 1 [(⟨a0_0, l0_1, l0_2, a0_3, l0_4, l0_5⟩ : S36)] _ _ ?_ ?_ ?_ A10.out).mono ?_); exact rfl; exact ψ140; exact Nat.le_refl 1; rintro e w' ⟨rfl, ⟨nd, rfl⟩⟩; refine ⟨_, rfl, ?_⟩; obtain ⟨y13_0, y13_1, y13_2, y13_3, y13_4, y13_5, u13_0, u13_1, u13_2, u13_3, u13_4, u13_5⟩ := cells6 BK10.out))
      go_loopg [24] kj1 (fun kq v24 w' => ∃ (x24_2 : Int), v24 = .int .i64 x24_2 ∧ Aside0 (impl_CodeOf.l0 kq (l0_5.length : Int) x24_2 a0_0 l0_1 l0_2 a0_3 l0_4 l0_5 = some r) ∧ Aside0 (kq ≤ kj1) ∧ Aside0 (w'.heap[gb10]? = some (.cells #[.int .i64 a0_0, (.slice A0_1 l0_1.length c0_1), (.slice A0_2 l0_2.length c0_2), .int .i64 a0_3, (.slice A0_4 l0_4.length c0_4), (.slice A0_5 l0_5.length c0_5)] 36 (0, 0))) ∧ Aside0 (Below w.heap.size w w'))
      case atStart => exact ⟨(0), ψ7, H', ⟨Nat.le_refl _⟩, ⟨ψ10⟩, ⟨ψ2⟩⟩
      case round =>
       clear H'
       try clear c4
       try clear c4b0
       try clear c7
       try clear c9
       try clear c11
       try clear y13_0 y13_1 y13_2 y13_3 y13_4 y13_5
       try clear y5_0 y5_1 y5_2 y5_3 y5_4 y5_5
       try clear y6_0 y6_1 y6_2 y6_3 y6_4 y6_5
       try clear u13_0 u13_1 u13_2 u13_3 u13_4 u13_5
       try clear u5_0 u5_1 u5_2 u5_3 u5_4 u5_5
       try clear u6_0 u6_1 u6_2 u6_3 u6_4 u6_5
       obtain ⟨x24_2, rfl, HA, HK2, BK10, HB⟩ := hrel
       cases gk with
       | zero => exact absurd HA.out (by simp [impl_CodeOf.l0])
       | succ k2 =>
        have H := HA.out
        clear HA
        simp only [impl_CodeOf.l0] at H
        replace H := ifD H; rcases H with ⟨c14b0, H⟩ | ⟨c14b0, H⟩
        ·replace H := ifN H; obtain ⟨c15b0, H⟩ := H
         replace H := ifN H; obtain ⟨c16b0, H⟩ := H
         replace H := bS H; obtain ⟨t624, A17, H⟩ := H
         replace H := ifB H; rcases H with ⟨rfl, H⟩ | ⟨rfl, H⟩
         ·exact τ58
         ·exact τ58
        ·replace H := bS H; obtain ⟨⟨t626, t627⟩, A23, H⟩ := H
         replace H := ifB H; rcases H with ⟨rfl, H⟩ | ⟨rfl, H⟩
         ·replace H := bS H; obtain ⟨t631, A25, H⟩ := H
          replace H := ifG H; rcases H with ⟨c26b0, H⟩ | ⟨c26b0, H⟩
          ·exact τ58
          ·exact τ58
         ·exact τ58
     ·exact τ57
    ·exact τ57

/-! ### impl_ProgOk: function 74 -/
def impl_ProgOk.f (k : Nat) (a0_0 : Int) (l0_1 : List (S106)) (l0_2 : List (S106)) (a0_3 : Int) (l0_4 : List Int) (l0_5 : List (S114)) : Option (Bool) := (impl_CodeOf.f k a0_0 l0_1 l0_2 a0_3 l0_4 l0_5).bind fun t634 => (some (t634 == 0))
theorem impl_ProgOk.calls (k : Nat) (a0_0 : Int) (A0_1 : Option Addr) (c0_1 : Nat) (l0_1 : List (S106)) (A0_2 : Option Addr) (c0_2 : Nat) (l0_2 : List (S106)) (a0_3 : Int) (A0_4 : Option Addr) (c0_4 : Nat) (l0_4 : List Int) (A0_5 : Option Addr) (c0_5 : Nat) (l0_5 : List (S114)) (r : Bool) (w : World) (hr0_1 : Kd.C k106 w A0_1 l0_1.length l0_1) (hc0_1 : l0_1.length ≤ c0_1) (hr0_2 : Kd.C k106 w A0_2 l0_2.length l0_2) (hc0_2 : l0_2.length ≤ c0_2) (hr0_4 : Kd.C (Kd.int .i64) w A0_4 l0_4.length l0_4) (hc0_4 : l0_4.length ≤ c0_4) (hr0_5 : Kd.C k114 w A0_5 l0_5.length l0_5) (hc0_5 : l0_5.length ≤ c0_5) (h : impl_ProgOk.f k a0_0 l0_1 l0_2 a0_3 l0_4 l0_5 = some r) :
 Calls Try.prog 74 #[.agg #[.int .i64 a0_0, .slice A0_1 l0_1.length c0_1, .slice A0_2 l0_2.length c0_2, .int .i64 a0_3, .slice A0_4 l0_4.length c0_4, .slice A0_5 l0_5.length c0_5]] w fun e w' => e = .returned (.bool r) ∧ Below w.heap.size w w' := by
 have hu36 := Try.underlying36
 have q := n8_ hr0_1 hc0_1 hr0_2 hc0_2 hr0_4 hc0_4 hr0_5 hc0_5
 clear hr0_1 hc0_1 hr0_2 hc0_2 hr0_4 hc0_4 hr0_5 hc0_5
 obtain ⟨HR0_1, HC0_1, HR0_2, HC0_2, HR0_4, HC0_4, HR0_5, HC0_5⟩ := q
 have HB := Aside0.mk (Below.refl w.heap.size w)
 unfold impl_ProgOk.f at h
 have H := h
 clear h
 replace H := bS H; obtain ⟨t634, A2, H⟩ := H
 obtain rfl := Option.some.inj H
 go_enter Try.func74, Try.ntmps74
 go_wp2_with (first | ((with_reducible refine gate_dst (N := 1) rfl ?_); refine bE 1 #[.int .i64 a0_0, .slice A0_1 l0_1.length c0_1, .slice A0_2 l0_2.length c0_2, .int .i64 a0_3, .slice A0_4 l0_4.length c0_4, .slice A0_5 l0_5.length c0_5] 36 ?_; intro gb10 hg w3 hbox hb; have q := n4_ (below_step ψ2 hb) (hbox) ((ψ113 : w.heap.size ≤ gb10)) ((ψ113 : w.heap.size ≤ gb10)); clear HB; obtain ⟨HB, BK10, GW10, GE10⟩ := q; clear hb hbox hg; obtain ⟨y4_0, y4_1, y4_2, y4_3, y4_4, y4_5, u4_0, u4_1, u4_2, u4_3, u4_4, u4_5⟩ := cells6 BK10.out) | ((with_reducible refine gate_callee (f := 111) rfl ?_); refine gL 4 Try.func111 #[.agg #[.int .i64 a0_0, .slice A0_1 l0_1.length c0_1, .slice A0_2 l0_2.length c0_2, .int .i64 a0_3, .slice A0_4 l0_4.length c0_4, .slice A0_5 l0_5.length c0_5]] ?_; (with_reducible refine (impl_CodeOf.calls k a0_0 _ _ l0_1 _ _ l0_2 a0_3 _ _ l0_4 _ _ l0_5 _ _ ?_ ?_ ?_ ?_ ?_ ?_ ?_ ?_ A2.out).mono ?_); exact ψ9; exact HC0_1.out; exact ψ3; exact HC0_2.out; exact ψ16; exact HC0_4.out; exact ψ17; exact HC0_5.out; rintro e w5 ⟨rfl, hb⟩; refine ⟨_, rfl, ?_⟩; have q := n2_ (blk_below (g := gb10) ψ10 hb) (below_step ψ2 hb); clear BK10 HB; obtain ⟨BK10, HB⟩ := q; (try clear hb)))
 go_ret
 exact ⟨ψ4, ψ2⟩

/-! ### laws_eqInt64S: function 25 -/
def laws_eqInt64S.l0 : Nat → List Int → List Int → Int → Option (Bool)
 | 0, _, _, _ => none
 | k + 1, x0, x1, x5 => if x5 < (x0.length : Int) then (if 0 ≤ x5 then (if x5 < (x1.length : Int) then (if (rd x0 x5) = (rd x1 x5) then (laws_eqInt64S.l0 k x0 x1 (wrap64 (x5 + 1))) else (some false)) else (none)) else (none)) else (some true)
def laws_eqInt64S.f (k : Nat) (l0 : List Int) (l1 : List Int) : Option (Bool) := if (l0.length : Int) = (l1.length : Int) then (laws_eqInt64S.l0 k l0 l1 0) else (some false)
theorem τ62 {P : Prop} (h : P := by
 first | obtain rfl := Option.some.inj H | (have H' := Aside0.mk H; clear H)
 try (have p653 : 0 ≤ (x5_1 : Int) := of_decide_eq_true ψ5; have q653 : x5_1 < (l0.length : Int) := of_decide_eq_true ψ5; obtain ⟨ad653, e653, hx653_0⟩ := Kd.at_int HR0.out x5_1 p653 q653; cases e653; replace p653 := eq_true p653; replace q653 := eq_true q653)
 try (have p654 : 0 ≤ (x5_1 : Int) := of_decide_eq_true ψ5; have q654 : x5_1 < (l1.length : Int) := of_decide_eq_true ψ5; obtain ⟨ad654, e654, hx654_0⟩ := Kd.at_int HR1.out x5_1 p654 q654; cases e654; replace p654 := eq_true p654; replace q654 := eq_true q654)
 go_wp2_with (first | ((with_reducible refine qR_ ?_)) | ((with_reducible refine wpQuiet_step (fun K hK => ?_)); go_simp; first | (refine hK _ ?_; clear hK K) | (apply Exists.intro; refine ⟨fun _ => ?_, hK _ ?_⟩)) | ((with_reducible refine wpQuiet_nil ?_); rintro _ ⟨nq, rfl⟩))
 first | (go_roundg k1; (case measure => have := HK1.out; omega); (case rel => exact ⟨(wrap64 (x5_1 + 1)), ψ7, H', ⟨ψ8⟩, ψ1⟩)) | (go_ret; exact ⟨ψ0, ψ1⟩)) : P := h
theorem laws_eqInt64S.calls (k : Nat) (A0 : Option Addr) (c0 : Nat) (l0 : List Int) (A1 : Option Addr) (c1 : Nat) (l1 : List Int) (r : Bool) (w : World) (hr0 : Kd.C (Kd.int .i64) w A0 l0.length l0) (hc0 : l0.length ≤ c0) (hr1 : Kd.C (Kd.int .i64) w A1 l1.length l1) (hc1 : l1.length ≤ c1) (h : laws_eqInt64S.f k l0 l1 = some r) :
 Calls Try.prog 25 #[.slice A0 l0.length c0, .slice A1 l1.length c1] w fun e w' => e = .returned (.bool r) ∧ Drawn0 w w' := by
 have q := n4_ hr0 hc0 hr1 hc1
 clear hr0 hc0 hr1 hc1
 obtain ⟨HR0, HC0, HR1, HC1⟩ := q
 unfold laws_eqInt64S.f at h
 have H := h
 clear h
 by_cases c3 : (l0.length : Int) = (l1.length : Int)
 ·rw [if_pos c3] at H
  have c3b0 : ((l0.length : Int) == (l1.length : Int)) = true := beq_iff_eq.mpr c3
  have c3b1 : ((l0.length : Int) != (l1.length : Int)) = false := bne_eq_false_iff_eq.mpr c3
  have c3b2 : (l0.length == l1.length) = true := by first | simpa using c3 | (simp at c3 ⊢; omega)
  clear c3
  have H' := Aside0.mk H
  clear H
  go_enter Try.func25, Try.ntmps25
  go_wp2_with (first | ((with_reducible refine qR_ ?_)) | ((with_reducible refine wpQuiet_step (fun K hK => ?_)); go_simp; first | (refine hK _ ?_; clear hK K) | (apply Exists.intro; refine ⟨fun _ => ?_, hK _ ?_⟩)) | ((with_reducible refine wpQuiet_nil ?_); rintro _ ⟨nq, rfl⟩))
  go_loopg [5] k (fun kq v5 w' => ∃ (x5_1 : Int), v5 = .int .i64 x5_1 ∧ Aside0 (laws_eqInt64S.l0 kq l0 l1 x5_1 = some r) ∧ Aside0 (kq ≤ k) ∧ Drawn0 w w')
  case atStart => exact ⟨(0), ψ7, H', ⟨Nat.le_refl _⟩, ψ1⟩
  case round =>
   clear H'
   try clear c1
   try clear c3
   try clear c3b0
   try clear c3b1
   try clear c3b2
   obtain ⟨x5_1, rfl, HA, HK1, ⟨m1, rfl⟩⟩ := hrel
   cases gk with
   | zero => exact absurd HA.out (by simp [laws_eqInt64S.l0])
   | succ k1 =>
    have H := HA.out
    clear HA
    simp only [laws_eqInt64S.l0] at H
    replace H := ifD H; rcases H with ⟨c4b0, H⟩ | ⟨c4b0, H⟩
    ·replace H := ifN H; obtain ⟨c5b0, H⟩ := H
     replace H := ifN H; obtain ⟨c6b0, H⟩ := H
     replace H := ifF H; rcases H with ⟨c7b0, c7b1, H⟩ | ⟨c7b0, c7b1, c7, H⟩
     ·exact τ62
     ·exact τ62
    ·exact τ62
 ·rw [if_neg c3] at H
  have c3b0 : ((l0.length : Int) == (l1.length : Int)) = false := beq_eq_false_iff_ne.mpr c3
  have c3b1 : ((l0.length : Int) != (l1.length : Int)) = true := bne_iff_ne.mpr c3
  have c3b2 : (l0.length == l1.length) = false := by first | simpa using c3 | (simp at c3 ⊢; omega)
  obtain rfl := Option.some.inj H
  go_enter Try.func25, Try.ntmps25
  go_wp2_with (first | ((with_reducible refine qR_ ?_)) | ((with_reducible refine wpQuiet_step (fun K hK => ?_)); go_simp; first | (refine hK _ ?_; clear hK K) | (apply Exists.intro; refine ⟨fun _ => ?_, hK _ ?_⟩)) | ((with_reducible refine wpQuiet_nil ?_); rintro _ ⟨nq, rfl⟩))
  go_ret
  exact ⟨ψ0, ψ1⟩

/-! ### laws_eqInput: function 114 -/
def laws_eqInput.f (a0_0 : Int) (a0_1 : Int) (a1_0 : Int) (a1_1 : Int) : Option (Bool) := if a0_0 = a1_0 then (if a0_1 = a1_1 then (some true) else (some false)) else (some false)
theorem τ63 {P : Prop} (h : P := by
 obtain rfl := Option.some.inj H
 go_enter Try.func114, Try.ntmps114
 go_wp2_with (first | ((with_reducible refine gate_dst (N := 2) rfl ?_); refine bE 2 #[.int .i64 a0_0, .int .i64 a0_1] 106 ?_; intro gb10 hg w1_ hbox hb; have q := n4_ (below_step ψ25 hb) (hbox) ((ψ115 : w.heap.size ≤ gb10)) ((ψ115 : w.heap.size ≤ gb10)); clear HB; obtain ⟨HB, BK10, GW10, GE10⟩ := q; clear hb hbox hg) | ((with_reducible refine gate_dst (N := 3) rfl ?_); refine bE 3 #[.int .i64 a1_0, .int .i64 a1_1] 106 ?_; intro gb11 hg w2_ hbox hb; have q := n7_ (blk_below (g := gb10) ψ10 hb) (below_step ψ25 hb) (hbox) ((ψ115 : w.heap.size ≤ gb11)) ((ψ115 : w.heap.size ≤ gb11)) ((ψ116 : gb10 ≠ gb11)) ((ψ117 : gb11 ≠ gb10)); clear BK10 HB; obtain ⟨BK10, HB, BK11, GW11, GE11, NB10_11, NB11_10⟩ := q; clear hb hbox hg; have hnb1_ := NB10_11.out; have hnc1_ := NB11_10.out; obtain ⟨hczB10_0, hczB10_1, hfzB10_0, hfzB10_1⟩ := cells2 BK10.out; obtain ⟨hczB11_0, hczB11_1, hfzB11_0, hfzB11_1⟩ := cells2 BK11.out))
 go_ret
 exact ⟨ψ4, ψ25⟩) : P := h
theorem laws_eqInput.calls (a0_0 : Int) (a0_1 : Int) (a1_0 : Int) (a1_1 : Int) (r : Bool) (w : World) (h : laws_eqInput.f a0_0 a0_1 a1_0 a1_1 = some r) :
 Calls Try.prog 114 #[.agg #[.int .i64 a0_0, .int .i64 a0_1], .agg #[.int .i64 a1_0, .int .i64 a1_1]] w fun e w' => e = .returned (.bool r) ∧ Below w.heap.size w w' := by
 have hu106 := Try.underlying106
 have HB := Aside0.mk (Below.refl w.heap.size w)
 unfold laws_eqInput.f at h
 have H := h
 clear h
 replace H := ifF H; rcases H with ⟨c3b0, c3b1, H⟩ | ⟨c3b0, c3b1, c3, H⟩
 ·by_cases c4 : a0_1 = a1_1
  ·rw [if_pos c4] at H
   have c4b0 : (a0_1 == a1_1) = true := beq_iff_eq.mpr c4
   have c4b1 : (a0_1 != a1_1) = false := bne_eq_false_iff_eq.mpr c4
   clear c4
   exact τ63
  ·rw [if_neg c4] at H
   have c4b0 : (a0_1 == a1_1) = false := beq_eq_false_iff_ne.mpr c4
   have c4b1 : (a0_1 != a1_1) = true := bne_iff_ne.mpr c4
   exact τ63
 ·exact τ63

/-! ### laws_eqInputS: function 76 -/
def laws_eqInputS.l0 : Nat → List (S106) → List (S106) → Int → Option (Bool)
 | 0, _, _, _ => none
 | k + 1, x0, x1, x5 => if x5 < (x0.length : Int) then (if 0 ≤ x5 then (if x5 < (x1.length : Int) then ((laws_eqInput.f ((rd_T106 x0 x5).f0) ((rd_T106 x0 x5).f1) ((rd_T106 x1 x5).f0) ((rd_T106 x1 x5).f1)).bind fun t663 => (if t663 = true then (laws_eqInputS.l0 k x0 x1 (wrap64 (x5 + 1))) else (some false))) else (none)) else (none)) else (some true)
def laws_eqInputS.f (k : Nat) (l0 : List (S106)) (l1 : List (S106)) : Option (Bool) := if (l0.length : Int) = (l1.length : Int) then (laws_eqInputS.l0 k l0 l1 0) else (some false)
def laws_eqInputS.T6 : Bool × List (List Nat × List Nat) := (true, [([], []), ([], []), ([0, 1], [0, 1]), ([2], [2]), ([], []), ([], []), ([4, 5], [4, 5]), ([6], [6]), ([3, 7], [3, 7]), ([8], [8])])
def laws_eqInputS.B6 : List Nat := [0, 0, 3, 7, 0, 0, 48, 112, 255, 511]
theorem laws_eqInputS.tab6 : rtab .any (opsOf Try.f76 6) = laws_eqInputS.T6 := by kernel_rfl
theorem laws_eqInputS.bits6 : waitsOk laws_eqInputS.T6.2 laws_eqInputS.B6 = true := by kernel_rfl
theorem τ64 {P : Prop} (h : P := by
 first | obtain rfl := Option.some.inj H | (have H' := Aside0.mk H; clear H)
 try go_wp2
 replace HB := Aside0.mk (below_drew1 HB.out)
 have p661 : 0 ≤ (x5_1 : Int) := of_decide_eq_true ψ5
 have q661 : x5_1 < (l0.length : Int) := of_decide_eq_true ψ5
 obtain ⟨ad661, e661, hx661_0, hx661_1⟩ := at_T106 HR0.out x5_1 p661 q661
 have hw661_1 := hx661_1
 have hw661_0 := hx661_0
 cases e661
 replace hx661_0 := cB HB hx661_0
 replace hx661_1 := cB HB hx661_1
 replace p661 := eq_true p661
 replace q661 := eq_true q661
 have p662 : 0 ≤ (x5_1 : Int) := of_decide_eq_true ψ5
 have q662 : x5_1 < (l1.length : Int) := of_decide_eq_true ψ5
 obtain ⟨ad662, e662, hx662_0, hx662_1⟩ := at_T106 HR1.out x5_1 p662 q662
 have hw662_1 := hx662_1
 have hw662_0 := hx662_0
 cases e662
 replace hx662_0 := cB HB hx662_0
 replace hx662_1 := cB HB hx662_1
 replace p662 := eq_true p662
 replace q662 := eq_true q662
 refine start_ (n := 10) (S := fun w' => w'.cell? (ad661.add ((x5_1).toNat * 2)) = some (.int .i64 ((rd_T106 l0 x5_1).f0)) ∧ w'.cell? ⟨(ad661.add ((x5_1).toNat * 2)).block, (ad661.add ((x5_1).toNat * 2)).off + 1, none⟩ = some (.int .i64 ((rd_T106 l0 x5_1).f1)) ∧ w'.cell? (ad662.add ((x5_1).toNat * 2)) = some (.int .i64 ((rd_T106 l1 x5_1).f0)) ∧ w'.cell? ⟨(ad662.add ((x5_1).toNat * 2)).block, (ad662.add ((x5_1).toNat * 2)).off + 1, none⟩ = some (.int .i64 ((rd_T106 l1 x5_1).f1))) (ds := []) #[false, false, false, false, false, false, false, false, false, false] ψ12 rfl rfl ⟨((HB.out.cell (World.block_lt_of_cell? w _ hw661_0)).trans hw661_0), ((HB.out.cell (World.block_lt_of_cell? w _ hw661_1)).trans hw661_1), ((HB.out.cell (World.block_lt_of_cell? w _ hw662_0)).trans hw662_0), ((HB.out.cell (World.block_lt_of_cell? w _ hw662_1)).trans hw662_1)⟩ (fun hHeld => ?_); refine with_tabW laws_eqInputS.tab6 laws_eqInputS.bits6 (fun HT_ HW_ => ?_)
 generalize wr.drew = w1_ at HB hx661_0 hx661_1 hx662_0 hx662_1 hHeld ⊢
 refine rP 0 17 ?_; refine rP 1 18 ?_; refine rP 2 19 ?_; refine rP 4 21 ?_; refine rP 5 22 ?_; refine rP 6 23 ?_; refine rT 3 20 ?_; refine rT 7 24 ?_
 refine one_ (i := 8) (N := some 25) #[true, true, true, true, true, true, true, true, true, false] rfl rfl (one_of HT_.out ψ12) ψ13 (fun K hK => ?_)
 refine goes_ Try.func114 ψ12 rfl #[.agg #[.int .i64 ((rd_T106 l0 x5_1).f0), .int .i64 ((rd_T106 l0 x5_1).f1)], .agg #[.int .i64 ((rd_T106 l1 x5_1).f0), .int .i64 ((rd_T106 l1 x5_1).f1)]] ψ14 rfl rfl ψ15 ?_
 with_reducible refine (laws_eqInput.calls ((rd_T106 l0 x5_1).f0) ((rd_T106 l0 x5_1).f1) ((rd_T106 l1 x5_1).f0) ((rd_T106 l1 x5_1).f1) _ _ A7.out).mono ?_
 rintro e w2_ ⟨rfl, hb⟩
 refine ⟨_, rfl, ?_⟩
 replace HB := Aside0.mk (below_step ψ6 hb)
 (try clear hb)
 refine hK.out _ _ ⟨((HB.out.cell (World.block_lt_of_cell? w _ hw661_0)).trans hw661_0), ((HB.out.cell (World.block_lt_of_cell? w _ hw661_1)).trans hw661_1), ((HB.out.cell (World.block_lt_of_cell? w _ hw662_0)).trans hw662_0), ((HB.out.cell (World.block_lt_of_cell? w _ hw662_1)).trans hw662_1)⟩ (fun hHeld => ?_)
 clear hK K
 refine rN 25 ?_; refine rP 9 26 ?_
 refine done_ (done_of HT_.out ψ12) ?_
 try go_wp2
 first | (go_roundg k1; (case measure => have := HK1.out; omega); (case rel => exact ⟨(wrap64 (x5_1 + 1)), ψ7, H', ⟨ψ8⟩, ⟨ψ6⟩⟩)) | (go_ret; exact ⟨ψ4, ψ6⟩)) : P := h
theorem laws_eqInputS.calls (k : Nat) (A0 : Option Addr) (c0 : Nat) (l0 : List (S106)) (A1 : Option Addr) (c1 : Nat) (l1 : List (S106)) (r : Bool) (w : World) (hr0 : Kd.C k106 w A0 l0.length l0) (hc0 : l0.length ≤ c0) (hr1 : Kd.C k106 w A1 l1.length l1) (hc1 : l1.length ≤ c1) (h : laws_eqInputS.f k l0 l1 = some r) :
 Calls Try.prog 76 #[.slice A0 l0.length c0, .slice A1 l1.length c1] w fun e w' => e = .returned (.bool r) ∧ Below w.heap.size w w' := by
 have hu106 := Try.underlying106
 have q := n4_ hr0 hc0 hr1 hc1
 clear hr0 hc0 hr1 hc1
 obtain ⟨HR0, HC0, HR1, HC1⟩ := q
 have HB := Aside0.mk (Below.refl w.heap.size w)
 unfold laws_eqInputS.f at h
 have H := h
 clear h
 by_cases c3 : (l0.length : Int) = (l1.length : Int)
 ·rw [if_pos c3] at H
  have c3b0 : ((l0.length : Int) == (l1.length : Int)) = true := beq_iff_eq.mpr c3
  have c3b1 : ((l0.length : Int) != (l1.length : Int)) = false := bne_eq_false_iff_eq.mpr c3
  have c3b2 : (l0.length == l1.length) = true := by first | simpa using c3 | (simp at c3 ⊢; omega)
  clear c3
  have H' := Aside0.mk H
  clear H
  go_enter Try.func76, Try.ntmps76
  go_wp2
  go_loopg [5] k (fun kq v5 w' => ∃ (x5_1 : Int), v5 = .int .i64 x5_1 ∧ Aside0 (laws_eqInputS.l0 kq l0 l1 x5_1 = some r) ∧ Aside0 (kq ≤ k) ∧ Aside0 (Below w.heap.size w w'))
  case atStart => exact ⟨(0), ψ7, H', ⟨Nat.le_refl _⟩, ⟨ψ6⟩⟩
  case round =>
   clear H'
   try clear c1
   try clear c3
   try clear c3b0
   try clear c3b1
   try clear c3b2
   obtain ⟨x5_1, rfl, HA, HK1, HB⟩ := hrel
   cases gk with
   | zero => exact absurd HA.out (by simp [laws_eqInputS.l0])
   | succ k1 =>
    have H := HA.out
    clear HA
    simp only [laws_eqInputS.l0] at H
    replace H := ifD H; rcases H with ⟨c4b0, H⟩ | ⟨c4b0, H⟩
    ·replace H := ifN H; obtain ⟨c5b0, H⟩ := H
     replace H := ifN H; obtain ⟨c6b0, H⟩ := H
     replace H := bS H; obtain ⟨t663, A7, H⟩ := H
     replace H := ifB H; rcases H with ⟨rfl, H⟩ | ⟨rfl, H⟩
     ·exact τ64
     ·exact τ64
    ·obtain rfl := Option.some.inj H
     go_wp2
     go_ret
     exact ⟨ψ4, ψ6⟩
 ·rw [if_neg c3] at H
  have c3b0 : ((l0.length : Int) == (l1.length : Int)) = false := beq_eq_false_iff_ne.mpr c3
  have c3b1 : ((l0.length : Int) != (l1.length : Int)) = true := bne_iff_ne.mpr c3
  have c3b2 : (l0.length == l1.length) = false := by first | simpa using c3 | (simp at c3 ⊢; omega)
  obtain rfl := Option.some.inj H
  go_enter Try.func76, Try.ntmps76
  go_wp2
  go_ret
  exact ⟨ψ4, ψ6⟩

/-! ### laws_eqTerm: function 106 -/
def laws_eqTerm.f (a0_0 : Int) (a0_1 : Int) (a1_0 : Int) (a1_1 : Int) : Option (Bool) := if a0_0 = a1_0 then (if a0_1 = a1_1 then (some true) else (some false)) else (some false)
theorem τ65 {P : Prop} (h : P := by
 obtain rfl := Option.some.inj H
 go_enter Try.func106, Try.ntmps106
 go_wp2_with (first | ((with_reducible refine gate_dst (N := 2) rfl ?_); refine bE 2 #[.int .i64 a0_0, .int .i64 a0_1] 74 ?_; intro gb10 hg w1_ hbox hb; have q := n4_ (below_step ψ25 hb) (hbox) ((ψ115 : w.heap.size ≤ gb10)) ((ψ115 : w.heap.size ≤ gb10)); clear HB; obtain ⟨HB, BK10, GW10, GE10⟩ := q; clear hb hbox hg) | ((with_reducible refine gate_dst (N := 3) rfl ?_); refine bE 3 #[.int .i64 a1_0, .int .i64 a1_1] 74 ?_; intro gb11 hg w2_ hbox hb; have q := n7_ (blk_below (g := gb10) ψ10 hb) (below_step ψ25 hb) (hbox) ((ψ115 : w.heap.size ≤ gb11)) ((ψ115 : w.heap.size ≤ gb11)) ((ψ116 : gb10 ≠ gb11)) ((ψ117 : gb11 ≠ gb10)); clear BK10 HB; obtain ⟨BK10, HB, BK11, GW11, GE11, NB10_11, NB11_10⟩ := q; clear hb hbox hg; have hnb1_ := NB10_11.out; have hnc1_ := NB11_10.out; obtain ⟨hczB10_0, hczB10_1, hfzB10_0, hfzB10_1⟩ := cells2 BK10.out; obtain ⟨hczB11_0, hczB11_1, hfzB11_0, hfzB11_1⟩ := cells2 BK11.out))
 go_ret
 exact ⟨ψ4, ψ25⟩) : P := h
theorem laws_eqTerm.calls (a0_0 : Int) (a0_1 : Int) (a1_0 : Int) (a1_1 : Int) (r : Bool) (w : World) (h : laws_eqTerm.f a0_0 a0_1 a1_0 a1_1 = some r) :
 Calls Try.prog 106 #[.agg #[.int .i64 a0_0, .int .i64 a0_1], .agg #[.int .i64 a1_0, .int .i64 a1_1]] w fun e w' => e = .returned (.bool r) ∧ Below w.heap.size w w' := by
 have hu74 := Try.underlying74
 have HB := Aside0.mk (Below.refl w.heap.size w)
 unfold laws_eqTerm.f at h
 have H := h
 clear h
 replace H := ifF H; rcases H with ⟨c3b0, c3b1, H⟩ | ⟨c3b0, c3b1, c3, H⟩
 ·by_cases c4 : a0_1 = a1_1
  ·rw [if_pos c4] at H
   have c4b0 : (a0_1 == a1_1) = true := beq_iff_eq.mpr c4
   have c4b1 : (a0_1 != a1_1) = false := bne_eq_false_iff_eq.mpr c4
   clear c4
   exact τ65
  ·rw [if_neg c4] at H
   have c4b0 : (a0_1 == a1_1) = false := beq_eq_false_iff_ne.mpr c4
   have c4b1 : (a0_1 != a1_1) = true := bne_iff_ne.mpr c4
   exact τ65
 ·exact τ65

/-! ### laws_eqTermS: function 61 -/
def laws_eqTermS.l0 : Nat → List (S74) → List (S74) → Int → Option (Bool)
 | 0, _, _, _ => none
 | k + 1, x0, x1, x5 => if x5 < (x0.length : Int) then (if 0 ≤ x5 then (if x5 < (x1.length : Int) then ((laws_eqTerm.f ((rd_T74 x0 x5).f0) ((rd_T74 x0 x5).f1) ((rd_T74 x1 x5).f0) ((rd_T74 x1 x5).f1)).bind fun t672 => (if t672 = true then (laws_eqTermS.l0 k x0 x1 (wrap64 (x5 + 1))) else (some false))) else (none)) else (none)) else (some true)
def laws_eqTermS.f (k : Nat) (l0 : List (S74)) (l1 : List (S74)) : Option (Bool) := if (l0.length : Int) = (l1.length : Int) then (laws_eqTermS.l0 k l0 l1 0) else (some false)
def laws_eqTermS.T6 : Bool × List (List Nat × List Nat) := (true, [([], []), ([], []), ([0, 1], [0, 1]), ([2], [2]), ([], []), ([], []), ([4, 5], [4, 5]), ([6], [6]), ([3, 7], [3, 7]), ([8], [8])])
def laws_eqTermS.B6 : List Nat := [0, 0, 3, 7, 0, 0, 48, 112, 255, 511]
theorem laws_eqTermS.tab6 : rtab .any (opsOf Try.f61 6) = laws_eqTermS.T6 := by kernel_rfl
theorem laws_eqTermS.bits6 : waitsOk laws_eqTermS.T6.2 laws_eqTermS.B6 = true := by kernel_rfl
theorem τ66 {P : Prop} (h : P := by
 first | obtain rfl := Option.some.inj H | (have H' := Aside0.mk H; clear H)
 try go_wp2
 replace HB := Aside0.mk (below_drew1 HB.out)
 have p670 : 0 ≤ (x5_1 : Int) := of_decide_eq_true ψ5
 have q670 : x5_1 < (l0.length : Int) := of_decide_eq_true ψ5
 obtain ⟨ad670, e670, hx670_0, hx670_1⟩ := at_T74 HR0.out x5_1 p670 q670
 have hw670_1 := hx670_1
 have hw670_0 := hx670_0
 cases e670
 replace hx670_0 := cB HB hx670_0
 replace hx670_1 := cB HB hx670_1
 replace p670 := eq_true p670
 replace q670 := eq_true q670
 have p671 : 0 ≤ (x5_1 : Int) := of_decide_eq_true ψ5
 have q671 : x5_1 < (l1.length : Int) := of_decide_eq_true ψ5
 obtain ⟨ad671, e671, hx671_0, hx671_1⟩ := at_T74 HR1.out x5_1 p671 q671
 have hw671_1 := hx671_1
 have hw671_0 := hx671_0
 cases e671
 replace hx671_0 := cB HB hx671_0
 replace hx671_1 := cB HB hx671_1
 replace p671 := eq_true p671
 replace q671 := eq_true q671
 refine start_ (n := 10) (S := fun w' => w'.cell? (ad670.add ((x5_1).toNat * 2)) = some (.int .i64 ((rd_T74 l0 x5_1).f0)) ∧ w'.cell? ⟨(ad670.add ((x5_1).toNat * 2)).block, (ad670.add ((x5_1).toNat * 2)).off + 1, none⟩ = some (.int .i64 ((rd_T74 l0 x5_1).f1)) ∧ w'.cell? (ad671.add ((x5_1).toNat * 2)) = some (.int .i64 ((rd_T74 l1 x5_1).f0)) ∧ w'.cell? ⟨(ad671.add ((x5_1).toNat * 2)).block, (ad671.add ((x5_1).toNat * 2)).off + 1, none⟩ = some (.int .i64 ((rd_T74 l1 x5_1).f1))) (ds := []) #[false, false, false, false, false, false, false, false, false, false] ψ12 rfl rfl ⟨((HB.out.cell (World.block_lt_of_cell? w _ hw670_0)).trans hw670_0), ((HB.out.cell (World.block_lt_of_cell? w _ hw670_1)).trans hw670_1), ((HB.out.cell (World.block_lt_of_cell? w _ hw671_0)).trans hw671_0), ((HB.out.cell (World.block_lt_of_cell? w _ hw671_1)).trans hw671_1)⟩ (fun hHeld => ?_); refine with_tabW laws_eqTermS.tab6 laws_eqTermS.bits6 (fun HT_ HW_ => ?_)
 generalize wr.drew = w1_ at HB hx670_0 hx670_1 hx671_0 hx671_1 hHeld ⊢
 refine rP 0 17 ?_; refine rP 1 18 ?_; refine rP 2 19 ?_; refine rP 4 21 ?_; refine rP 5 22 ?_; refine rP 6 23 ?_; refine rT 3 20 ?_; refine rT 7 24 ?_
 refine one_ (i := 8) (N := some 25) #[true, true, true, true, true, true, true, true, true, false] rfl rfl (one_of HT_.out ψ12) ψ13 (fun K hK => ?_)
 refine goes_ Try.func106 ψ12 rfl #[.agg #[.int .i64 ((rd_T74 l0 x5_1).f0), .int .i64 ((rd_T74 l0 x5_1).f1)], .agg #[.int .i64 ((rd_T74 l1 x5_1).f0), .int .i64 ((rd_T74 l1 x5_1).f1)]] ψ14 rfl rfl ψ15 ?_
 with_reducible refine (laws_eqTerm.calls ((rd_T74 l0 x5_1).f0) ((rd_T74 l0 x5_1).f1) ((rd_T74 l1 x5_1).f0) ((rd_T74 l1 x5_1).f1) _ _ A7.out).mono ?_
 rintro e w2_ ⟨rfl, hb⟩
 refine ⟨_, rfl, ?_⟩
 replace HB := Aside0.mk (below_step ψ6 hb)
 (try clear hb)
 refine hK.out _ _ ⟨((HB.out.cell (World.block_lt_of_cell? w _ hw670_0)).trans hw670_0), ((HB.out.cell (World.block_lt_of_cell? w _ hw670_1)).trans hw670_1), ((HB.out.cell (World.block_lt_of_cell? w _ hw671_0)).trans hw671_0), ((HB.out.cell (World.block_lt_of_cell? w _ hw671_1)).trans hw671_1)⟩ (fun hHeld => ?_)
 clear hK K
 refine rN 25 ?_; refine rP 9 26 ?_
 refine done_ (done_of HT_.out ψ12) ?_
 try go_wp2
 first | (go_roundg k1; (case measure => have := HK1.out; omega); (case rel => exact ⟨(wrap64 (x5_1 + 1)), ψ7, H', ⟨ψ8⟩, ⟨ψ6⟩⟩)) | (go_ret; exact ⟨ψ4, ψ6⟩)) : P := h
theorem laws_eqTermS.calls (k : Nat) (A0 : Option Addr) (c0 : Nat) (l0 : List (S74)) (A1 : Option Addr) (c1 : Nat) (l1 : List (S74)) (r : Bool) (w : World) (hr0 : Kd.C k74 w A0 l0.length l0) (hc0 : l0.length ≤ c0) (hr1 : Kd.C k74 w A1 l1.length l1) (hc1 : l1.length ≤ c1) (h : laws_eqTermS.f k l0 l1 = some r) :
 Calls Try.prog 61 #[.slice A0 l0.length c0, .slice A1 l1.length c1] w fun e w' => e = .returned (.bool r) ∧ Below w.heap.size w w' := by
 have hu74 := Try.underlying74
 have q := n4_ hr0 hc0 hr1 hc1
 clear hr0 hc0 hr1 hc1
 obtain ⟨HR0, HC0, HR1, HC1⟩ := q
 have HB := Aside0.mk (Below.refl w.heap.size w)
 unfold laws_eqTermS.f at h
 have H := h
 clear h
 by_cases c3 : (l0.length : Int) = (l1.length : Int)
 ·rw [if_pos c3] at H
  have c3b0 : ((l0.length : Int) == (l1.length : Int)) = true := beq_iff_eq.mpr c3
  have c3b1 : ((l0.length : Int) != (l1.length : Int)) = false := bne_eq_false_iff_eq.mpr c3
  have c3b2 : (l0.length == l1.length) = true := by first | simpa using c3 | (simp at c3 ⊢; omega)
  clear c3
  have H' := Aside0.mk H
  clear H
  go_enter Try.func61, Try.ntmps61
  go_wp2
  go_loopg [5] k (fun kq v5 w' => ∃ (x5_1 : Int), v5 = .int .i64 x5_1 ∧ Aside0 (laws_eqTermS.l0 kq l0 l1 x5_1 = some r) ∧ Aside0 (kq ≤ k) ∧ Aside0 (Below w.heap.size w w'))
  case atStart => exact ⟨(0), ψ7, H', ⟨Nat.le_refl _⟩, ⟨ψ6⟩⟩
  case round =>
   clear H'
   try clear c1
   try clear c3
   try clear c3b0
   try clear c3b1
   try clear c3b2
   obtain ⟨x5_1, rfl, HA, HK1, HB⟩ := hrel
   cases gk with
   | zero => exact absurd HA.out (by simp [laws_eqTermS.l0])
   | succ k1 =>
    have H := HA.out
    clear HA
    simp only [laws_eqTermS.l0] at H
    replace H := ifD H; rcases H with ⟨c4b0, H⟩ | ⟨c4b0, H⟩
    ·replace H := ifN H; obtain ⟨c5b0, H⟩ := H
     replace H := ifN H; obtain ⟨c6b0, H⟩ := H
     replace H := bS H; obtain ⟨t672, A7, H⟩ := H
     replace H := ifB H; rcases H with ⟨rfl, H⟩ | ⟨rfl, H⟩
     ·exact τ66
     ·exact τ66
    ·obtain rfl := Option.some.inj H
     go_wp2
     go_ret
     exact ⟨ψ4, ψ6⟩
 ·rw [if_neg c3] at H
  have c3b0 : ((l0.length : Int) == (l1.length : Int)) = false := beq_eq_false_iff_ne.mpr c3
  have c3b1 : ((l0.length : Int) != (l1.length : Int)) = true := bne_iff_ne.mpr c3
  have c3b2 : (l0.length == l1.length) = false := by first | simpa using c3 | (simp at c3 ⊢; omega)
  obtain rfl := Option.some.inj H
  go_enter Try.func61, Try.ntmps61
  go_wp2
  go_ret
  exact ⟨ψ4, ψ6⟩

/-! ### laws_eqStmt: function 115 -/
def laws_eqStmt.f (k : Nat) (a0_0 : Int) (a0_1 : Int) (l0_2 : List (S74)) (l0_3 : List (S74)) (a1_0 : Int) (a1_1 : Int) (l1_2 : List (S74)) (l1_3 : List (S74)) : Option (Bool) := if a0_0 = a1_0 then (if a0_1 = a1_1 then ((laws_eqTermS.f k l0_2 l1_2).bind fun t681 => (if t681 = true then ((laws_eqTermS.f k l0_3 l1_3).bind fun t684 => (if t684 = true then (some true) else (some false))) else (some false))) else (some false)) else (some false)
theorem τ67 {P : Prop} (h : P := by
 obtain rfl := Option.some.inj H
 go_enter Try.func115, Try.ntmps115
 go_wp2_with (first | ((with_reducible refine gate_dst (N := 2) rfl ?_); refine bE 2 #[.int .i64 a0_0, .int .i64 a0_1, .slice A0_2 l0_2.length c0_2, .slice A0_3 l0_3.length c0_3] 114 ?_; intro gb10 hg w1_ hbox hb; have q := n4_ (below_step ψ25 hb) (hbox) ((ψ115 : w.heap.size ≤ gb10)) ((ψ115 : w.heap.size ≤ gb10)); clear HB; obtain ⟨HB, BK10, GW10, GE10⟩ := q; clear hb hbox hg) | ((with_reducible refine gate_dst (N := 3) rfl ?_); refine bE 3 #[.int .i64 a1_0, .int .i64 a1_1, .slice A1_2 l1_2.length c1_2, .slice A1_3 l1_3.length c1_3] 114 ?_; intro gb11 hg w2_ hbox hb; have q := n7_ (blk_below (g := gb10) ψ10 hb) (below_step ψ25 hb) (hbox) ((ψ115 : w.heap.size ≤ gb11)) ((ψ115 : w.heap.size ≤ gb11)) ((ψ116 : gb10 ≠ gb11)) ((ψ117 : gb11 ≠ gb10)); clear BK10 HB; obtain ⟨BK10, HB, BK11, GW11, GE11, NB10_11, NB11_10⟩ := q; clear hb hbox hg; have hnb1_ := NB10_11.out; have hnc1_ := NB11_10.out; obtain ⟨hczB10_0, hczB10_1, hczB10_2, hczB10_3, hfzB10_0, hfzB10_1, hfzB10_2, hfzB10_3⟩ := cells4 BK10.out; obtain ⟨hczB11_0, hczB11_1, hczB11_2, hczB11_3, hfzB11_0, hfzB11_1, hfzB11_2, hfzB11_3⟩ := cells4 BK11.out) | ((with_reducible refine gate_callee (f := 61) rfl ?_); refine gL 19 Try.func61 #[.slice A0_2 l0_2.length c0_2, .slice A1_2 l1_2.length c1_2] ?_; (with_reducible refine (laws_eqTermS.calls k _ _ l0_2 _ _ l1_2 _ _ ?_ ?_ ?_ ?_ A5.out).mono ?_); exact ψ3; exact HC0_2.out; exact ψ28; exact HC1_2.out; rintro e w3_ ⟨rfl, hb⟩; refine ⟨_, rfl, ?_⟩; have q := n3_ (blk_below (g := gb10) ψ10 hb) (blk_below (g := gb11) ψ24 hb) (below_step ψ25 hb); clear BK10 BK11 HB; obtain ⟨BK10, BK11, HB⟩ := q; (try clear hb); (try (obtain ⟨hczB10_0, hczB10_1, hczB10_2, hczB10_3, hfzB10_0, hfzB10_1, hfzB10_2, hfzB10_3⟩ := cells4 BK10.out)); (try (obtain ⟨hczB11_0, hczB11_1, hczB11_2, hczB11_3, hfzB11_0, hfzB11_1, hfzB11_2, hfzB11_3⟩ := cells4 BK11.out))) | ((with_reducible refine gate_callee (f := 61) rfl ?_); refine gL 25 Try.func61 #[.slice A0_3 l0_3.length c0_3, .slice A1_3 l1_3.length c1_3] ?_; (with_reducible refine (laws_eqTermS.calls k _ _ l0_3 _ _ l1_3 _ _ ?_ ?_ ?_ ?_ A7.out).mono ?_); exact (by repeat (first | exact (Kd.C_below HR0_3.out HB.out) | (with_reducible refine Kd.C_alloc ?_ _) | (with_reducible refine Kd.C_drewN ?_ _) | (with_reducible refine Kd.C_drew ?_))); exact HC0_3.out; exact ψ27; exact HC1_3.out; rintro e w4_ ⟨rfl, hb⟩; refine ⟨_, rfl, ?_⟩; have q := n3_ (blk_below (g := gb10) ψ10 hb) (blk_below (g := gb11) ψ24 hb) (below_step ψ25 hb); clear BK10 BK11 HB; obtain ⟨BK10, BK11, HB⟩ := q; (try clear hb)))
 go_ret
 exact ⟨ψ4, ψ25⟩) : P := h
theorem laws_eqStmt.calls (k : Nat) (a0_0 : Int) (a0_1 : Int) (A0_2 : Option Addr) (c0_2 : Nat) (l0_2 : List (S74)) (A0_3 : Option Addr) (c0_3 : Nat) (l0_3 : List (S74)) (a1_0 : Int) (a1_1 : Int) (A1_2 : Option Addr) (c1_2 : Nat) (l1_2 : List (S74)) (A1_3 : Option Addr) (c1_3 : Nat) (l1_3 : List (S74)) (r : Bool) (w : World) (hr0_2 : Kd.C k74 w A0_2 l0_2.length l0_2) (hc0_2 : l0_2.length ≤ c0_2) (hr0_3 : Kd.C k74 w A0_3 l0_3.length l0_3) (hc0_3 : l0_3.length ≤ c0_3) (hr1_2 : Kd.C k74 w A1_2 l1_2.length l1_2) (hc1_2 : l1_2.length ≤ c1_2) (hr1_3 : Kd.C k74 w A1_3 l1_3.length l1_3) (hc1_3 : l1_3.length ≤ c1_3) (h : laws_eqStmt.f k a0_0 a0_1 l0_2 l0_3 a1_0 a1_1 l1_2 l1_3 = some r) :
 Calls Try.prog 115 #[.agg #[.int .i64 a0_0, .int .i64 a0_1, .slice A0_2 l0_2.length c0_2, .slice A0_3 l0_3.length c0_3], .agg #[.int .i64 a1_0, .int .i64 a1_1, .slice A1_2 l1_2.length c1_2, .slice A1_3 l1_3.length c1_3]] w fun e w' => e = .returned (.bool r) ∧ Below w.heap.size w w' := by
 have hu114 := Try.underlying114
 have q := n8_ hr0_2 hc0_2 hr0_3 hc0_3 hr1_2 hc1_2 hr1_3 hc1_3
 clear hr0_2 hc0_2 hr0_3 hc0_3 hr1_2 hc1_2 hr1_3 hc1_3
 obtain ⟨HR0_2, HC0_2, HR0_3, HC0_3, HR1_2, HC1_2, HR1_3, HC1_3⟩ := q
 have HB := Aside0.mk (Below.refl w.heap.size w)
 unfold laws_eqStmt.f at h
 have H := h
 clear h
 replace H := ifF H; rcases H with ⟨c3b0, c3b1, H⟩ | ⟨c3b0, c3b1, c3, H⟩
 ·by_cases c4 : a0_1 = a1_1
  ·rw [if_pos c4] at H
   have c4b0 : (a0_1 == a1_1) = true := beq_iff_eq.mpr c4
   have c4b1 : (a0_1 != a1_1) = false := bne_eq_false_iff_eq.mpr c4
   clear c4
   replace H := bS H; obtain ⟨t681, A5, H⟩ := H
   replace H := ifB H; rcases H with ⟨rfl, H⟩ | ⟨rfl, H⟩
   ·replace H := bS H; obtain ⟨t684, A7, H⟩ := H
    replace H := ifB H; rcases H with ⟨rfl, H⟩ | ⟨rfl, H⟩
    ·exact τ67
    ·exact τ67
   ·exact τ67
  ·rw [if_neg c4] at H
   have c4b0 : (a0_1 == a1_1) = false := beq_eq_false_iff_ne.mpr c4
   have c4b1 : (a0_1 != a1_1) = true := bne_iff_ne.mpr c4
   exact τ67
 ·exact τ67

/-! ### laws_eqStmtS: function 77 -/
def laws_eqStmtS.l0 : Nat → List (S114) → List (S114) → Int → Option (Bool)
 | 0, _, _, _ => none
 | k + 1, x0, x1, x5 => if x5 < (x0.length : Int) then (if 0 ≤ x5 then (if x5 < (x1.length : Int) then ((laws_eqStmt.f k ((rd_T114 x0 x5).f0) ((rd_T114 x0 x5).f1) ((rd_T114 x0 x5).f2) ((rd_T114 x0 x5).f3) ((rd_T114 x1 x5).f0) ((rd_T114 x1 x5).f1) ((rd_T114 x1 x5).f2) ((rd_T114 x1 x5).f3)).bind fun t687 => (if t687 = true then (laws_eqStmtS.l0 k x0 x1 (wrap64 (x5 + 1))) else (some false))) else (none)) else (none)) else (some true)
def laws_eqStmtS.f (k : Nat) (l0 : List (S114)) (l1 : List (S114)) : Option (Bool) := if (l0.length : Int) = (l1.length : Int) then (laws_eqStmtS.l0 k l0 l1 0) else (some false)
def laws_eqStmtS.T6 : Bool × List (List Nat × List Nat) := (true, [([], []), ([], []), ([0, 1], [0, 1]), ([2], [2]), ([], []), ([], []), ([4, 5], [4, 5]), ([6], [6]), ([3, 7], [3, 7]), ([8], [8])])
def laws_eqStmtS.B6 : List Nat := [0, 0, 3, 7, 0, 0, 48, 112, 255, 511]
theorem laws_eqStmtS.tab6 : rtab .any (opsOf Try.f77 6) = laws_eqStmtS.T6 := by kernel_rfl
theorem laws_eqStmtS.bits6 : waitsOk laws_eqStmtS.T6.2 laws_eqStmtS.B6 = true := by kernel_rfl
theorem τ68 {P : Prop} (h : P := by
 first | obtain rfl := Option.some.inj H | (have H' := Aside0.mk H; clear H)
 try go_wp2
 replace HB := Aside0.mk (below_drew1 HB.out)
 have p685 : 0 ≤ (x5_1 : Int) := of_decide_eq_true ψ5
 have q685 : x5_1 < (l0.length : Int) := of_decide_eq_true ψ5
 obtain ⟨ad685, A685_2, c685_2, A685_3, c685_3, e685, hx685_0, hx685_1, hx685_2, hx685_3, hl685_2, hi685_2, hl685_3, hi685_3⟩ := at_T114 HR0.out x5_1 p685 q685
 have hw685_3 := hx685_3
 have hw685_2 := hx685_2
 have hw685_1 := hx685_1
 have hw685_0 := hx685_0
 cases e685
 replace hx685_0 := cB HB hx685_0
 replace hx685_1 := cB HB hx685_1
 replace hx685_2 := cB HB hx685_2
 replace hx685_3 := cB HB hx685_3
 have q := n4_ hi685_2 hl685_2 hi685_3 hl685_3
 clear hi685_2 hl685_2 hi685_3 hl685_3
 obtain ⟨HR685_2, HC685_2, HR685_3, HC685_3⟩ := q
 replace p685 := eq_true p685
 replace q685 := eq_true q685
 have p686 : 0 ≤ (x5_1 : Int) := of_decide_eq_true ψ5
 have q686 : x5_1 < (l1.length : Int) := of_decide_eq_true ψ5
 obtain ⟨ad686, A686_2, c686_2, A686_3, c686_3, e686, hx686_0, hx686_1, hx686_2, hx686_3, hl686_2, hi686_2, hl686_3, hi686_3⟩ := at_T114 HR1.out x5_1 p686 q686
 have hw686_3 := hx686_3
 have hw686_2 := hx686_2
 have hw686_1 := hx686_1
 have hw686_0 := hx686_0
 cases e686
 replace hx686_0 := cB HB hx686_0
 replace hx686_1 := cB HB hx686_1
 replace hx686_2 := cB HB hx686_2
 replace hx686_3 := cB HB hx686_3
 have q := n4_ hi686_2 hl686_2 hi686_3 hl686_3
 clear hi686_2 hl686_2 hi686_3 hl686_3
 obtain ⟨HR686_2, HC686_2, HR686_3, HC686_3⟩ := q
 replace p686 := eq_true p686
 replace q686 := eq_true q686
 refine start_ (n := 10) (S := fun w' => w'.cell? (ad685.add ((x5_1).toNat * 4)) = some (.int .i64 ((rd_T114 l0 x5_1).f0)) ∧ w'.cell? ⟨(ad685.add ((x5_1).toNat * 4)).block, (ad685.add ((x5_1).toNat * 4)).off + 1, none⟩ = some (.int .i64 ((rd_T114 l0 x5_1).f1)) ∧ w'.cell? ⟨(ad685.add ((x5_1).toNat * 4)).block, (ad685.add ((x5_1).toNat * 4)).off + 2, none⟩ = some (.slice A685_2 ((rd_T114 l0 x5_1).f2).length c685_2) ∧ w'.cell? ⟨(ad685.add ((x5_1).toNat * 4)).block, (ad685.add ((x5_1).toNat * 4)).off + 3, none⟩ = some (.slice A685_3 ((rd_T114 l0 x5_1).f3).length c685_3) ∧ w'.cell? (ad686.add ((x5_1).toNat * 4)) = some (.int .i64 ((rd_T114 l1 x5_1).f0)) ∧ w'.cell? ⟨(ad686.add ((x5_1).toNat * 4)).block, (ad686.add ((x5_1).toNat * 4)).off + 1, none⟩ = some (.int .i64 ((rd_T114 l1 x5_1).f1)) ∧ w'.cell? ⟨(ad686.add ((x5_1).toNat * 4)).block, (ad686.add ((x5_1).toNat * 4)).off + 2, none⟩ = some (.slice A686_2 ((rd_T114 l1 x5_1).f2).length c686_2) ∧ w'.cell? ⟨(ad686.add ((x5_1).toNat * 4)).block, (ad686.add ((x5_1).toNat * 4)).off + 3, none⟩ = some (.slice A686_3 ((rd_T114 l1 x5_1).f3).length c686_3)) (ds := []) #[false, false, false, false, false, false, false, false, false, false] ψ12 rfl rfl ⟨((HB.out.cell (World.block_lt_of_cell? w _ hw685_0)).trans hw685_0), ((HB.out.cell (World.block_lt_of_cell? w _ hw685_1)).trans hw685_1), ((HB.out.cell (World.block_lt_of_cell? w _ hw685_2)).trans hw685_2), ((HB.out.cell (World.block_lt_of_cell? w _ hw685_3)).trans hw685_3), ((HB.out.cell (World.block_lt_of_cell? w _ hw686_0)).trans hw686_0), ((HB.out.cell (World.block_lt_of_cell? w _ hw686_1)).trans hw686_1), ((HB.out.cell (World.block_lt_of_cell? w _ hw686_2)).trans hw686_2), ((HB.out.cell (World.block_lt_of_cell? w _ hw686_3)).trans hw686_3)⟩ (fun hHeld => ?_); refine with_tabW laws_eqStmtS.tab6 laws_eqStmtS.bits6 (fun HT_ HW_ => ?_)
 generalize wr.drew = w1_ at HB HR685_2 HR685_3 HR686_2 HR686_3 hx685_0 hx685_1 hx685_2 hx685_3 hx686_0 hx686_1 hx686_2 hx686_3 hHeld ⊢
 refine rP 0 17 ?_; refine rP 1 18 ?_; refine rP 2 19 ?_; refine rP 4 21 ?_; refine rP 5 22 ?_; refine rP 6 23 ?_; refine rT 3 20 ?_; refine rT 7 24 ?_
 refine one_ (i := 8) (N := some 25) #[true, true, true, true, true, true, true, true, true, false] rfl rfl (one_of HT_.out ψ12) ψ13 (fun K hK => ?_)
 refine goes_ Try.func115 ψ12 rfl #[.agg #[.int .i64 ((rd_T114 l0 x5_1).f0), .int .i64 ((rd_T114 l0 x5_1).f1), .slice A685_2 ((rd_T114 l0 x5_1).f2).length c685_2, .slice A685_3 ((rd_T114 l0 x5_1).f3).length c685_3], .agg #[.int .i64 ((rd_T114 l1 x5_1).f0), .int .i64 ((rd_T114 l1 x5_1).f1), .slice A686_2 ((rd_T114 l1 x5_1).f2).length c686_2, .slice A686_3 ((rd_T114 l1 x5_1).f3).length c686_3]] ψ14 rfl rfl ψ15 ?_
 with_reducible refine (laws_eqStmt.calls k1 ((rd_T114 l0 x5_1).f0) ((rd_T114 l0 x5_1).f1) _ _ ((rd_T114 l0 x5_1).f2) _ _ ((rd_T114 l0 x5_1).f3) ((rd_T114 l1 x5_1).f0) ((rd_T114 l1 x5_1).f1) _ _ ((rd_T114 l1 x5_1).f2) _ _ ((rd_T114 l1 x5_1).f3) _ _ ?_ ?_ ?_ ?_ ?_ ?_ ?_ ?_ A7.out).mono ?_
 exact (by repeat (first | exact (Kd.C_below HR685_2.out HB.out) | (with_reducible refine Kd.C_alloc ?_ _) | (with_reducible refine Kd.C_drewN ?_ _) | (with_reducible refine Kd.C_drew ?_))); exact HC685_2.out; exact (by repeat (first | exact (Kd.C_below HR685_3.out HB.out) | (with_reducible refine Kd.C_alloc ?_ _) | (with_reducible refine Kd.C_drewN ?_ _) | (with_reducible refine Kd.C_drew ?_))); exact HC685_3.out; exact (by repeat (first | exact (Kd.C_below HR686_2.out HB.out) | (with_reducible refine Kd.C_alloc ?_ _) | (with_reducible refine Kd.C_drewN ?_ _) | (with_reducible refine Kd.C_drew ?_))); exact HC686_2.out; exact (by repeat (first | exact (Kd.C_below HR686_3.out HB.out) | (with_reducible refine Kd.C_alloc ?_ _) | (with_reducible refine Kd.C_drewN ?_ _) | (with_reducible refine Kd.C_drew ?_))); exact HC686_3.out
 rintro e w2_ ⟨rfl, hb⟩
 refine ⟨_, rfl, ?_⟩
 replace HB := Aside0.mk (below_step ψ6 hb)
 (try clear hb)
 refine hK.out _ _ ⟨((HB.out.cell (World.block_lt_of_cell? w _ hw685_0)).trans hw685_0), ((HB.out.cell (World.block_lt_of_cell? w _ hw685_1)).trans hw685_1), ((HB.out.cell (World.block_lt_of_cell? w _ hw685_2)).trans hw685_2), ((HB.out.cell (World.block_lt_of_cell? w _ hw685_3)).trans hw685_3), ((HB.out.cell (World.block_lt_of_cell? w _ hw686_0)).trans hw686_0), ((HB.out.cell (World.block_lt_of_cell? w _ hw686_1)).trans hw686_1), ((HB.out.cell (World.block_lt_of_cell? w _ hw686_2)).trans hw686_2), ((HB.out.cell (World.block_lt_of_cell? w _ hw686_3)).trans hw686_3)⟩ (fun hHeld => ?_)
 clear hK K
 refine rN 25 ?_; refine rP 9 26 ?_
 refine done_ (done_of HT_.out ψ12) ?_
 try go_wp2
 first | (go_roundg k1; (case measure => have := HK1.out; omega); (case rel => exact ⟨(wrap64 (x5_1 + 1)), ψ7, H', ⟨ψ8⟩, ⟨ψ6⟩⟩)) | (go_ret; exact ⟨ψ4, ψ6⟩)) : P := h
theorem laws_eqStmtS.calls (k : Nat) (A0 : Option Addr) (c0 : Nat) (l0 : List (S114)) (A1 : Option Addr) (c1 : Nat) (l1 : List (S114)) (r : Bool) (w : World) (hr0 : Kd.C k114 w A0 l0.length l0) (hc0 : l0.length ≤ c0) (hr1 : Kd.C k114 w A1 l1.length l1) (hc1 : l1.length ≤ c1) (h : laws_eqStmtS.f k l0 l1 = some r) :
 Calls Try.prog 77 #[.slice A0 l0.length c0, .slice A1 l1.length c1] w fun e w' => e = .returned (.bool r) ∧ Below w.heap.size w w' := by
 have hu114 := Try.underlying114
 have q := n4_ hr0 hc0 hr1 hc1
 clear hr0 hc0 hr1 hc1
 obtain ⟨HR0, HC0, HR1, HC1⟩ := q
 have HB := Aside0.mk (Below.refl w.heap.size w)
 unfold laws_eqStmtS.f at h
 have H := h
 clear h
 by_cases c3 : (l0.length : Int) = (l1.length : Int)
 ·rw [if_pos c3] at H
  have c3b0 : ((l0.length : Int) == (l1.length : Int)) = true := beq_iff_eq.mpr c3
  have c3b1 : ((l0.length : Int) != (l1.length : Int)) = false := bne_eq_false_iff_eq.mpr c3
  have c3b2 : (l0.length == l1.length) = true := by first | simpa using c3 | (simp at c3 ⊢; omega)
  clear c3
  have H' := Aside0.mk H
  clear H
  go_enter Try.func77, Try.ntmps77
  go_wp2
  go_loopg [5] k (fun kq v5 w' => ∃ (x5_1 : Int), v5 = .int .i64 x5_1 ∧ Aside0 (laws_eqStmtS.l0 kq l0 l1 x5_1 = some r) ∧ Aside0 (kq ≤ k) ∧ Aside0 (Below w.heap.size w w'))
  case atStart => exact ⟨(0), ψ7, H', ⟨Nat.le_refl _⟩, ⟨ψ6⟩⟩
  case round =>
   clear H'
   try clear c1
   try clear c3
   try clear c3b0
   try clear c3b1
   try clear c3b2
   obtain ⟨x5_1, rfl, HA, HK1, HB⟩ := hrel
   cases gk with
   | zero => exact absurd HA.out (by simp [laws_eqStmtS.l0])
   | succ k1 =>
    have H := HA.out
    clear HA
    simp only [laws_eqStmtS.l0] at H
    replace H := ifD H; rcases H with ⟨c4b0, H⟩ | ⟨c4b0, H⟩
    ·replace H := ifN H; obtain ⟨c5b0, H⟩ := H
     replace H := ifN H; obtain ⟨c6b0, H⟩ := H
     replace H := bS H; obtain ⟨t687, A7, H⟩ := H
     replace H := ifB H; rcases H with ⟨rfl, H⟩ | ⟨rfl, H⟩
     ·exact τ68
     ·exact τ68
    ·obtain rfl := Option.some.inj H
     go_wp2
     go_ret
     exact ⟨ψ4, ψ6⟩
 ·rw [if_neg c3] at H
  have c3b0 : ((l0.length : Int) == (l1.length : Int)) = false := beq_eq_false_iff_ne.mpr c3
  have c3b1 : ((l0.length : Int) != (l1.length : Int)) = true := bne_iff_ne.mpr c3
  have c3b2 : (l0.length == l1.length) = false := by first | simpa using c3 | (simp at c3 ⊢; omega)
  obtain rfl := Option.some.inj H
  go_enter Try.func77, Try.ntmps77
  go_wp2
  go_ret
  exact ⟨ψ4, ψ6⟩

end Go.Proofs.Ytakmkdlkipfnhaa.PCore

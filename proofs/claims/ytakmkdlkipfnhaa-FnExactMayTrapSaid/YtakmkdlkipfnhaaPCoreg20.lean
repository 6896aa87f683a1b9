/- The walks of the functions that the laws come to, part 20: turned out of the kit's print, and mended where that fell. -/
import Derived.Test.YtakmkdlkipfnhaaPCoreg
import Derived.Test.YtakmkdlkipfnhaaPCoreg1
import Derived.Test.YtakmkdlkipfnhaaPCoreg6
import Derived.Test.YtakmkdlkipfnhaaPCoreg10
namespace Go.Proofs.Ytakmkdlkipfnhaa.PCore
open Go.RowKit Go.Proofs.YtakmkdlkipfnhaaW.PrintWords Go.Proofs.YtakmkdlkipfnhaaW.PrintLast Go.Proofs.YtakmkdlkipfnhaaW.PrintMore
attribute [local go_sem] max2_int min2_int max_two min_two max_three min_three max_four min_four   -- for this text's walks alone
set_option linter.unusedVariables false
set_option maxHeartbeats 8000000
set_option maxRecDepth 100000
set_option linter.unusedSimpArgs false

theorem ψ108 {P : Prop} (h : P := by (with_reducible repeat (first | refine blk_drewN ?_ _ | refine blk_drew ?_ | refine blk_alloc ?_ _)); refine blk_put (cs := #[.int .i64 ((rd_T74 l1 x10_1).f0), .int .i64 0]) ?_ 1 _ rfl; (with_reducible repeat (first | refine blk_drewN ?_ _ | refine blk_drew ?_ | refine blk_alloc ?_ _)); refine blk_put (cs := #[.int .i64 0, .int .i64 0]) ?_ 0 _ rfl; (with_reducible repeat (first | refine blk_drewN ?_ _ | refine blk_drew ?_ | refine blk_alloc ?_ _)); exact BK10.out) : P := h
theorem ψ197 {P : Prop} (h : P := by refine impl_MayTrap.box_T36 (ψ10) ?_ ?_ ?_ ?_ ?_ ?_ ?_ ?_; exact HC0_1.out; repeat (first | exact (Kd.C_below HR0_1.out HB.out) | (with_reducible refine Kd.C_alloc ?_ _) | (with_reducible refine Kd.C_drewN ?_ _) | (with_reducible refine Kd.C_drew ?_)); exact HC0_2.out; repeat (first | exact (Kd.C_below HR0_2.out HB.out) | (with_reducible refine Kd.C_alloc ?_ _) | (with_reducible refine Kd.C_drewN ?_ _) | (with_reducible refine Kd.C_drew ?_)); exact HC0_4.out; repeat (first | exact (Kd.C_below HR0_4.out HB.out) | (with_reducible refine Kd.C_alloc ?_ _) | (with_reducible refine Kd.C_drewN ?_ _) | (with_reducible refine Kd.C_drew ?_)); exact HC0_5.out; repeat (first | exact (Kd.C_below HR0_5.out HB.out) | (with_reducible refine Kd.C_alloc ?_ _) | (with_reducible refine Kd.C_drewN ?_ _) | (with_reducible refine Kd.C_drew ?_))) : P := h
/-! ### impl_oneBelow: function 123 -/
def impl_oneBelow.f (l0 : List (S74)) (a1 : Int) : Option (Bool) := if (l0.length : Int) = 1 then (if 0 < (l0.length : Int) then (if ((rd_T74 l0 0).f0) = 0 then (some (decide (((rd_T74 l0 0).f1) < a1))) else (some false)) else (none)) else (some false)
theorem τ81 {P : Prop} (h : P := by
 obtain rfl := Option.some.inj H
 try (have p1032 : 0 ≤ (0 : Int) := ψ21; have q1032 : 0 < (l0.length : Int) := of_decide_eq_true ψ5; obtain ⟨ad1032, e1032, hx1032_0, hx1032_1⟩ := at_T74 HR0.out 0 p1032 q1032; cases e1032; have qi1032 : (0 < l0.length) = True := eq_true ψ21; (try rw [show ((0 : Int)).toNat = 0 from rfl] at hx1032_0); (try rw [show 0 * 2 = 0 from rfl] at hx1032_0); (try rw [Addr.add_zero'] at hx1032_0); (try rw [show ((0 : Int)).toNat = 0 from rfl] at hx1032_1); (try rw [show 0 * 2 = 0 from rfl] at hx1032_1); (try rw [Addr.add_zero'] at hx1032_1); replace p1032 := eq_true p1032; replace q1032 := eq_true q1032)
 try (have p1033 : 0 ≤ (0 : Int) := ψ21; have q1033 : 0 < (l0.length : Int) := of_decide_eq_true ψ5; obtain ⟨ad1033, e1033, hx1033_0, hx1033_1⟩ := at_T74 HR0.out 0 p1033 q1033; obtain rfl : ad1032 = ad1033 := (by injection e1033); have qi1033 : (0 < l0.length) = True := eq_true ψ21; (try rw [show ((0 : Int)).toNat = 0 from rfl] at hx1033_0); (try rw [show 0 * 2 = 0 from rfl] at hx1033_0); (try rw [Addr.add_zero'] at hx1033_0); (try rw [show ((0 : Int)).toNat = 0 from rfl] at hx1033_1); (try rw [show 0 * 2 = 0 from rfl] at hx1033_1); (try rw [Addr.add_zero'] at hx1033_1); replace p1033 := eq_true p1033; replace q1033 := eq_true q1033)
 go_enter Try.func123, Try.ntmps123
 go_wp2
 go_ret
 exact ⟨ψ0, ψ1⟩) : P := h
theorem impl_oneBelow.calls (A0 : Option Addr) (c0 : Nat) (l0 : List (S74)) (a1 : Int) (r : Bool) (w : World) (hr0 : Kd.C k74 w A0 l0.length l0) (hc0 : l0.length ≤ c0) (h : impl_oneBelow.f l0 a1 = some r) :
 Calls Try.prog 123 #[.slice A0 l0.length c0, .int .i64 a1] w fun e w' => e = .returned (.bool r) ∧ Drawn0 w w' := by
 have q := n2_ hr0 hc0
 clear hr0 hc0
 obtain ⟨HR0, HC0⟩ := q
 unfold impl_oneBelow.f at h
 have H := h
 clear h
 replace H := ifF H; rcases H with ⟨c3b0, c3b1, H⟩ | ⟨c3b0, c3b1, c3, H⟩
 ·by_cases c4 : 0 < (l0.length : Int)
  ·rw [if_pos c4] at H
   have c4b0 : decide (0 < (l0.length : Int)) = true := decide_eq_true c4
   have c4b1 : decide (0 < l0.length) = true := decide_eq_true ψ21
   clear c4
   replace H := ifF H; rcases H with ⟨c5b0, c5b1, H⟩ | ⟨c5b0, c5b1, c5, H⟩
   ·exact τ81
   ·exact τ81
  ·rw [if_neg c4] at H
   exact absurd H ψ22
 ·exact τ81

/-! ### impl_expTraps: function 100 -/
mutual
def impl_expTraps.l0 : Nat → List (S36) → List (S74) → List (S74) → Int → Int → Option (Bool)
 | 0, _, _, _, _, _ => none
 | k + 1, x0, x1, x8, x9, x10 => if x10 < x9 then (if 0 ≤ x10 then (if x10 < (x8.length : Int) then (if ((rd_T74 x8 x10).f0) = 8 then (impl_expTraps.j1 k x0 x1 x10 x8 x9 x10 ((rd_T74 x8 x10).f0) (((rd_T74 x8 x10).f0) == 8) ((rd_T74 x8 x10).f0) ((rd_T74 x8 x10).f1)) else (impl_expTraps.j1 k x0 x1 x10 x8 x9 x10 ((rd_T74 x8 x10).f0) (((rd_T74 x8 x10).f0) == 9) ((rd_T74 x8 x10).f0) ((rd_T74 x8 x10).f1))) else (none)) else (none)) else (some false)
def impl_expTraps.j1 : Nat → List (S36) → List (S74) → Int → List (S74) → Int → Int → Int → Bool → Int → Int → Option (Bool)
 | 0, _, _, _, _, _, _, _, _, _, _ => none
 | k + 1, x0, x1, x5, x8, x9, x10, x16, x17, x1036000, x1036001 => if x17 = true then (if 0 ≤ (wrap64 (x5 - 1)) then (if (wrap64 (x5 - 1)) < (x1.length : Int) then (if ((rd_T74 x1 (wrap64 (x5 - 1))).f0) = 0 then (if ((rd_T74 x1 (wrap64 (x5 - 1))).f1) = 0 then (some true) else (impl_expTraps.l0 k x0 x1 x8 x9 (wrap64 (x10 + 1)))) else (some true)) else (none)) else (none)) else (if x16 = 2 then (if 0 ≤ (wrap64 (x5 - 1)) then (if (wrap64 (x5 - 1)) ≤ x5 then (if x5 ≤ (x1.length : Int) then (if 0 ≤ x1036001 then (if x1036001 < (((rd_T36 x0 0).f4).length : Int) then ((impl_oneBelow.f ((x1.take (x5 : Int).toNat).drop ((wrap64 (x5 - 1)) : Int).toNat) (rd ((rd_T36 x0 0).f4) x1036001)).bind fun t1048 => (if t1048 = true then (impl_expTraps.l0 k x0 x1 x8 x9 (wrap64 (x10 + 1))) else (some true))) else (none)) else (none)) else (none)) else (none)) else (none)) else (impl_expTraps.l0 k x0 x1 x8 x9 (wrap64 (x10 + 1))))
end
def impl_expTraps.f (k : Nat) (l0 : List (S36)) (l1 : List (S74)) : Option (Bool) := impl_expTraps.l0 k l0 l1 l1 (l1.length : Int) 0
set_option maxHeartbeats 8000000 in
set_option maxRecDepth 100000 in
theorem impl_expTraps.calls (k : Nat) (A0 : Option Addr) (c0 : Nat) (l0 : List (S36)) (A1 : Option Addr) (c1 : Nat) (l1 : List (S74)) (r : Bool) (w : World) (hn0 : l0.length = 1) (hr0 : Kd.C k36 w A0 l0.length l0) (hc0 : l0.length ≤ c0) (hr1 : Kd.C k74 w A1 l1.length l1) (hc1 : l1.length ≤ c1) (h : impl_expTraps.f k l0 l1 = some r) :
 Calls Try.prog 100 #[.pointer A0, .slice A1 l1.length c1] w fun e w' => e = .returned (.bool r) ∧ Below w.heap.size w w' := by
 have hu74 := Try.underlying74
 have HR0 := Aside0.mk hr0
 have HC0 := Aside0.mk hc0
 clear hr0 hc0
 have HR1 := Aside0.mk hr1
 have HC1 := Aside0.mk hc1
 clear hr1 hc1
 have HB := Aside0.mk (Below.refl w.heap.size w)
 have H : (impl_expTraps.l0 k l0 l1 l1 (l1.length : Int) 0) = some r := h
 clear h
 have H' := Aside0.mk H
 clear H
 go_enter Try.func100, Try.ntmps100
 go_wp2_with (first | ((with_reducible refine qR_ ?_)) | ((with_reducible refine wpQuiet_step (fun K hK => ?_)); go_simp; first | (refine hK _ ?_; clear hK K) | (apply Exists.intro; refine ⟨fun _ => ?_, hK _ ?_⟩)) | ((with_reducible refine wpQuiet_nil ?_); rintro _ ⟨nq, rfl⟩))
 go_loopg [10] k (fun kq v10 w' => ∃ (x10_1 : Int), v10 = .int .i64 x10_1 ∧ Aside0 (impl_expTraps.l0 kq l0 l1 l1 (l1.length : Int) x10_1 = some r) ∧ Aside0 (kq ≤ k) ∧ Aside0 (Below w.heap.size w w'))
 case atStart => exact ⟨(0), (by first | rfl | (simp; done) | (simp [*]; done) | (simp only [i64_w, i32_w]; done) | (simp [i64_w, i32_w]; done)), H', ⟨Nat.le_refl _⟩, ⟨by repeat (first | (with_reducible first | exact HB.out | apply below_alloc | apply pw_below_drewN | apply below_drew1) | exact HB.out)⟩⟩
 case round =>
  clear H'
  try clear c1
  try clear p2
  obtain ⟨x10_1, rfl, HA, HK1, HB⟩ := hrel
  cases gk with
  | zero => exact absurd HA.out (by simp [impl_expTraps.l0])
  | succ k1 =>
   have H := HA.out
   clear HA
   simp only [impl_expTraps.l0] at H
   replace H := ifD H; rcases H with ⟨c3b0, H⟩ | ⟨c3b0, H⟩
   ·replace H := ifN H; obtain ⟨c4b0, H⟩ := H
    replace H := ifN H; obtain ⟨c5b0, H⟩ := H
    have HC6 := Aside0.mk H
    clear H
    have p1034 : 0 ≤ (x10_1 : Int) := of_decide_eq_true (by first | (with_reducible assumption) | assumption)
    have q1034 : x10_1 < (l1.length : Int) := of_decide_eq_true (by first | (with_reducible assumption) | assumption)
    obtain ⟨ad1034, e1034, hx1034_0, hx1034_1⟩ := at_T74 HR1.out x10_1 p1034 q1034
    cases e1034
    replace hx1034_0 := (HB.out.cell (World.block_lt_of_cell? w _ hx1034_0)).trans hx1034_0
    replace hx1034_1 := (HB.out.cell (World.block_lt_of_cell? w _ hx1034_1)).trans hx1034_1
    replace p1034 := eq_true p1034
    replace q1034 := eq_true q1034
    go_upto_if 17 with (first | ((with_reducible refine gate_dst (N := 6) rfl ?_); refine bE 6 #[.int .i64 0, .int .i64 0] 74 ?_; intro gb10 hg w7 hbox hb; have q := n4_ (below_step (by repeat (first | (with_reducible first | exact HB.out | apply below_alloc | apply pw_below_drewN | apply below_drew1) | exact HB.out)) hb) (hbox) ((by rw [hg]; exact (below_size (by repeat (first | (with_reducible first | exact HB.out | apply below_alloc | apply pw_below_drewN | apply below_drew1) | exact HB.out))) : w.heap.size ≤ gb10)) ((by rw [hg]; exact (below_size (by repeat (first | (with_reducible first | exact HB.out | apply below_alloc | apply pw_below_drewN | apply below_drew1) | exact HB.out))) : w.heap.size ≤ gb10)); clear HB; obtain ⟨HB, BK10, GW10, GE10⟩ := q; clear hb hbox hg; obtain ⟨y8_0, y8_1, u8_0, u8_1⟩ := cells2 BK10.out))
    repeat (go_quiet (first | ((with_reducible refine gate_dst (N := 6) rfl ?_); refine bE 6 #[.int .i64 0, .int .i64 0] 74 ?_; intro gb10 hg w7 hbox hb; have q := n4_ (below_step (by repeat (first | (with_reducible first | exact HB.out | apply below_alloc | apply pw_below_drewN | apply below_drew1) | exact HB.out)) hb) (hbox) ((by rw [hg]; exact (below_size (by repeat (first | (with_reducible first | exact HB.out | apply below_alloc | apply pw_below_drewN | apply below_drew1) | exact HB.out))) : w.heap.size ≤ gb10)) ((by rw [hg]; exact (below_size (by repeat (first | (with_reducible first | exact HB.out | apply below_alloc | apply pw_below_drewN | apply below_drew1) | exact HB.out))) : w.heap.size ≤ gb10)); clear HB; obtain ⟨HB, BK10, GW10, GE10⟩ := q; clear hb hbox hg; obtain ⟨y8_0, y8_1, u8_0, u8_1⟩ := cells2 BK10.out)); go_upto_if 17 with (first | ((with_reducible refine gate_dst (N := 6) rfl ?_); refine bE 6 #[.int .i64 0, .int .i64 0] 74 ?_; intro gb10 hg w7 hbox hb; have q := n4_ (below_step (by repeat (first | (with_reducible first | exact HB.out | apply below_alloc | apply pw_below_drewN | apply below_drew1) | exact HB.out)) hb) (hbox) ((by rw [hg]; exact (below_size (by repeat (first | (with_reducible first | exact HB.out | apply below_alloc | apply pw_below_drewN | apply below_drew1) | exact HB.out))) : w.heap.size ≤ gb10)) ((by rw [hg]; exact (below_size (by repeat (first | (with_reducible first | exact HB.out | apply below_alloc | apply pw_below_drewN | apply below_drew1) | exact HB.out))) : w.heap.size ≤ gb10)); clear HB; obtain ⟨HB, BK10, GW10, GE10⟩ := q; clear hb hbox hg; obtain ⟨y8_0, y8_1, u8_0, u8_1⟩ := cells2 BK10.out)))
    (try simp only [Act.put, List.setIfInBounds_toArray, List.set_cons_zero, List.set_cons_succ])
    go_cut [17] (fun v17 wc => ∃ (kq : Nat) (x17_5 : Bool), v17 = .bool x17_5 ∧ Aside0 (impl_expTraps.j1 kq l0 l1 x10_1 l1 (l1.length : Int) x10_1 ((rd_T74 l1 x10_1).f0) x17_5 ((rd_T74 l1 x10_1).f0) ((rd_T74 l1 x10_1).f1) = some r) ∧ Aside0 (kq ≤ k1) ∧ Aside0 (wc.heap[gb10]? = some (.cells #[.int .i64 ((rd_T74 l1 x10_1).f0), .int .i64 ((rd_T74 l1 x10_1).f1)] 74 (0, 0))) ∧ Aside0 (Below w.heap.size w wc))
    case first =>
     have H := HC6.out
     clear HC6
     replace H := ifF H; rcases H with ⟨c9b0, c9b1, H⟩ | ⟨c9b0, c9b1, c9, H⟩
     ·(first | rw [c9b0] | rw [c9b1] | (simp only [i64_w, i32_w]; rw [c9b0]) | skip)
      have H' := Aside0.mk H
      clear H
      go_wp2_with (first | ((with_reducible refine qR_ ?_)) | ((with_reducible refine wpQuiet_step (fun K hK => ?_)); go_simp; first | (refine hK _ ?_; clear hK K) | (apply Exists.intro; refine ⟨fun _ => ?_, hK _ ?_⟩)) | ((with_reducible refine wpQuiet_nil ?_); rintro _ ⟨nq, rfl⟩))
      go_meet
      case rel => exact ⟨_, ((((rd_T74 l1 x10_1).f0) == 8)), (by first | rfl | (simp; done) | (simp [*]; done) | (simp only [i64_w, i32_w]; done) | (simp [i64_w, i32_w]; done)), H', ⟨by have := HK1.out; first | omega | exact Nat.le_refl _⟩, ⟨by (with_reducible repeat (first | refine blk_drewN ?_ _ | refine blk_drew ?_ | refine blk_alloc ?_ _)); refine blk_put (cs := #[.int .i64 ((rd_T74 l1 x10_1).f0), .int .i64 0]) ?_ 1 _ rfl; (with_reducible repeat (first | refine blk_drewN ?_ _ | refine blk_drew ?_ | refine blk_alloc ?_ _)); refine blk_put (cs := #[.int .i64 0, .int .i64 0]) ?_ 0 _ rfl; (with_reducible repeat (first | refine blk_drewN ?_ _ | refine blk_drew ?_ | refine blk_alloc ?_ _)); exact BK10.out⟩, ⟨by repeat (first | (with_reducible first | exact HB.out | apply below_alloc | apply pw_below_drewN | apply below_drew1 | refine below_set ?_ GE10.out) | exact HB.out)⟩⟩
     ·(first | rw [c9b0] | rw [c9b1] | (simp only [i64_w, i32_w]; rw [c9b0]) | skip)
      have H' := Aside0.mk H
      clear H
      go_wp2_with (first | ((with_reducible refine qR_ ?_)) | ((with_reducible refine wpQuiet_step (fun K hK => ?_)); go_simp; first | (refine hK _ ?_; clear hK K) | (apply Exists.intro; refine ⟨fun _ => ?_, hK _ ?_⟩)) | ((with_reducible refine wpQuiet_nil ?_); rintro _ ⟨nq, rfl⟩))
      go_meet
      case rel => exact ⟨_, ((((rd_T74 l1 x10_1).f0) == 9)), (by first | rfl | (simp; done) | (simp [*]; done) | (simp only [i64_w, i32_w]; done) | (simp [i64_w, i32_w]; done)), H', ⟨by have := HK1.out; first | omega | exact Nat.le_refl _⟩, ⟨by (with_reducible repeat (first | refine blk_drewN ?_ _ | refine blk_drew ?_ | refine blk_alloc ?_ _)); refine blk_put (cs := #[.int .i64 ((rd_T74 l1 x10_1).f0), .int .i64 0]) ?_ 1 _ rfl; (with_reducible repeat (first | refine blk_drewN ?_ _ | refine blk_drew ?_ | refine blk_alloc ?_ _)); refine blk_put (cs := #[.int .i64 0, .int .i64 0]) ?_ 0 _ rfl; (with_reducible repeat (first | refine blk_drewN ?_ _ | refine blk_drew ?_ | refine blk_alloc ?_ _)); exact BK10.out⟩, ⟨by repeat (first | (with_reducible first | exact HB.out | apply below_alloc | apply pw_below_drewN | apply below_drew1 | refine below_set ?_ GE10.out) | exact HB.out)⟩⟩
    case rest =>
     clear HC6
     try clear c1
     try clear p1
     try clear q1
     try clear hx1
     try clear p2
     try clear c3
     try clear c3b0
     try clear c4
     try clear c4b0
     try clear c5
     try clear c5b0
     try clear c9
     try clear c9b0
     try clear c9b1
     try clear y8_0 y8_1 u8_0 u8_1
     try clear hx1034_0
     try clear hx1034_1
     try clear p1034
     try clear p2
     try clear q1034
     obtain ⟨kq, x17_5, rfl, HA, HJ5, BK10, HB⟩ := hcut
     cases kq with
     | zero => exact absurd HA.out (by simp [impl_expTraps.j1])
     | succ kj5 =>
      have H := HA.out
      clear HA
      simp only [impl_expTraps.j1] at H
      replace H := ifB H; rcases H with ⟨rfl, H⟩ | ⟨rfl, H⟩
      ·obtain ⟨ji11, hji11⟩ : ∃ j_ : Int, (wrap64 (x10_1 - 1)) = j_ := ⟨_, rfl⟩
       replace H : (if 0 ≤ (ji11) then (if (ji11) < (l1.length : Int) then (if ((rd_T74 l1 (ji11)).f0) = 0 then (if ((rd_T74 l1 (ji11)).f1) = 0 then (some true) else (impl_expTraps.l0 kj5 l0 l1 l1 (l1.length : Int) (wrap64 (x10_1 + 1)))) else (some true)) else (none)) else (none)) = some r := by first | (rw [hji11] at H; exact H) | (simp only [hji11] at H ⊢; exact H)
       have hji11w : (IntKind.i64.wrap (x10_1 - 1)) = ji11 := (i64_w _).trans hji11
       replace H := ifN H; obtain ⟨c12b0, H⟩ := H
       replace H := ifN H; obtain ⟨c13b0, H⟩ := H
       replace H := ifF H; rcases H with ⟨c14b0, c14b1, H⟩ | ⟨c14b0, c14b1, c14, H⟩
       ·by_cases c15 : ((rd_T74 l1 (ji11)).f1) = 0
        ·rw [if_pos c15] at H
         have c15b0 : (((rd_T74 l1 (ji11)).f1) == 0) = true := beq_iff_eq.mpr c15
         have c15b1 : (((rd_T74 l1 (ji11)).f1) != 0) = false := bne_eq_false_iff_eq.mpr c15
         clear c15
         obtain rfl := Option.some.inj H
         have p1037 : 0 ≤ ((ji11) : Int) := of_decide_eq_true (by first | (with_reducible assumption) | assumption)
         have q1037 : (ji11) < (l1.length : Int) := of_decide_eq_true (by first | (with_reducible assumption) | assumption)
         obtain ⟨ad1037, e1037, hx1037_0, hx1037_1⟩ := at_T74 HR1.out (ji11) p1037 q1037
         obtain rfl : ad1034 = ad1037 := (by injection e1037)
         replace hx1037_0 := (HB.out.cell (World.block_lt_of_cell? w _ hx1037_0)).trans hx1037_0
         replace hx1037_1 := (HB.out.cell (World.block_lt_of_cell? w _ hx1037_1)).trans hx1037_1
         replace p1037 := eq_true p1037
         replace q1037 := eq_true q1037
         go_wp2_with (first | ((with_reducible refine gate_dst (N := 7) rfl ?_); refine bE 7 #[.int .i64 0, .int .i64 0] 74 ?_; intro gb11 hg w16 hbox hb; have q := n7_ (blk_below (g := gb10) (by (with_reducible repeat (first | refine blk_drewN ?_ _ | refine blk_drew ?_ | refine blk_alloc ?_ _)); exact BK10.out) hb) (below_step (by repeat (first | (with_reducible first | exact HB.out | apply below_alloc | apply pw_below_drewN | apply below_drew1 | refine below_set ?_ GE10.out) | exact HB.out)) hb) (hbox) ((by rw [hg]; exact (below_size (by repeat (first | (with_reducible first | exact HB.out | apply below_alloc | apply pw_below_drewN | apply below_drew1 | refine below_set ?_ GE10.out) | exact HB.out))) : w.heap.size ≤ gb11)) ((by rw [hg]; exact (below_size (by repeat (first | (with_reducible first | exact HB.out | apply below_alloc | apply pw_below_drewN | apply below_drew1 | refine below_set ?_ GE10.out) | exact HB.out))) : w.heap.size ≤ gb11)) ((by rw [hg]; exact Nat.ne_of_lt (blk_lt (g := gb10) (by (with_reducible repeat (first | refine blk_drewN ?_ _ | refine blk_drew ?_ | refine blk_alloc ?_ _)); exact BK10.out)) : gb10 ≠ gb11)) ((by rw [hg]; exact Nat.ne_of_gt (blk_lt (g := gb10) (by (with_reducible repeat (first | refine blk_drewN ?_ _ | refine blk_drew ?_ | refine blk_alloc ?_ _)); exact BK10.out)) : gb11 ≠ gb10)); clear BK10 HB; obtain ⟨BK10, HB, BK11, GW11, GE11, NB10_11, NB11_10⟩ := q; clear hb hbox hg; have hnb17 := NB11_10.out; have hnc17 := NB10_11.out; obtain ⟨y18_0, y18_1, u18_0, u18_1⟩ := cells2 BK11.out) | ((with_reducible refine qR_ ?_)) | ((with_reducible refine wpQuiet_step (fun K hK => ?_)); go_simp; first | (refine hK _ ?_; clear hK K) | (apply Exists.intro; refine ⟨fun _ => ?_, hK _ ?_⟩)) | ((with_reducible refine wpQuiet_nil ?_); rintro _ ⟨nq, rfl⟩))
         go_ret
         exact ⟨by first | rfl | (simp [errW_none, errW_some] <;> rfl) | (simp only [← hji11]; first | rfl | (simp [errW_none, errW_some] <;> rfl)) | (simp [*, errW_none, errW_some] <;> rfl), by repeat (first | (with_reducible first | exact HB.out | apply below_alloc | apply pw_below_drewN | apply below_drew1 | refine below_set ?_ GE10.out | refine below_set ?_ GE11.out) | exact HB.out)⟩
        ·rw [if_neg c15] at H
         have c15b0 : (((rd_T74 l1 (ji11)).f1) == 0) = false := beq_eq_false_iff_ne.mpr c15
         have c15b1 : (((rd_T74 l1 (ji11)).f1) != 0) = true := bne_iff_ne.mpr c15
         have H' := Aside0.mk H
         clear H
         have p1037 : 0 ≤ ((ji11) : Int) := of_decide_eq_true (by first | (with_reducible assumption) | assumption)
         have q1037 : (ji11) < (l1.length : Int) := of_decide_eq_true (by first | (with_reducible assumption) | assumption)
         obtain ⟨ad1037, e1037, hx1037_0, hx1037_1⟩ := at_T74 HR1.out (ji11) p1037 q1037
         obtain rfl : ad1034 = ad1037 := (by injection e1037)
         replace hx1037_0 := (HB.out.cell (World.block_lt_of_cell? w _ hx1037_0)).trans hx1037_0
         replace hx1037_1 := (HB.out.cell (World.block_lt_of_cell? w _ hx1037_1)).trans hx1037_1
         replace p1037 := eq_true p1037
         replace q1037 := eq_true q1037
         go_wp2_with (first | ((with_reducible refine gate_dst (N := 7) rfl ?_); refine bE 7 #[.int .i64 0, .int .i64 0] 74 ?_; intro gb11 hg w19 hbox hb; have q := n7_ (blk_below (g := gb10) (by (with_reducible repeat (first | refine blk_drewN ?_ _ | refine blk_drew ?_ | refine blk_alloc ?_ _)); exact BK10.out) hb) (below_step (by repeat (first | (with_reducible first | exact HB.out | apply below_alloc | apply pw_below_drewN | apply below_drew1 | refine below_set ?_ GE10.out) | exact HB.out)) hb) (hbox) ((by rw [hg]; exact (below_size (by repeat (first | (with_reducible first | exact HB.out | apply below_alloc | apply pw_below_drewN | apply below_drew1 | refine below_set ?_ GE10.out) | exact HB.out))) : w.heap.size ≤ gb11)) ((by rw [hg]; exact (below_size (by repeat (first | (with_reducible first | exact HB.out | apply below_alloc | apply pw_below_drewN | apply below_drew1 | refine below_set ?_ GE10.out) | exact HB.out))) : w.heap.size ≤ gb11)) ((by rw [hg]; exact Nat.ne_of_lt (blk_lt (g := gb10) (by (with_reducible repeat (first | refine blk_drewN ?_ _ | refine blk_drew ?_ | refine blk_alloc ?_ _)); exact BK10.out)) : gb10 ≠ gb11)) ((by rw [hg]; exact Nat.ne_of_gt (blk_lt (g := gb10) (by (with_reducible repeat (first | refine blk_drewN ?_ _ | refine blk_drew ?_ | refine blk_alloc ?_ _)); exact BK10.out)) : gb11 ≠ gb10)); clear BK10 HB; obtain ⟨BK10, HB, BK11, GW11, GE11, NB10_11, NB11_10⟩ := q; clear hb hbox hg; have hnb20 := NB11_10.out; have hnc20 := NB10_11.out; obtain ⟨y21_0, y21_1, u21_0, u21_1⟩ := cells2 BK11.out) | ((with_reducible refine qR_ ?_)) | ((with_reducible refine wpQuiet_step (fun K hK => ?_)); go_simp; first | (refine hK _ ?_; clear hK K) | (apply Exists.intro; refine ⟨fun _ => ?_, hK _ ?_⟩)) | ((with_reducible refine wpQuiet_nil ?_); rintro _ ⟨nq, rfl⟩))
         go_roundg kj5
         case measure => have := HK1.out; have := HJ5.out; omega
         case rel => exact ⟨(wrap64 (x10_1 + 1)), (by first | rfl | (simp; done) | (simp [*]; done) | (simp only [i64_w, i32_w]; done) | (simp [i64_w, i32_w]; done)), H', ⟨by have := HK1.out; have := HJ5.out; omega⟩, ⟨by repeat (first | (with_reducible first | exact HB.out | apply below_alloc | apply pw_below_drewN | apply below_drew1 | refine below_set ?_ GE10.out | refine below_set ?_ GE11.out) | exact HB.out)⟩⟩
       ·obtain rfl := Option.some.inj H
        have p1037 : 0 ≤ ((ji11) : Int) := of_decide_eq_true (by first | (with_reducible assumption) | assumption)
        have q1037 : (ji11) < (l1.length : Int) := of_decide_eq_true (by first | (with_reducible assumption) | assumption)
        obtain ⟨ad1037, e1037, hx1037_0, hx1037_1⟩ := at_T74 HR1.out (ji11) p1037 q1037
        obtain rfl : ad1034 = ad1037 := (by injection e1037)
        replace hx1037_0 := (HB.out.cell (World.block_lt_of_cell? w _ hx1037_0)).trans hx1037_0
        replace hx1037_1 := (HB.out.cell (World.block_lt_of_cell? w _ hx1037_1)).trans hx1037_1
        replace p1037 := eq_true p1037
        replace q1037 := eq_true q1037
        go_wp2_with (first | ((with_reducible refine gate_dst (N := 7) rfl ?_); refine bE 7 #[.int .i64 0, .int .i64 0] 74 ?_; intro gb11 hg w22 hbox hb; have q := n7_ (blk_below (g := gb10) (by (with_reducible repeat (first | refine blk_drewN ?_ _ | refine blk_drew ?_ | refine blk_alloc ?_ _)); exact BK10.out) hb) (below_step (by repeat (first | (with_reducible first | exact HB.out | apply below_alloc | apply pw_below_drewN | apply below_drew1 | refine below_set ?_ GE10.out) | exact HB.out)) hb) (hbox) ((by rw [hg]; exact (below_size (by repeat (first | (with_reducible first | exact HB.out | apply below_alloc | apply pw_below_drewN | apply below_drew1 | refine below_set ?_ GE10.out) | exact HB.out))) : w.heap.size ≤ gb11)) ((by rw [hg]; exact (below_size (by repeat (first | (with_reducible first | exact HB.out | apply below_alloc | apply pw_below_drewN | apply below_drew1 | refine below_set ?_ GE10.out) | exact HB.out))) : w.heap.size ≤ gb11)) ((by rw [hg]; exact Nat.ne_of_lt (blk_lt (g := gb10) (by (with_reducible repeat (first | refine blk_drewN ?_ _ | refine blk_drew ?_ | refine blk_alloc ?_ _)); exact BK10.out)) : gb10 ≠ gb11)) ((by rw [hg]; exact Nat.ne_of_gt (blk_lt (g := gb10) (by (with_reducible repeat (first | refine blk_drewN ?_ _ | refine blk_drew ?_ | refine blk_alloc ?_ _)); exact BK10.out)) : gb11 ≠ gb10)); clear BK10 HB; obtain ⟨BK10, HB, BK11, GW11, GE11, NB10_11, NB11_10⟩ := q; clear hb hbox hg; have hnb23 := NB11_10.out; have hnc23 := NB10_11.out; obtain ⟨y24_0, y24_1, u24_0, u24_1⟩ := cells2 BK11.out) | ((with_reducible refine qR_ ?_)) | ((with_reducible refine wpQuiet_step (fun K hK => ?_)); go_simp; first | (refine hK _ ?_; clear hK K) | (apply Exists.intro; refine ⟨fun _ => ?_, hK _ ?_⟩)) | ((with_reducible refine wpQuiet_nil ?_); rintro _ ⟨nq, rfl⟩))
        go_ret
        exact ⟨by first | rfl | (simp [errW_none, errW_some] <;> rfl) | (simp only [← hji11]; first | rfl | (simp [errW_none, errW_some] <;> rfl)) | (simp [*, errW_none, errW_some] <;> rfl), by repeat (first | (with_reducible first | exact HB.out | apply below_alloc | apply pw_below_drewN | apply below_drew1 | refine below_set ?_ GE10.out | refine below_set ?_ GE11.out) | exact HB.out)⟩
      ·by_cases c25 : ((rd_T74 l1 x10_1).f0) = 2
       ·rw [if_pos c25] at H
        have c25b0 : (((rd_T74 l1 x10_1).f0) == 2) = true := beq_iff_eq.mpr c25
        have c25b1 : (((rd_T74 l1 x10_1).f0) != 2) = false := bne_eq_false_iff_eq.mpr c25
        clear c25
        obtain ⟨ji26, hji26⟩ : ∃ j_ : Int, (wrap64 (x10_1 - 1)) = j_ := ⟨_, rfl⟩
        replace H : (if 0 ≤ (ji26) then (if (ji26) ≤ x10_1 then (if x10_1 ≤ (l1.length : Int) then (if 0 ≤ ((rd_T74 l1 x10_1).f1) then (if ((rd_T74 l1 x10_1).f1) < (((rd_T36 l0 0).f4).length : Int) then ((impl_oneBelow.f ((l1.take (x10_1 : Int).toNat).drop ((ji26) : Int).toNat) (rd ((rd_T36 l0 0).f4) ((rd_T74 l1 x10_1).f1))).bind fun t1048 => (if t1048 = true then (impl_expTraps.l0 kj5 l0 l1 l1 (l1.length : Int) (wrap64 (x10_1 + 1))) else (some true))) else (none)) else (none)) else (none)) else (none)) else (none)) = some r := by first | (rw [hji26] at H; exact H) | (simp only [hji26] at H ⊢; exact H)
        have hji26w : (IntKind.i64.wrap (x10_1 - 1)) = ji26 := (i64_w _).trans hji26
        by_cases c27 : 0 ≤ (ji26)
        ·rw [if_pos c27] at H
         have c27b0 := eq_true c27
         have c27b1 : decide (0 ≤ (ji26)) = true := decide_eq_true c27
         clear c27
         by_cases c28 : (ji26) ≤ x10_1
         ·rw [if_pos c28] at H
          have c28b0 := eq_true c28
          have c28b1 : decide ((ji26) ≤ x10_1) = true := decide_eq_true c28
          clear c28
          by_cases c29 : x10_1 ≤ (l1.length : Int)
          ·rw [if_pos c29] at H
           have c29b0 := eq_true c29
           have c29b1 : decide (x10_1 ≤ (l1.length : Int)) = true := decide_eq_true c29
           clear c29
           obtain ⟨y1041, hy1041⟩ : ∃ y_ : List (S74), y_ = ((l1.take (x10_1 : Int).toNat).drop ((ji26) : Int).toNat) := ⟨_, rfl⟩
           replace H : (if 0 ≤ ((rd_T74 l1 x10_1).f1) then (if ((rd_T74 l1 x10_1).f1) < (((rd_T36 l0 0).f4).length : Int) then ((impl_oneBelow.f y1041 (rd ((rd_T36 l0 0).f4) ((rd_T74 l1 x10_1).f1))).bind fun t1048 => (if t1048 = true then (impl_expTraps.l0 kj5 l0 l1 l1 (l1.length : Int) (wrap64 (x10_1 + 1))) else (some true))) else (none)) else (none)) = some r := by first | (rw [hy1041]; with_reducible exact H) | (have H2_ := (Option.bind_some _ _).symm.trans H; rw [hy1041]; with_reducible exact H2_) | (have H2_ := (Option.bind_some _ _).symm.trans H; with_reducible exact H2_) | with_reducible exact H | (rw [hy1041]; exact H) | exact H
           have Ny1041 := Aside0.mk hy1041
           clear hy1041
           replace H := ifN H; obtain ⟨c30b0, H⟩ := H
           replace H := ifN H; obtain ⟨c31b0, H⟩ := H
           replace H := Option.bind_eq_some_iff.mp H
           obtain ⟨t1048, A320, H⟩ := H
           have A32 := Aside0.mk A320
           clear A320
           replace H := ifB H; rcases H with ⟨rfl, H⟩ | ⟨rfl, H⟩
           ·have H' := Aside0.mk H
            clear H
            have q34 : (x10_1 : Int) ≤ ((l1.length : Int) : Int) := of_decide_eq_true (by first | (with_reducible assumption) | assumption)
            obtain ⟨i034, hi034, _, hsz34, _⟩ := info_parts info74
            have hroom34 : l1.length ≤ c1 := HC1.out
            have hC34 : Kd.C k74 _ (some ad1034) l1.length l1 := HR1.out
            have ql34 : ((ji26) : Int) ≤ (x10_1 : Int) := of_decide_eq_true (by first | (with_reducible assumption) | assumption)
            have q034 : (0 : Int) ≤ ((ji26) : Int) := of_decide_eq_true (by first | (with_reducible assumption) | assumption)
            have hcut34 := cut_mid (P := Try.prog) 68 74 .i64 .i64 Try.underlying68 hi034 2 hsz34 (some ad1034) l1.length c1 (ji26) x10_1 q034 ql34 q34 hroom34
            have hr34 := Kd.C_mid (lo := ((ji26) : Int).toNat) (hi := (x10_1 : Int).toNat) (c := c1) hC34 (by omega) (by omega) hroom34
            obtain ⟨A34, hA34⟩ : ∃ A_, A_ = (if c1 = ((ji26) : Int).toNat then (some ad1034) else ((some ad1034) : Option Addr).map (·.add (((ji26) : Int).toNat * 2))) := ⟨_, rfl⟩
            obtain ⟨c34, hc34⟩ : ∃ c_, c_ = c1 - ((ji26) : Int).toNat := ⟨_, rfl⟩
            have hy34 : y1041.length = (x10_1 : Int).toNat - ((ji26) : Int).toNat := (by rw [Ny1041.out, List.length_drop, List.length_take] <;> omega)
            rw [show ((l1).take (x10_1 : Int).toNat).drop ((ji26) : Int).toNat = y1041 from Ny1041.out.symm] at hr34
            replace hr34 : Kd.C k74 _ A34 y1041.length y1041 := (by rw [hA34]; exact hr34)
            rw [← hy34, ← hA34, ← hc34] at hcut34
            have HR1044 := Aside0.mk hr34
            have HC1044 := Aside0.mk (show y1041.length ≤ c34 from by rw [hy34, hc34]; exact Nat.sub_le_sub_right (Nat.le_trans (by omega) hroom34) _)
            clear hr34 hC34 hroom34 hi034 hsz34 hc34
            have KY34 := Aside0.mk hy34
            have KA34 := Aside0.mk hA34
            clear hy34 hA34
            replace q34 := eq_true q34
            have p1045 : 0 ≤ (0 : Int) := (by omega)
            have q1045 : 0 < (l0.length : Int) := (by first | exact of_decide_eq_true (by first | (with_reducible assumption) | assumption) | omega)
            obtain ⟨ad1045, A1045_1, c1045_1, A1045_2, c1045_2, A1045_4, c1045_4, A1045_5, c1045_5, e1045, hx1045_0, hx1045_1, hx1045_2, hx1045_3, hx1045_4, hx1045_5, hl1045_1, hi1045_1, hl1045_2, hi1045_2, hl1045_4, hi1045_4, hl1045_5, hi1045_5⟩ := at_T36 HR0.out 0 p1045 q1045
            cases e1045
            have qi1045 : (0 < l0.length) = True := eq_true (by omega)
            (try rw [show ((0 : Int)).toNat = 0 from rfl] at hx1045_0)
            (try rw [show 0 * 6 = 0 from rfl] at hx1045_0)
            (try rw [Addr.add_zero'] at hx1045_0)
            (try rw [show ((0 : Int)).toNat = 0 from rfl] at hx1045_1)
            (try rw [show 0 * 6 = 0 from rfl] at hx1045_1)
            (try rw [Addr.add_zero'] at hx1045_1)
            (try rw [show ((0 : Int)).toNat = 0 from rfl] at hx1045_2)
            (try rw [show 0 * 6 = 0 from rfl] at hx1045_2)
            (try rw [Addr.add_zero'] at hx1045_2)
            (try rw [show ((0 : Int)).toNat = 0 from rfl] at hx1045_3)
            (try rw [show 0 * 6 = 0 from rfl] at hx1045_3)
            (try rw [Addr.add_zero'] at hx1045_3)
            (try rw [show ((0 : Int)).toNat = 0 from rfl] at hx1045_4)
            (try rw [show 0 * 6 = 0 from rfl] at hx1045_4)
            (try rw [Addr.add_zero'] at hx1045_4)
            (try rw [show ((0 : Int)).toNat = 0 from rfl] at hx1045_5)
            (try rw [show 0 * 6 = 0 from rfl] at hx1045_5)
            (try rw [Addr.add_zero'] at hx1045_5)
            replace hx1045_0 := (HB.out.cell (World.block_lt_of_cell? w _ hx1045_0)).trans hx1045_0
            replace hx1045_1 := (HB.out.cell (World.block_lt_of_cell? w _ hx1045_1)).trans hx1045_1
            replace hx1045_2 := (HB.out.cell (World.block_lt_of_cell? w _ hx1045_2)).trans hx1045_2
            replace hx1045_3 := (HB.out.cell (World.block_lt_of_cell? w _ hx1045_3)).trans hx1045_3
            replace hx1045_4 := (HB.out.cell (World.block_lt_of_cell? w _ hx1045_4)).trans hx1045_4
            replace hx1045_5 := (HB.out.cell (World.block_lt_of_cell? w _ hx1045_5)).trans hx1045_5
            have HR1045_1 := Aside0.mk hi1045_1
            have HC1045_1 := Aside0.mk hl1045_1
            clear hi1045_1 hl1045_1
            have HR1045_2 := Aside0.mk hi1045_2
            have HC1045_2 := Aside0.mk hl1045_2
            clear hi1045_2 hl1045_2
            have HR1045_4 := Aside0.mk hi1045_4
            have HC1045_4 := Aside0.mk hl1045_4
            clear hi1045_4 hl1045_4
            have HR1045_5 := Aside0.mk hi1045_5
            have HC1045_5 := Aside0.mk hl1045_5
            clear hi1045_5 hl1045_5
            replace p1045 := eq_true p1045
            replace q1045 := eq_true q1045
            obtain ⟨y35_0, y35_1, u35_0, u35_1⟩ := cells2 BK10.out
            have p1047 : 0 ≤ (((rd_T74 l1 x10_1).f1) : Int) := of_decide_eq_true (by first | (with_reducible assumption) | assumption)
            have q1047 : ((rd_T74 l1 x10_1).f1) < (((rd_T36 l0 0).f4).length : Int) := of_decide_eq_true (by first | (with_reducible assumption) | assumption)
            obtain ⟨ad1047, e1047, hx1047_0⟩ := Kd.at_int HR1045_4.out ((rd_T74 l1 x10_1).f1) p1047 q1047
            cases e1047
            replace hx1047_0 := (HB.out.cell (World.block_lt_of_cell? w _ hx1047_0)).trans hx1047_0
            replace p1047 := eq_true p1047
            replace q1047 := eq_true q1047
            go_wp2_with (first | (go_at_call 123; (with_reducible refine (impl_oneBelow.calls _ _ y1041 (rd ((rd_T36 l0 0).f4) ((rd_T74 l1 x10_1).f1)) true _ ?_ ?_ A32.out).mono ?_); exact (by repeat (first | exact (Kd.C_below HR1044.out HB.out) | (with_reducible refine Kd.C_alloc ?_ _) | (with_reducible refine Kd.C_drewN ?_ _) | (with_reducible refine Kd.C_drew ?_))); exact HC1044.out; rintro e w' ⟨rfl, ⟨nd, rfl⟩⟩; (try first | exact ⟨rfl, _, World.drewN_drewN _ _ _⟩ | exact ⟨rfl, _, Eq.trans (World.drewN_drewN _ _ _) (congrArg (World.drewN _) (Nat.add_assoc _ _ _))⟩)) | ((with_reducible refine qR_ ?_)) | ((with_reducible refine wpQuiet_step (fun K hK => ?_)); go_simp; first | (refine hK _ ?_; clear hK K) | (apply Exists.intro; refine ⟨fun _ => ?_, hK _ ?_⟩)) | ((with_reducible refine wpQuiet_nil ?_); rintro _ ⟨nq, rfl⟩))
            go_roundg kj5
            case measure => have := HK1.out; have := HJ5.out; omega
            case rel => exact ⟨(wrap64 (x10_1 + 1)), (by first | rfl | (simp; done) | (simp [*]; done) | (simp only [i64_w, i32_w]; done) | (simp [i64_w, i32_w]; done)), H', ⟨by have := HK1.out; have := HJ5.out; omega⟩, ⟨by repeat (first | (with_reducible first | exact HB.out | apply below_alloc | apply pw_below_drewN | apply below_drew1 | refine below_set ?_ GE10.out) | exact HB.out)⟩⟩
           ·obtain rfl := Option.some.inj H
            have q36 : (x10_1 : Int) ≤ ((l1.length : Int) : Int) := of_decide_eq_true (by first | (with_reducible assumption) | assumption)
            obtain ⟨i036, hi036, _, hsz36, _⟩ := info_parts info74
            have hroom36 : l1.length ≤ c1 := HC1.out
            have hC36 : Kd.C k74 _ (some ad1034) l1.length l1 := HR1.out
            have ql36 : ((ji26) : Int) ≤ (x10_1 : Int) := of_decide_eq_true (by first | (with_reducible assumption) | assumption)
            have q036 : (0 : Int) ≤ ((ji26) : Int) := of_decide_eq_true (by first | (with_reducible assumption) | assumption)
            have hcut36 := cut_mid (P := Try.prog) 68 74 .i64 .i64 Try.underlying68 hi036 2 hsz36 (some ad1034) l1.length c1 (ji26) x10_1 q036 ql36 q36 hroom36
            have hr36 := Kd.C_mid (lo := ((ji26) : Int).toNat) (hi := (x10_1 : Int).toNat) (c := c1) hC36 (by omega) (by omega) hroom36
            obtain ⟨A36, hA36⟩ : ∃ A_, A_ = (if c1 = ((ji26) : Int).toNat then (some ad1034) else ((some ad1034) : Option Addr).map (·.add (((ji26) : Int).toNat * 2))) := ⟨_, rfl⟩
            obtain ⟨c36, hc36⟩ : ∃ c_, c_ = c1 - ((ji26) : Int).toNat := ⟨_, rfl⟩
            have hy36 : y1041.length = (x10_1 : Int).toNat - ((ji26) : Int).toNat := (by rw [Ny1041.out, List.length_drop, List.length_take] <;> omega)
            rw [show ((l1).take (x10_1 : Int).toNat).drop ((ji26) : Int).toNat = y1041 from Ny1041.out.symm] at hr36
            replace hr36 : Kd.C k74 _ A36 y1041.length y1041 := (by rw [hA36]; exact hr36)
            rw [← hy36, ← hA36, ← hc36] at hcut36
            have HR1044 := Aside0.mk hr36
            have HC1044 := Aside0.mk (show y1041.length ≤ c36 from by rw [hy36, hc36]; exact Nat.sub_le_sub_right (Nat.le_trans (by omega) hroom36) _)
            clear hr36 hC36 hroom36 hi036 hsz36 hc36
            have KY36 := Aside0.mk hy36
            have KA36 := Aside0.mk hA36
            clear hy36 hA36
            replace q36 := eq_true q36
            have p1045 : 0 ≤ (0 : Int) := (by omega)
            have q1045 : 0 < (l0.length : Int) := (by first | exact of_decide_eq_true (by first | (with_reducible assumption) | assumption) | omega)
            obtain ⟨ad1045, A1045_1, c1045_1, A1045_2, c1045_2, A1045_4, c1045_4, A1045_5, c1045_5, e1045, hx1045_0, hx1045_1, hx1045_2, hx1045_3, hx1045_4, hx1045_5, hl1045_1, hi1045_1, hl1045_2, hi1045_2, hl1045_4, hi1045_4, hl1045_5, hi1045_5⟩ := at_T36 HR0.out 0 p1045 q1045
            cases e1045
            have qi1045 : (0 < l0.length) = True := eq_true (by omega)
            (try rw [show ((0 : Int)).toNat = 0 from rfl] at hx1045_0)
            (try rw [show 0 * 6 = 0 from rfl] at hx1045_0)
            (try rw [Addr.add_zero'] at hx1045_0)
            (try rw [show ((0 : Int)).toNat = 0 from rfl] at hx1045_1)
            (try rw [show 0 * 6 = 0 from rfl] at hx1045_1)
            (try rw [Addr.add_zero'] at hx1045_1)
            (try rw [show ((0 : Int)).toNat = 0 from rfl] at hx1045_2)
            (try rw [show 0 * 6 = 0 from rfl] at hx1045_2)
            (try rw [Addr.add_zero'] at hx1045_2)
            (try rw [show ((0 : Int)).toNat = 0 from rfl] at hx1045_3)
            (try rw [show 0 * 6 = 0 from rfl] at hx1045_3)
            (try rw [Addr.add_zero'] at hx1045_3)
            (try rw [show ((0 : Int)).toNat = 0 from rfl] at hx1045_4)
            (try rw [show 0 * 6 = 0 from rfl] at hx1045_4)
            (try rw [Addr.add_zero'] at hx1045_4)
            (try rw [show ((0 : Int)).toNat = 0 from rfl] at hx1045_5)
            (try rw [show 0 * 6 = 0 from rfl] at hx1045_5)
            (try rw [Addr.add_zero'] at hx1045_5)
            replace hx1045_0 := (HB.out.cell (World.block_lt_of_cell? w _ hx1045_0)).trans hx1045_0
            replace hx1045_1 := (HB.out.cell (World.block_lt_of_cell? w _ hx1045_1)).trans hx1045_1
            replace hx1045_2 := (HB.out.cell (World.block_lt_of_cell? w _ hx1045_2)).trans hx1045_2
            replace hx1045_3 := (HB.out.cell (World.block_lt_of_cell? w _ hx1045_3)).trans hx1045_3
            replace hx1045_4 := (HB.out.cell (World.block_lt_of_cell? w _ hx1045_4)).trans hx1045_4
            replace hx1045_5 := (HB.out.cell (World.block_lt_of_cell? w _ hx1045_5)).trans hx1045_5
            have HR1045_1 := Aside0.mk hi1045_1
            have HC1045_1 := Aside0.mk hl1045_1
            clear hi1045_1 hl1045_1
            have HR1045_2 := Aside0.mk hi1045_2
            have HC1045_2 := Aside0.mk hl1045_2
            clear hi1045_2 hl1045_2
            have HR1045_4 := Aside0.mk hi1045_4
            have HC1045_4 := Aside0.mk hl1045_4
            clear hi1045_4 hl1045_4
            have HR1045_5 := Aside0.mk hi1045_5
            have HC1045_5 := Aside0.mk hl1045_5
            clear hi1045_5 hl1045_5
            replace p1045 := eq_true p1045
            replace q1045 := eq_true q1045
            obtain ⟨y37_0, y37_1, u37_0, u37_1⟩ := cells2 BK10.out
            have p1047 : 0 ≤ (((rd_T74 l1 x10_1).f1) : Int) := of_decide_eq_true (by first | (with_reducible assumption) | assumption)
            have q1047 : ((rd_T74 l1 x10_1).f1) < (((rd_T36 l0 0).f4).length : Int) := of_decide_eq_true (by first | (with_reducible assumption) | assumption)
            obtain ⟨ad1047, e1047, hx1047_0⟩ := Kd.at_int HR1045_4.out ((rd_T74 l1 x10_1).f1) p1047 q1047
            cases e1047
            replace hx1047_0 := (HB.out.cell (World.block_lt_of_cell? w _ hx1047_0)).trans hx1047_0
            replace p1047 := eq_true p1047
            replace q1047 := eq_true q1047
            go_wp2_with (first | (go_at_call 123; (with_reducible refine (impl_oneBelow.calls _ _ y1041 (rd ((rd_T36 l0 0).f4) ((rd_T74 l1 x10_1).f1)) false _ ?_ ?_ A32.out).mono ?_); exact (by repeat (first | exact (Kd.C_below HR1044.out HB.out) | (with_reducible refine Kd.C_alloc ?_ _) | (with_reducible refine Kd.C_drewN ?_ _) | (with_reducible refine Kd.C_drew ?_))); exact HC1044.out; rintro e w' ⟨rfl, ⟨nd, rfl⟩⟩; (try first | exact ⟨rfl, _, World.drewN_drewN _ _ _⟩ | exact ⟨rfl, _, Eq.trans (World.drewN_drewN _ _ _) (congrArg (World.drewN _) (Nat.add_assoc _ _ _))⟩)) | ((with_reducible refine qR_ ?_)) | ((with_reducible refine wpQuiet_step (fun K hK => ?_)); go_simp; first | (refine hK _ ?_; clear hK K) | (apply Exists.intro; refine ⟨fun _ => ?_, hK _ ?_⟩)) | ((with_reducible refine wpQuiet_nil ?_); rintro _ ⟨nq, rfl⟩))
            go_ret
            exact ⟨by first | rfl | (simp [errW_none, errW_some] <;> rfl) | (simp only [← hji26]; first | rfl | (simp [errW_none, errW_some] <;> rfl)) | (simp [*, errW_none, errW_some] <;> rfl), by repeat (first | (with_reducible first | exact HB.out | apply below_alloc | apply pw_below_drewN | apply below_drew1 | refine below_set ?_ GE10.out) | exact HB.out)⟩
          ·rw [if_neg c29] at H
           exact absurd H (by simp)
         ·rw [if_neg c28] at H
          exact absurd H (by simp)
        ·rw [if_neg c27] at H
         exact absurd H (by simp)
       ·rw [if_neg c25] at H
        have c25b0 : (((rd_T74 l1 x10_1).f0) == 2) = false := beq_eq_false_iff_ne.mpr c25
        have c25b1 : (((rd_T74 l1 x10_1).f0) != 2) = true := bne_iff_ne.mpr c25
        have H' := Aside0.mk H
        clear H
        go_wp2_with (first | ((with_reducible refine qR_ ?_)) | ((with_reducible refine wpQuiet_step (fun K hK => ?_)); go_simp; first | (refine hK _ ?_; clear hK K) | (apply Exists.intro; refine ⟨fun _ => ?_, hK _ ?_⟩)) | ((with_reducible refine wpQuiet_nil ?_); rintro _ ⟨nq, rfl⟩))
        go_roundg kj5
        case measure => have := HK1.out; have := HJ5.out; omega
        case rel => exact ⟨(wrap64 (x10_1 + 1)), (by first | rfl | (simp; done) | (simp [*]; done) | (simp only [i64_w, i32_w]; done) | (simp [i64_w, i32_w]; done)), H', ⟨by have := HK1.out; have := HJ5.out; omega⟩, ⟨by repeat (first | (with_reducible first | exact HB.out | apply below_alloc | apply pw_below_drewN | apply below_drew1 | refine below_set ?_ GE10.out) | exact HB.out)⟩⟩
   ·obtain rfl := Option.some.inj H
    go_wp2_with (first | ((with_reducible refine qR_ ?_)) | ((with_reducible refine wpQuiet_step (fun K hK => ?_)); go_simp; first | (refine hK _ ?_; clear hK K) | (apply Exists.intro; refine ⟨fun _ => ?_, hK _ ?_⟩)) | ((with_reducible refine wpQuiet_nil ?_); rintro _ ⟨nq, rfl⟩))
    go_ret
    exact ⟨by first | rfl | (simp [errW_none, errW_some] <;> rfl) | (simp [*, errW_none, errW_some] <;> rfl), by repeat (first | (with_reducible first | exact HB.out | apply below_alloc | apply pw_below_drewN | apply below_drew1) | exact HB.out)⟩

/-! ### impl_MayTrap: function 53 -/
theorem impl_MayTrap.box_T36 {w : World} {g : Nat} {x : S36} {A1 : Option Addr} {c1 : Nat} {A2 : Option Addr} {c2 : Nat} {A4 : Option Addr} {c4 : Nat} {A5 : Option Addr} {c5 : Nat} (hb : w.heap[g]? = some (.cells #[.int .i64 x.f0, .slice A1 x.f1.length c1, .slice A2 x.f2.length c2, .int .i64 x.f3, .slice A4 x.f4.length c4, .slice A5 x.f5.length c5] 36 (0, 0))) (l1 : x.f1.length ≤ c1) (g1 : Kd.C k106 w A1 x.f1.length x.f1) (l2 : x.f2.length ≤ c2) (g2 : Kd.C k106 w A2 x.f2.length x.f2) (l4 : x.f4.length ≤ c4) (g4 : Kd.C (Kd.int .i64) w A4 x.f4.length x.f4) (l5 : x.f5.length ≤ c5) (g5 : Kd.C k114 w A5 x.f5.length x.f5) : Kd.C k36 w (some ⟨g, 0, none⟩) ([x] : List S36).length [x] := by
 refine ⟨rfl, show (1 : Nat) ≤ 9223372036854775807 from ψ13, fun _ => ⟨_, rfl, fun j p hj => ?_⟩⟩
 match j, hj with
 | 0, hj =>
  cases hj
  refine ⟨_, rfl, k36_mk w x l1 g1 l2 g2 l4 g4 l5 g5, fun i u hu => ?_⟩
  match i, hu with
  | 0, hu => cases hu; exact (blk_cell hb 0).trans rfl
  | 1, hu => cases hu; exact (blk_cell hb 1).trans rfl
  | 2, hu => cases hu; exact (blk_cell hb 2).trans rfl
  | 3, hu => cases hu; exact (blk_cell hb 3).trans rfl
  | 4, hu => cases hu; exact (blk_cell hb 4).trans rfl
  | 5, hu => cases hu; exact (blk_cell hb 5).trans rfl
  | i + 6, hu => simp at hu
 | j + 1, hj => simp at hj
def impl_MayTrap.f (k : Nat) (a0_0 : Int) (l0_1 : List (S106)) (l0_2 : List (S106)) (a0_3 : Int) (l0_4 : List Int) (l0_5 : List (S114)) (l1 : List (S74)) : Option (Bool) := (impl_ProgOk.f k a0_0 l0_1 l0_2 a0_3 l0_4 l0_5).bind fun t1051 => (if t1051 = true then ((impl_mayStand.f k [(⟨a0_0, l0_1, l0_2, a0_3, l0_4, l0_5⟩ : S36)] l1).bind fun t1052 => (if t1052 = true then ((impl_expTraps.f k [(⟨a0_0, l0_1, l0_2, a0_3, l0_4, l0_5⟩ : S36)] l1).bind fun t1053 => (some t1053)) else (some false))) else (some false))
theorem τ84 {P : Prop} (h : P := by
 obtain rfl := Option.some.inj H
 go_enter Try.func53, Try.ntmps53
 go_wp2_with (first | ((with_reducible refine gate_dst (N := 2) rfl ?_); refine bE 2 #[.int .i64 a0_0, .slice A0_1 l0_1.length c0_1, .slice A0_2 l0_2.length c0_2, .int .i64 a0_3, .slice A0_4 l0_4.length c0_4, .slice A0_5 l0_5.length c0_5] 36 ?_; intro gb10 hg w1_ hbox hb; have q := n4_ (below_step ψ2 hb) (hbox) ((ψ113 : w.heap.size ≤ gb10)) ((ψ113 : w.heap.size ≤ gb10)); clear HB; obtain ⟨HB, BK10, GW10, GE10⟩ := q; clear hb hbox hg; obtain ⟨hczB10_0, hczB10_1, hczB10_2, hczB10_3, hczB10_4, hczB10_5, hfzB10_0, hfzB10_1, hfzB10_2, hfzB10_3, hfzB10_4, hfzB10_5⟩ := cells6 BK10.out) | ((with_reducible refine gate_callee (f := 74) rfl ?_); refine gL 6 Try.func74 #[.agg #[.int .i64 a0_0, .slice A0_1 l0_1.length c0_1, .slice A0_2 l0_2.length c0_2, .int .i64 a0_3, .slice A0_4 l0_4.length c0_4, .slice A0_5 l0_5.length c0_5]] ?_; (with_reducible refine (impl_ProgOk.calls k a0_0 _ _ l0_1 _ _ l0_2 a0_3 _ _ l0_4 _ _ l0_5 _ _ ?_ ?_ ?_ ?_ ?_ ?_ ?_ ?_ A3.out).mono ?_); exact ψ9; exact HC0_1.out; exact ψ3; exact HC0_2.out; exact ψ16; exact HC0_4.out; exact ψ17; exact HC0_5.out; rintro e w2_ ⟨rfl, hb⟩; refine ⟨_, rfl, ?_⟩; have q := n2_ (blk_below (g := gb10) ψ10 hb) (below_step ψ2 hb); clear BK10 HB; obtain ⟨BK10, HB⟩ := q; (try clear hb)) | (go_at_call 99; (with_reducible refine (impl_mayStand.calls k _ 1 [(⟨a0_0, l0_1, l0_2, a0_3, l0_4, l0_5⟩ : S36)] _ _ l1 _ _ ?_ ?_ ?_ ?_ ?_ A5.out).mono ?_); exact rfl; exact ψ197; exact Nat.le_refl 1; exact ψ23; exact HC1.out; rintro e w3_ ⟨rfl, hb⟩; have q := n2_ (blk_below (g := gb10) ψ10 hb) (below_step ψ2 hb); clear BK10 HB; obtain ⟨BK10, HB⟩ := q; (try clear hb)) | (go_at_call 100; (with_reducible refine (impl_expTraps.calls k _ 1 [(⟨a0_0, l0_1, l0_2, a0_3, l0_4, l0_5⟩ : S36)] _ _ l1 _ _ ?_ ?_ ?_ ?_ ?_ A7.out).mono ?_); exact rfl; exact ψ197; exact Nat.le_refl 1; exact ψ23; exact HC1.out; rintro e w4_ ⟨rfl, hb⟩; have q := n2_ (blk_below (g := gb10) ψ10 hb) (below_step ψ2 hb); clear BK10 HB; obtain ⟨BK10, HB⟩ := q; (try clear hb)))
 go_ret
 exact ⟨ψ4, ψ2⟩) : P := h
theorem impl_MayTrap.calls (k : Nat) (a0_0 : Int) (A0_1 : Option Addr) (c0_1 : Nat) (l0_1 : List (S106)) (A0_2 : Option Addr) (c0_2 : Nat) (l0_2 : List (S106)) (a0_3 : Int) (A0_4 : Option Addr) (c0_4 : Nat) (l0_4 : List Int) (A0_5 : Option Addr) (c0_5 : Nat) (l0_5 : List (S114)) (A1 : Option Addr) (c1 : Nat) (l1 : List (S74)) (r : Bool) (w : World) (hr0_1 : Kd.C k106 w A0_1 l0_1.length l0_1) (hc0_1 : l0_1.length ≤ c0_1) (hr0_2 : Kd.C k106 w A0_2 l0_2.length l0_2) (hc0_2 : l0_2.length ≤ c0_2) (hr0_4 : Kd.C (Kd.int .i64) w A0_4 l0_4.length l0_4) (hc0_4 : l0_4.length ≤ c0_4) (hr0_5 : Kd.C k114 w A0_5 l0_5.length l0_5) (hc0_5 : l0_5.length ≤ c0_5) (hr1 : Kd.C k74 w A1 l1.length l1) (hc1 : l1.length ≤ c1) (h : impl_MayTrap.f k a0_0 l0_1 l0_2 a0_3 l0_4 l0_5 l1 = some r) :
 Calls Try.prog 53 #[.agg #[.int .i64 a0_0, .slice A0_1 l0_1.length c0_1, .slice A0_2 l0_2.length c0_2, .int .i64 a0_3, .slice A0_4 l0_4.length c0_4, .slice A0_5 l0_5.length c0_5], .slice A1 l1.length c1] w fun e w' => e = .returned (.bool r) ∧ Below w.heap.size w w' := by
 have hu36 := Try.underlying36
 have q := n10_ hr0_1 hc0_1 hr0_2 hc0_2 hr0_4 hc0_4 hr0_5 hc0_5 hr1 hc1
 clear hr0_1 hc0_1 hr0_2 hc0_2 hr0_4 hc0_4 hr0_5 hc0_5 hr1 hc1
 obtain ⟨HR0_1, HC0_1, HR0_2, HC0_2, HR0_4, HC0_4, HR0_5, HC0_5, HR1, HC1⟩ := q
 have HB := Aside0.mk (Below.refl w.heap.size w)
 unfold impl_MayTrap.f at h
 have H := h
 clear h
 replace H := bS H; obtain ⟨t1051, A3, H⟩ := H
 replace H := ifB H; rcases H with ⟨rfl, H⟩ | ⟨rfl, H⟩
 ·replace H := bS H; obtain ⟨t1052, A5, H⟩ := H
  replace H := ifB H; rcases H with ⟨rfl, H⟩ | ⟨rfl, H⟩
  ·replace H := bS H; obtain ⟨t1053, A7, H⟩ := H
   exact τ84
  ·exact τ84
 ·exact τ84

/-! ### spec_l2First: function 125 -/
def spec_l2First.l0 : Nat → List (S74) → Int → Int → Option (Int)
 | 0, _, _, _ => none
 | k + 1, x0, x5, x6 => if x6 ≥ 0 then (if 0 ≤ x6 then (if x6 < (x0.length : Int) then ((spec_TakesOf.f ((rd_T74 x0 x6).f0)).bind fun t1055 => (if (wrap64 ((wrap64 (x5 - 1)) + t1055)) = 0 then (some x6) else (spec_l2First.l0 k x0 (wrap64 ((wrap64 (x5 - 1)) + t1055)) (wrap64 (x6 - 1))))) else (none)) else (none)) else (some 0)
def spec_l2First.f (k : Nat) (l0 : List (S74)) (a1 : Int) : Option (Int) := spec_l2First.l0 k l0 1 a1
theorem τ85 {P : Prop} (h : P := by
 first | obtain rfl := Option.some.inj H | (have H' := Aside0.mk H; clear H)
 try (have p1054 : 0 ≤ (x6_1 : Int) := of_decide_eq_true ψ5; have q1054 : x6_1 < (l0.length : Int) := of_decide_eq_true ψ5; obtain ⟨ad1054, e1054, hx1054_0, hx1054_1⟩ := at_T74 HR0.out x6_1 p1054 q1054; cases e1054; replace hx1054_0 := cB HB hx1054_0; replace hx1054_1 := cB HB hx1054_1; replace p1054 := eq_true p1054; replace q1054 := eq_true q1054)
 go_wp2_with (first | ((with_reducible refine gate_callee (f := 128) rfl ?_); refine gL 19 Try.func128 #[.int .i64 ((rd_T74 l0 x6_1).f0)] ?_; (with_reducible refine (spec_TakesOf.calls ((rd_T74 l0 x6_1).f0) _ _ A6.out).mono ?_); rintro e w1_ ⟨rfl, hb⟩; refine ⟨_, rfl, ?_⟩; replace HB := Aside0.mk (below_step ψ6 hb); (try clear hb)))
 first | (go_ret; exact ⟨ψ4, ψ6⟩) | (go_roundg k1; (case measure => have := HK1.out; omega); (case rel => exact ⟨(wrap64 ((wrap64 (x5_1 - 1)) + t1055)), (wrap64 (x6_1 - 1)), ψ7, ψ7, H', ⟨ψ8⟩, ⟨ψ6⟩⟩))) : P := h
theorem spec_l2First.calls (k : Nat) (A0 : Option Addr) (c0 : Nat) (l0 : List (S74)) (a1 : Int) (r : Int) (w : World) (hr0 : Kd.C k74 w A0 l0.length l0) (hc0 : l0.length ≤ c0) (h : spec_l2First.f k l0 a1 = some r) :
 Calls Try.prog 125 #[.slice A0 l0.length c0, .int .i64 a1] w fun e w' => e = .returned (.int .i64 r) ∧ Below w.heap.size w w' := by
 have q := n2_ hr0 hc0
 clear hr0 hc0
 obtain ⟨HR0, HC0⟩ := q
 have HB := Aside0.mk (Below.refl w.heap.size w)
 unfold spec_l2First.f at h
 have H := h
 clear h
 have H' := Aside0.mk H
 clear H
 go_enter Try.func125, Try.ntmps125
 go_wp2
 go_loopg [5, 6] k (fun kq v5 v6 w' => ∃ (x5_1 : Int) (x6_1 : Int), v5 = .int .i64 x5_1 ∧ v6 = .int .i64 x6_1 ∧ Aside0 (spec_l2First.l0 kq l0 x5_1 x6_1 = some r) ∧ Aside0 (kq ≤ k) ∧ Aside0 (Below w.heap.size w w'))
 case atStart => exact ⟨(1), (a1), ψ7, ψ7, H', ⟨Nat.le_refl _⟩, ⟨ψ6⟩⟩
 case round =>
  clear H'
  obtain ⟨x5_1, x6_1, rfl, rfl, HA, HK1, HB⟩ := hrel
  cases gk with
  | zero => exact absurd HA.out (by simp [spec_l2First.l0])
  | succ k1 =>
   have H := HA.out
   clear HA
   simp only [spec_l2First.l0] at H
   replace H := ifL H; rcases H with ⟨c3b0, H⟩ | ⟨c3b0, H⟩
   ·replace H := ifN H; obtain ⟨c4b0, H⟩ := H
    replace H := ifN H; obtain ⟨c5b0, H⟩ := H
    replace H := bS H; obtain ⟨t1055, A6, H⟩ := H
    replace H := ifF H; rcases H with ⟨c7b0, c7b1, H⟩ | ⟨c7b0, c7b1, c7, H⟩
    ·exact τ85
    ·exact τ85
   ·exact τ85

/-! ### spec_l2Copy: function 142 -/
def spec_l2Copy.f (l0 : List (S74)) : Option ((List (S74))) := (some (([] : List (S74)) : List (S74))).bind fun y1056 => (if y1056.length + l0.length < 8796093022208 then (some (y1056 ++ l0)) else (none))
theorem spec_l2Copy.calls (A0 : Option Addr) (c0 : Nat) (l0 : List (S74)) (r : List (S74)) (w : World) (hr0 : Kd.C k74 w A0 l0.length l0) (hc0 : l0.length ≤ c0) (h : spec_l2Copy.f l0 = some r) :
 Calls Try.prog 142 #[.slice A0 l0.length c0] w fun e w' => ∃ v0_ : Value, e = .returned (v0_) ∧ Kd.R k74 74 w' w.heap.size (fun _ => True) v0_ r ∧ Below w.heap.size w w' := by
 have q := n2_ hr0 hc0
 clear hr0 hc0
 obtain ⟨HR0, HC0⟩ := q
 have HB := Aside0.mk (Below.refl w.heap.size w)
 unfold spec_l2Copy.f at h
 have H := h
 clear h
 obtain ⟨y1056, hy1056⟩ : ∃ y_ : List (S74), y_ = (([] : List (S74))) := ⟨_, rfl⟩
 replace H : (if y1056.length + l0.length < 8796093022208 then (some (y1056 ++ l0)) else (none)) = some r := by first | (rw [hy1056]; with_reducible exact H) | (have H2_ := (Option.bind_some _ _).symm.trans H; rw [hy1056]; with_reducible exact H2_) | (have H2_ := (Option.bind_some _ _).symm.trans H; with_reducible exact H2_) | with_reducible exact H | (rw [hy1056]; exact H) | exact H
 have Ny1056 := Aside0.mk hy1056
 clear hy1056
 by_cases c2 : y1056.length + l0.length < 8796093022208
 ·rw [if_pos c2] at H
  have LMc2 := Aside0.mk c2
  clear c2
  obtain ⟨y1059, hy1059⟩ : ∃ y_ : List (S74), y_ = (y1056 ++ l0) := ⟨_, rfl⟩
  replace H : (some y1059) = some r := by first | (rw [hy1059]; with_reducible exact H) | (have H2_ := (Option.bind_some _ _).symm.trans H; rw [hy1059]; with_reducible exact H2_) | (have H2_ := (Option.bind_some _ _).symm.trans H; with_reducible exact H2_) | with_reducible exact H | (rw [hy1059]; exact H) | exact H
  have Ny1059 := Aside0.mk hy1059
  clear hy1059
  obtain rfl := Option.some.inj H
  go_enter Try.func142, Try.ntmps142
  go_wp2_with (first | ((with_reducible refine gate_dst (N := 3) rfl ?_); refine Kd.R_lit k74 _ 74 ?hg (N := 3) ?hd (xs := ([] : List (S74))) (inner := []) (ok := fun _ => True) (okp := fun _ => True) ?hr ?hp (fun _ hk => hk) trivial (Below.refl _ _) (Nat.le_refl _) ψ22 ?_; (case hd => rfl); (case hg => rfl); (case hr => first | (go_simp; done) | (go_simp; rfl)); (case hp => exact (Reps.none _ _)); intro v1057 w3 ho4 hb hg_ hnew_; clear hg_ hnew_; (first | rw [← Ny1056.out] at ho4 | (simp only [Int.reduceToNat] at ho4; rw [← Ny1056.out] at ho4)); have q := n2_ (Kd.R_lower ho4 (below_size ψ6)) (below_step ψ6 hb); clear HB; obtain ⟨HO1058, HB⟩ := q; clear hb ho4) | ((with_reducible refine gate_builtin (b := .append) (xs := #[.tmp 3, .tmp 4]) rfl ?_); at_builtin; refine Kd.R_append_rows k74 (w0 := w) w.heap.size rfl (.tmp 3) (.tmp 4) 68 74 (.agg #[(.int .i64 0), (.int .i64 0)]) 16 rfl Try.underlying68 info74 rfl ψ13 ψ21 v1057 y1056 l0 _ _ _ (fun _ => True) (fun _ => False) rfl rfl ?aO ?aR (fun _ _ h => h) (fun _ h => h.elim) ?aF ?aB ?aS ?aL ?_; (case aR => repeat (first | exact (Kd.C_below HR0.out HB.out) | (with_reducible refine Kd.C_alloc ?_ _) | (with_reducible refine Kd.C_drewN ?_ _) | (with_reducible refine Kd.C_drew ?_))); (case aB => exact ψ6); (case aF => exact (fun _ _ => trivial)); (case aO => exact (have hZ := HO1058; kR_)); (case aS => exact (below_size ψ6)); (case aL => have := LMc2.out; omega); intro v1060 w5 ho hb hg hat; rw [← Ny1059.out] at ho; have q := n2_ (hb) (ho); clear HB HO1058; obtain ⟨HB, HO1061⟩ := q; clear ho hb hg hat))
  go_ret
  exact ⟨_, ψ4, by (with_reducible repeat (first | apply Kd.R_alloc | apply Kd.R_drewN | apply Kd.R_drew)); exact HO1061.out, ψ6⟩
 ·rw [if_neg c2] at H
  exact absurd H ψ22

/-! ### spec_PartsOf: function 124 -/
def spec_PartsOf.l0 : Nat → List (S74) → List (List (S74)) → Int → Int → Option ((List (List (S74))))
 | 0, _, _, _, _ => none
 | k + 1, x0, x3, x4, x5 => if x5 > 0 then ((spec_l2First.f k x0 x4).bind fun t1068 => (if 0 ≤ t1068 then (if t1068 ≤ (wrap64 (x4 + 1)) then (if (wrap64 (x4 + 1)) ≤ (x0.length : Int) then ((spec_l2Copy.f ((x0.take ((wrap64 (x4 + 1)) : Int).toNat).drop (t1068 : Int).toNat)).bind fun t1073 => ((some (([t1073] : List (List (S74))) : List (List (S74)))).bind fun y1076 => (if y1076.length + x3.length < 5864062014805 then (spec_PartsOf.l0 k x0 (y1076 ++ x3) (wrap64 (t1068 - 1)) (wrap64 (x5 - 1))) else (none)))) else (none)) else (none)) else (none))) else (some x3)
def spec_PartsOf.f (k : Nat) (l0 : List (S74)) : Option ((List (List (S74)))) := (some (([] : List (List (S74))) : List (List (S74)))).bind fun y1062 => ((spec_ExpOk.f k l0).bind fun t1065 => (if t1065 = true then (if 0 ≤ (wrap64 ((l0.length : Int) - 1)) then (if (wrap64 ((l0.length : Int) - 1)) < (l0.length : Int) then ((spec_TakesOf.f ((rd_T74 l0 (wrap64 ((l0.length : Int) - 1))).f0)).bind fun t1067 => (spec_PartsOf.l0 k l0 y1062 (wrap64 ((l0.length : Int) - 2)) t1067)) else (none)) else (none)) else (some y1062)))
theorem spec_PartsOf.calls (k : Nat) (A0 : Option Addr) (c0 : Nat) (l0 : List (S74)) (r : List (List (S74))) (w : World) (hr0 : Kd.C k74 w A0 l0.length l0) (hc0 : l0.length ≤ c0) (h : spec_PartsOf.f k l0 = some r) :
 Calls Try.prog 124 #[.slice A0 l0.length c0] w fun e w' => ∃ v0_ : Value, e = .returned (v0_) ∧ Kd.N (Kd.slice 74 k74) 68 w' w.heap.size (fun k_ => (w.heap.size ≤ k_)) v0_ r ∧ Below w.heap.size w w' := by
 have q := n2_ hr0 hc0
 clear hr0 hc0
 obtain ⟨HR0, HC0⟩ := q
 have HB := Aside0.mk (Below.refl w.heap.size w)
 unfold spec_PartsOf.f at h
 have H := h
 clear h
 obtain ⟨y1062, hy1062⟩ : ∃ y_ : List (List (S74)), y_ = (([] : List (List (S74)))) := ⟨_, rfl⟩
 replace H : ((spec_ExpOk.f k l0).bind fun t1065 => (if t1065 = true then (if 0 ≤ (wrap64 ((l0.length : Int) - 1)) then (if (wrap64 ((l0.length : Int) - 1)) < (l0.length : Int) then ((spec_TakesOf.f ((rd_T74 l0 (wrap64 ((l0.length : Int) - 1))).f0)).bind fun t1067 => (spec_PartsOf.l0 k l0 y1062 (wrap64 ((l0.length : Int) - 2)) t1067)) else (none)) else (none)) else (some y1062))) = some r := by first | (rw [hy1062]; with_reducible exact H) | (have H2_ := (Option.bind_some _ _).symm.trans H; rw [hy1062]; with_reducible exact H2_) | (have H2_ := (Option.bind_some _ _).symm.trans H; with_reducible exact H2_) | with_reducible exact H | (rw [hy1062]; exact H) | exact H
 have Ny1062 := Aside0.mk hy1062
 clear hy1062
 replace H := bS H; obtain ⟨t1065, A2, H⟩ := H
 replace H := ifB H; rcases H with ⟨rfl, H⟩ | ⟨rfl, H⟩
 ·obtain ⟨ji4, hji4⟩ : ∃ j_ : Int, (wrap64 ((l0.length : Int) - 1)) = j_ := ⟨_, rfl⟩
  replace H : (if 0 ≤ (ji4) then (if (ji4) < (l0.length : Int) then ((spec_TakesOf.f ((rd_T74 l0 (ji4)).f0)).bind fun t1067 => (spec_PartsOf.l0 k l0 y1062 (wrap64 ((l0.length : Int) - 2)) t1067)) else (none)) else (none)) = some r := by first | (rw [hji4] at H; exact H) | (simp only [hji4] at H ⊢; exact H)
  (try rw [hji4] at A2)
  have hji4w : (IntKind.i64.wrap ((l0.length : Int) - 1)) = ji4 := (i64_w _).trans hji4
  replace H := ifN H; obtain ⟨c5b0, H⟩ := H
  replace H := ifN H; obtain ⟨c6b0, H⟩ := H
  replace H := bS H; obtain ⟨t1067, A7, H⟩ := H
  have H' := Aside0.mk H
  clear H
  go_enter Try.func124, Try.ntmps124
  go_wp2_with (first | ((with_reducible refine gate_dst (N := 7) rfl ?_); refine Kd.N_lit (Kd.slice 74 k74) _ 68 ?hg (N' := 7) ?hd (xs := ([] : List (List (S74)))) (inner := []) (ok := (fun k_ => (w.heap.size ≤ k_))) (okp := (fun k_ => (w.heap.size ≤ k_))) ?hr ?hp (fun _ hk => hk) ((show ∀ k_, w.heap.size ≤ k_ → (fun k_ => (w.heap.size ≤ k_)) k_ from fun k_ hk => (Nat.le_trans (below_size ψ6) hk)) _ (Nat.le_refl _)) (Below.refl _ _) (Nat.le_refl _) ψ22 ?_; (case hd => rfl); (case hg => rfl); (case hr => first | (go_simp; done) | (go_simp; rfl)); (case hp => exact (Reps.none _ _)); intro v1063 w8 ho9 hb hg_ hnew_; clear hg_ hnew_; (first | rw [← Ny1062.out] at ho9 | (simp only [Int.reduceToNat] at ho9; rw [← Ny1062.out] at ho9)); have q := n2_ (Kd.N_lower ho9 (below_size ψ6)) (below_step ψ6 hb); clear HB; obtain ⟨HO1064, HB⟩ := q; clear hb ho9) | ((with_reducible refine gate_callee (f := 127) rfl ?_); refine gL 9 Try.func127 #[.slice A0 l0.length c0] ?_; (with_reducible refine (spec_ExpOk.calls k _ _ l0 _ _ ?_ ?_ A2.out).mono ?_); exact ψ32; exact HC0.out; rintro e w10 ⟨rfl, hb⟩; refine ⟨_, rfl, ?_⟩; have q := n2_ (Kd.N_below (have hZ := HO1064; kN_) hb) (below_step ψ6 hb); clear HO1064 HB; obtain ⟨HO1064, HB⟩ := q; (try clear hb); have p1066 : 0 ≤ ((ji4) : Int) := of_decide_eq_true ψ5; have q1066 : (ji4) < (l0.length : Int) := of_decide_eq_true ψ5; obtain ⟨ad1066, e1066, hx1066_0, hx1066_1⟩ := at_T74 HR0.out (ji4) p1066 q1066; cases e1066; replace hx1066_0 := cB HB hx1066_0; replace hx1066_1 := cB HB hx1066_1; replace p1066 := eq_true p1066; replace q1066 := eq_true q1066) | ((with_reducible refine gate_callee (f := 128) rfl ?_); refine goesL_ (some 22) rfl rfl Try.func128 ψ12 rfl #[.int .i64 ((rd_T74 l0 (ji4)).f0)] rfl (by (try simp only [List.map_toArray, List.map_cons, List.map_nil]); first | done | (simp only [hji4]; rfl) | rfl | (simp only [List.length_drop, List.length_take]; rfl)) ?_; (with_reducible refine (spec_TakesOf.calls ((rd_T74 l0 (ji4)).f0) _ _ A7.out).mono ?_); rintro e w11 ⟨rfl, hb⟩; refine ⟨_, rfl, ?_⟩; have q := n2_ (Kd.N_below (have hZ := HO1064; kN_) hb) (below_step ψ6 hb); clear HO1064 HB; obtain ⟨HO1064, HB⟩ := q; (try clear hb)))
  go_loopg [3, 4, 5] k (fun kq v3 v4 v5 w' => ∃ (x3_1 : List (List (S74))) (x4_1 : Int) (x5_1 : Int), v4 = .int .i64 x4_1 ∧ v5 = .int .i64 x5_1 ∧ Aside0 (spec_PartsOf.l0 kq l0 x3_1 x4_1 x5_1 = some r) ∧ Aside0 (kq ≤ k) ∧ Aside0 (Kd.N (Kd.slice 74 k74) 68 w' w.heap.size (fun k_ => (w.heap.size ≤ k_)) v3 x3_1) ∧ Aside0 (Below w.heap.size w w'))
  case atStart => exact ⟨(y1062), (wrap64 ((l0.length : Int) - 2)), (t1067), ψ7, ψ7, H', ⟨Nat.le_refl _⟩, ⟨have hZ := HO1064; kN_⟩, ⟨ψ6⟩⟩
  case round =>
   clear H'
   try clear c3
   try clear c5
   try clear c5b0
   try clear c6
   try clear c6b0
   try clear hx1066_0
   try clear hx1066_1
   try clear p1066
   try clear q1066
   obtain ⟨x3_1, x4_1, x5_1, rfl, rfl, HA, HK1, HO_3, HB⟩ := hrel
   cases gk with
   | zero => exact absurd HA.out (by simp [spec_PartsOf.l0])
   | succ k1 =>
    have H := HA.out
    clear HA
    simp only [spec_PartsOf.l0] at H
    replace H := ifG H; rcases H with ⟨c12b0, H⟩ | ⟨c12b0, H⟩
    ·replace H := bS H; obtain ⟨t1068, A13, H⟩ := H
     by_cases c14 : 0 ≤ t1068
     ·rw [if_pos c14] at H
      have c14b0 := eq_true c14
      have c14b1 : decide (0 ≤ t1068) = true := decide_eq_true c14
      clear c14
      by_cases c15 : t1068 ≤ (wrap64 (x4_1 + 1))
      ·rw [if_pos c15] at H
       have c15b0 := eq_true c15
       have c15b1 : decide (t1068 ≤ (wrap64 (x4_1 + 1))) = true := decide_eq_true c15
       by_cases c16 : (wrap64 (x4_1 + 1)) ≤ (l0.length : Int)
       ·rw [if_pos c16] at H
        have c16b0 := eq_true c16
        have c16b1 : decide ((wrap64 (x4_1 + 1)) ≤ (l0.length : Int)) = true := decide_eq_true c16
        obtain ⟨y1069, hy1069⟩ : ∃ y_ : List (S74), y_ = ((l0.take ((wrap64 (x4_1 + 1)) : Int).toNat).drop (t1068 : Int).toNat) := ⟨_, rfl⟩
        replace H : ((spec_l2Copy.f y1069).bind fun t1073 => ((some (([t1073] : List (List (S74))) : List (List (S74)))).bind fun y1076 => (if y1076.length + x3_1.length < 5864062014805 then (spec_PartsOf.l0 k1 l0 (y1076 ++ x3_1) (wrap64 (t1068 - 1)) (wrap64 (x5_1 - 1))) else (none)))) = some r := by first | (rw [hy1069]; with_reducible exact H) | (have H2_ := (Option.bind_some _ _).symm.trans H; rw [hy1069]; with_reducible exact H2_) | (have H2_ := (Option.bind_some _ _).symm.trans H; with_reducible exact H2_) | with_reducible exact H | (rw [hy1069]; exact H) | exact H
        have Ny1069 := Aside0.mk hy1069
        clear hy1069
        replace H := bS H; obtain ⟨t1073, A17, H⟩ := H
        obtain ⟨y1076, hy1076⟩ : ∃ y_ : List (List (S74)), y_ = (([t1073] : List (List (S74)))) := ⟨_, rfl⟩
        replace H : (if y1076.length + x3_1.length < 5864062014805 then (spec_PartsOf.l0 k1 l0 (y1076 ++ x3_1) (wrap64 (t1068 - 1)) (wrap64 (x5_1 - 1))) else (none)) = some r := by first | (rw [hy1076]; with_reducible exact H) | (have H2_ := (Option.bind_some _ _).symm.trans H; rw [hy1076]; with_reducible exact H2_) | (have H2_ := (Option.bind_some _ _).symm.trans H; with_reducible exact H2_) | with_reducible exact H | (rw [hy1076]; exact H) | exact H
        have Ny1076 := Aside0.mk hy1076
        clear hy1076
        by_cases c18 : y1076.length + x3_1.length < 5864062014805
        ·rw [if_pos c18] at H
         have LMc18 := Aside0.mk c18
         clear c18
         obtain ⟨y1079, hy1079⟩ : ∃ y_ : List (List (S74)), y_ = (y1076 ++ x3_1) := ⟨_, rfl⟩
         replace H : (spec_PartsOf.l0 k1 l0 y1079 (wrap64 (t1068 - 1)) (wrap64 (x5_1 - 1))) = some r := by first | (rw [hy1079]; with_reducible exact H) | (have H2_ := (Option.bind_some _ _).symm.trans H; rw [hy1079]; with_reducible exact H2_) | (have H2_ := (Option.bind_some _ _).symm.trans H; with_reducible exact H2_) | with_reducible exact H | (rw [hy1079]; exact H) | exact H
         have Ny1079 := Aside0.mk hy1079
         clear hy1079
         have H' := Aside0.mk H
         clear H
         go_wp2_with (first | ((with_reducible refine gate_callee (f := 125) rfl ?_); refine gL 29 Try.func125 #[.slice (some ad1066) l0.length c0, .int .i64 x4_1] ?_; (with_reducible refine (spec_l2First.calls k1 _ _ l0 x4_1 _ _ ?_ ?_ A13.out).mono ?_); exact ψ32; exact HC0.out; rintro e w19 ⟨rfl, hb⟩; refine ⟨_, rfl, ?_⟩; have q := n2_ (Kd.N_below (have hZ := HO_3; kN_) hb) (below_step ψ6 hb); clear HO_3 HB; obtain ⟨HO_3, HB⟩ := q; (try clear hb); have q20 : ((wrap64 (x4_1 + 1)) : Int) ≤ ((l0.length : Int) : Int) := of_decide_eq_true ψ5; obtain ⟨i020, hi020, _, hsz20, _⟩ := info_parts info74; have hroom20 : l0.length ≤ c0 := HC0.out; have hC20 : Kd.C k74 _ (some ad1066) l0.length l0 := HR0.out; have ql20 : (t1068 : Int) ≤ ((wrap64 (x4_1 + 1)) : Int) := of_decide_eq_true ψ5; have q020 : (0 : Int) ≤ (t1068 : Int) := of_decide_eq_true ψ5; have hcut20 := cut_mid (P := Try.prog) 68 74 .i64 .i64 Try.underlying68 hi020 2 hsz20 (some ad1066) l0.length c0 t1068 (wrap64 (x4_1 + 1)) q020 ql20 q20 hroom20; have hr20 := Kd.C_mid (lo := (t1068 : Int).toNat) (hi := ((wrap64 (x4_1 + 1)) : Int).toNat) (c := c0) hC20 ψ21 ψ21 hroom20; obtain ⟨A20, hA20⟩ : ∃ A_, A_ = (if c0 = (t1068 : Int).toNat then (some ad1066) else ((some ad1066) : Option Addr).map (·.add ((t1068 : Int).toNat * 2))) := ⟨_, rfl⟩; obtain ⟨c20, hc20⟩ : ∃ c_, c_ = c0 - (t1068 : Int).toNat := ⟨_, rfl⟩; have hy20 : y1069.length = ((wrap64 (x4_1 + 1)) : Int).toNat - (t1068 : Int).toNat := (by rw [Ny1069.out, List.length_drop, List.length_take] <;> omega); rw [show ((l0).take ((wrap64 (x4_1 + 1)) : Int).toNat).drop (t1068 : Int).toNat = y1069 from Ny1069.out.symm] at hr20; replace hr20 : Kd.C k74 _ A20 y1069.length y1069 := (by rw [hA20]; exact hr20); rw [← hy20, ← hA20, ← hc20] at hcut20; have HR1072 := Aside0.mk hr20; have HC1072 := Aside0.mk (show y1069.length ≤ c20 from by rw [hy20, hc20]; exact Nat.sub_le_sub_right (Nat.le_trans ψ21 hroom20) _); clear hr20 hC20 hroom20 hi020 hsz20 hc20; have KY20 := Aside0.mk hy20; have KA20 := Aside0.mk hA20; clear hy20 hA20; replace q20 := eq_true q20) | ((with_reducible refine gate_callee (f := 142) rfl ?_); refine gL 35 Try.func142 #[.slice A20 y1069.length c20] ?_; (with_reducible refine (spec_l2Copy.calls _ _ y1069 _ _ ?_ ?_ A17.out).mono ?_); exact (by repeat (first | exact (Kd.C_below HR1072.out HB.out) | (with_reducible refine Kd.C_alloc ?_ _) | (with_reducible refine Kd.C_drewN ?_ _) | (with_reducible refine Kd.C_drew ?_))); exact HC1072.out; rintro e w21 ⟨v1074, rfl, ho0, hb⟩; refine ⟨_, rfl, ?_⟩; have q := n3_ (Kd.N_elder' (have hZ := HO_3; kN_) (Kd.R_base ho0) hb) (Kd.R_lower (Kd.R_newM (M := fun k_ => (w.heap.size ≤ k_)) ho0 (below_size ψ6) (fun k_ h_ => h_)) (below_size ψ6)) (below_step ψ6 hb); clear HO_3 HB; obtain ⟨HO_3, HO1075, HB⟩ := q; (try clear hb); (try clear ho0); obtain ⟨Ao22, co22, eo22⟩ := Kd.R_slice HO1075.out; subst eo22) | ((with_reducible refine gate_dst (N := 36) rfl ?_); refine Kd.N_lit (Kd.slice 74 k74) _ 68 ?hg (N' := 36) ?hd (xs := ([t1073] : List (List (S74)))) (inner := [.slice Ao22 t1073.length co22]) (ok := (fun k_ => (w.heap.size ≤ k_) ∧ some k_ ≠ (u3 : Value).ownBlock)) (okp := (fun k_ => (w.heap.size ≤ k_) ∧ some k_ ≠ (u3 : Value).ownBlock)) ?hr ?hp (fun _ hk => hk) ((show ∀ k_, w21.heap.size ≤ k_ → (fun k_ => (w.heap.size ≤ k_) ∧ some k_ ≠ (u3 : Value).ownBlock) k_ from fun k_ hk => ⟨(Nat.le_trans (below_size ψ6) hk), Kd.fresh' (Kd.N_lt (have hZ := HO_3; kN_)) k_ hk⟩) _ (Nat.le_refl _)) (Below.refl _ _) (Nat.le_refl _) ψ22 ?_; (case hd => rfl); (case hg => rfl); (case hr => first | (go_simp; done) | (go_simp; rfl)); (case hp => exact (Reps.one (show Kd.FK (Kd.slice 74 k74) _ _ t1073 [.slice Ao22 t1073.length co22] from (Kd.FK_slice_mk (Kd.R_reads' (Kd.R_mono (ok' := (fun k_ => (w.heap.size ≤ k_) ∧ some k_ ≠ (u3 : Value).ownBlock)) (Kd.R_apart' (HO1075.out) (Kd.N_typed HO_3.out) ψ13) (fun k_ hk => ⟨hk.1.1, hk.2⟩))).2.1 (Kd.R_F (Kd.R_mono (ok' := (fun k_ => (w.heap.size ≤ k_) ∧ some k_ ≠ (u3 : Value).ownBlock)) (Kd.R_apart' (HO1075.out) (Kd.N_typed HO_3.out) ψ13) (fun k_ hk => ⟨hk.1.1, hk.2⟩))))) (Reps.none _ _))); intro v1077 w23 ho24 hb hg_ hnew_; clear hg_ hnew_; (first | rw [← Ny1076.out] at ho24 | (simp only [Int.reduceToNat] at ho24; rw [← Ny1076.out] at ho24)); have q := n3_ (Kd.N_elder' (have hZ := HO_3; kN_) (Kd.N_base ho24) hb) (Kd.N_lower ho24 (below_size ψ6)) (below_step ψ6 hb); clear HO_3 HB HO1075; obtain ⟨HO_3, HO1078, HB⟩ := q; clear hb ho24; obtain ⟨Ao26, co26, eo26⟩ := Kd.N_slice HO_3.out; subst eo26) | ((with_reducible refine gate_builtin (b := .append) (xs := #[.tmp 36, .tmp 37]) rfl ?_); at_builtin; refine Kd.N_append_rows (Kd.slice 74 k74) (w0 := w) w.heap.size rfl (.tmp 36) (.tmp 37) 138 68 (.slice none 0 0) 24 rfl Try.underlying138 info68 rfl ψ13 ψ21 v1077 y1076 x3_1 _ _ _ (fun k_ => (w.heap.size ≤ k_)) (fun k_ => ((fun k_ => (w.heap.size ≤ k_))) k_ ∧ some k_ ≠ (v1077 : Value).ownBlock) rfl rfl ?aO ?aR (fun _ hk => hk) ?aF ?aB ?aS ?aL ?_; (case aR => exact (by skip; exact Kd.N_F (Kd.N_mono (ok' := (fun k_ => ((fun k_ => (w.heap.size ≤ k_))) k_ ∧ some k_ ≠ (v1077 : Value).ownBlock)) (HO_3.out) (fun k_ hk => ⟨hk.1.1, hk.2⟩)))); (case aB => exact ψ6); (case aF => exact (fun k_ hk => (Nat.le_trans (below_size ψ6) hk))); (case aO => exact (by (with_reducible repeat (first | apply Kd.N_alloc | apply Kd.N_drewN | apply Kd.N_drew)); exact Kd.N_mono HO1078.out (fun _ hk => hk.1))); (case aS => exact (below_size ψ6)); (case aL => have := LMc18.out; omega); intro v1080 w25 ho hb hg hat; rw [← Ny1079.out] at ho; have q := n3_ (Kd.N_afterv (ok := (fun k_ => (w.heap.size ≤ k_))) (by (with_reducible repeat (first | apply Kd.N_alloc | apply Kd.N_drewN | apply Kd.N_drew)); exact Kd.N_mono HO_3.out (fun _ hk => ⟨hk.1.1, hk.2⟩)) hg hat) (hb) (ho); clear HO_3 HB HO1078; obtain ⟨HO_3, HB, HO1081⟩ := q; clear ho hb hg hat))
         go_roundg k1
         case measure => have := HK1.out; omega
         case rel => exact ⟨(y1079), (wrap64 (t1068 - 1)), (wrap64 (x5_1 - 1)), ψ7, ψ7, H', ⟨ψ8⟩, ⟨have hZ := HO1081; kN_⟩, ⟨ψ6⟩⟩
        ·rw [if_neg c18] at H
         exact absurd H ψ22
       ·rw [if_neg c16] at H
        exact absurd H ψ22
      ·rw [if_neg c15] at H
       exact absurd H ψ22
     ·rw [if_neg c14] at H
      exact absurd H ψ22
    ·obtain rfl := Option.some.inj H
     go_wp2
     go_ret
     exact ⟨_, by first | rfl | (simp [errW_none, errW_some] <;> rfl) | (simp only [← hji4]; first | rfl | (simp [errW_none, errW_some] <;> rfl)) | (simp [*, errW_none, errW_some] <;> rfl), by (with_reducible repeat (first | apply Kd.N_alloc | apply Kd.N_drewN | apply Kd.N_drew)); exact HO_3.out, ψ6⟩
 ·obtain rfl := Option.some.inj H
  go_enter Try.func124, Try.ntmps124
  go_wp2_with (first | ((with_reducible refine gate_dst (N := 7) rfl ?_); refine Kd.N_lit (Kd.slice 74 k74) _ 68 ?hg (N' := 7) ?hd (xs := ([] : List (List (S74)))) (inner := []) (ok := (fun k_ => (w.heap.size ≤ k_))) (okp := (fun k_ => (w.heap.size ≤ k_))) ?hr ?hp (fun _ hk => hk) ((show ∀ k_, w.heap.size ≤ k_ → (fun k_ => (w.heap.size ≤ k_)) k_ from fun k_ hk => (Nat.le_trans (below_size ψ6) hk)) _ (Nat.le_refl _)) (Below.refl _ _) (Nat.le_refl _) ψ22 ?_; (case hd => rfl); (case hg => rfl); (case hr => first | (go_simp; done) | (go_simp; rfl)); (case hp => exact (Reps.none _ _)); intro v1063 w27 ho28 hb hg_ hnew_; clear hg_ hnew_; (first | rw [← Ny1062.out] at ho28 | (simp only [Int.reduceToNat] at ho28; rw [← Ny1062.out] at ho28)); have q := n2_ (Kd.N_lower ho28 (below_size ψ6)) (below_step ψ6 hb); clear HB; obtain ⟨HO1064, HB⟩ := q; clear hb ho28) | ((with_reducible refine gate_callee (f := 127) rfl ?_); refine gL 9 Try.func127 #[.slice A0 l0.length c0] ?_; (with_reducible refine (spec_ExpOk.calls k _ _ l0 _ _ ?_ ?_ A2.out).mono ?_); exact ψ32; exact HC0.out; rintro e w29 ⟨rfl, hb⟩; refine ⟨_, rfl, ?_⟩; have q := n2_ (Kd.N_below (have hZ := HO1064; kN_) hb) (below_step ψ6 hb); clear HO1064 HB; obtain ⟨HO1064, HB⟩ := q; (try clear hb)))
  go_ret
  exact ⟨_, ψ4, by (with_reducible repeat (first | apply Kd.N_alloc | apply Kd.N_drewN | apply Kd.N_drew)); exact HO1064.out, ψ6⟩

/-! ### spec_l9Known: function 126 -/
def spec_l9Known.f (l0 : List (S74)) (a1 : Int) (a2 : Bool) : Option (Bool) := if (l0.length : Int) = 1 then (if 0 < (l0.length : Int) then (if ((rd_T74 l0 0).f0) = 0 then (if ((rd_T74 l0 0).f1) < a1 then (if a2 = true then (some (!(((rd_T74 l0 0).f1) == 0))) else (some (!false))) else (some false)) else (some false)) else (none)) else (some false)
theorem τ86 {P : Prop} (h : P := by
 obtain rfl := Option.some.inj H
 try (have p1082 : 0 ≤ (0 : Int) := ψ21; have q1082 : 0 < (l0.length : Int) := of_decide_eq_true ψ5; obtain ⟨ad1082, e1082, hx1082_0, hx1082_1⟩ := at_T74 HR0.out 0 p1082 q1082; cases e1082; have qi1082 : (0 < l0.length) = True := eq_true ψ21; (try rw [show ((0 : Int)).toNat = 0 from rfl] at hx1082_0); (try rw [show 0 * 2 = 0 from rfl] at hx1082_0); (try rw [Addr.add_zero'] at hx1082_0); (try rw [show ((0 : Int)).toNat = 0 from rfl] at hx1082_1); (try rw [show 0 * 2 = 0 from rfl] at hx1082_1); (try rw [Addr.add_zero'] at hx1082_1); replace p1082 := eq_true p1082; replace q1082 := eq_true q1082)
 try (have p1083 : 0 ≤ (0 : Int) := ψ21; have q1083 : 0 < (l0.length : Int) := of_decide_eq_true ψ5; obtain ⟨ad1083, e1083, hx1083_0, hx1083_1⟩ := at_T74 HR0.out 0 p1083 q1083; obtain rfl : ad1082 = ad1083 := (by injection e1083); have qi1083 : (0 < l0.length) = True := eq_true ψ21; (try rw [show ((0 : Int)).toNat = 0 from rfl] at hx1083_0); (try rw [show 0 * 2 = 0 from rfl] at hx1083_0); (try rw [Addr.add_zero'] at hx1083_0); (try rw [show ((0 : Int)).toNat = 0 from rfl] at hx1083_1); (try rw [show 0 * 2 = 0 from rfl] at hx1083_1); (try rw [Addr.add_zero'] at hx1083_1); replace p1083 := eq_true p1083; replace q1083 := eq_true q1083)
 try (have p1084 : 0 ≤ (0 : Int) := ψ21; have q1084 : 0 < (l0.length : Int) := of_decide_eq_true ψ5; obtain ⟨ad1084, e1084, hx1084_0, hx1084_1⟩ := at_T74 HR0.out 0 p1084 q1084; obtain rfl : ad1082 = ad1084 := (by injection e1084); have qi1084 : (0 < l0.length) = True := eq_true ψ21; (try rw [show ((0 : Int)).toNat = 0 from rfl] at hx1084_0); (try rw [show 0 * 2 = 0 from rfl] at hx1084_0); (try rw [Addr.add_zero'] at hx1084_0); (try rw [show ((0 : Int)).toNat = 0 from rfl] at hx1084_1); (try rw [show 0 * 2 = 0 from rfl] at hx1084_1); (try rw [Addr.add_zero'] at hx1084_1); replace p1084 := eq_true p1084; replace q1084 := eq_true q1084)
 go_enter Try.func126, Try.ntmps126
 go_wp2
 go_ret
 exact ⟨ψ0, ψ1⟩) : P := h
theorem spec_l9Known.calls (A0 : Option Addr) (c0 : Nat) (l0 : List (S74)) (a1 : Int) (a2 : Bool) (r : Bool) (w : World) (hr0 : Kd.C k74 w A0 l0.length l0) (hc0 : l0.length ≤ c0) (h : spec_l9Known.f l0 a1 a2 = some r) :
 Calls Try.prog 126 #[.slice A0 l0.length c0, .int .i64 a1, .bool a2] w fun e w' => e = .returned (.bool r) ∧ Drawn0 w w' := by
 have q := n2_ hr0 hc0
 clear hr0 hc0
 obtain ⟨HR0, HC0⟩ := q
 unfold spec_l9Known.f at h
 have H := h
 clear h
 replace H := ifF H; rcases H with ⟨c4b0, c4b1, H⟩ | ⟨c4b0, c4b1, c4, H⟩
 ·by_cases c5 : 0 < (l0.length : Int)
  ·rw [if_pos c5] at H
   have c5b0 : decide (0 < (l0.length : Int)) = true := decide_eq_true c5
   have c5b1 : decide (0 < l0.length) = true := decide_eq_true ψ21
   clear c5
   replace H := ifF H; rcases H with ⟨c6b0, c6b1, H⟩ | ⟨c6b0, c6b1, c6, H⟩
   ·replace H := ifD H; rcases H with ⟨c7b0, H⟩ | ⟨c7b0, H⟩
    ·replace H := ifB H; rcases H with ⟨rfl, H⟩ | ⟨rfl, H⟩
     ·exact τ86
     ·exact τ86
    ·exact τ86
   ·exact τ86
  ·rw [if_neg c5] at H
   exact absurd H ψ22
 ·exact τ86

end Go.Proofs.Ytakmkdlkipfnhaa.PCore

/- The walks of the functions that the laws come to, part 8: turned out of the kit's print, and mended where that fell. -/
import Derived.Test.YtakmkdlkipfnhaaPCoreg
import Derived.Test.YtakmkdlkipfnhaaPCoreg7
namespace Go.Proofs.Ytakmkdlkipfnhaa.PCore
open Go.RowKit Go.Proofs.YtakmkdlkipfnhaaW.PrintWords Go.Proofs.YtakmkdlkipfnhaaW.PrintLast Go.Proofs.YtakmkdlkipfnhaaW.PrintMore
attribute [local go_sem] max2_int min2_int max_two min_two max_three min_three max_four min_four   -- for this text's walks alone
set_option linter.unusedVariables false
set_option maxHeartbeats 8000000
set_option maxRecDepth 100000
set_option linter.unusedSimpArgs false

theorem ψ58 {P : Prop} (h : P := by (with_reducible repeat (first | refine blk_drewN ?_ _ | refine blk_drew ?_ | refine blk_alloc ?_ _)); refine blk_far ?_ NB10_0.out _; (with_reducible repeat (first | refine blk_drewN ?_ _ | refine blk_drew ?_ | refine blk_alloc ?_ _)); refine blk_far ?_ NB10_11.out _; (with_reducible repeat (first | refine blk_drewN ?_ _ | refine blk_drew ?_ | refine blk_alloc ?_ _)); refine blk_far ?_ NB10_11.out _; (with_reducible repeat (first | refine blk_drewN ?_ _ | refine blk_drew ?_ | refine blk_alloc ?_ _)); refine blk_far ?_ NB10_11.out _; (with_reducible repeat (first | refine blk_drewN ?_ _ | refine blk_drew ?_ | refine blk_alloc ?_ _)); exact BK10.out) : P := h
theorem ψ59 {P : Prop} (h : P := by (with_reducible repeat (first | refine blk_drewN ?_ _ | refine blk_drew ?_ | refine blk_alloc ?_ _)); refine blk_far ?_ NB11_0.out _; (with_reducible repeat (first | refine blk_drewN ?_ _ | refine blk_drew ?_ | refine blk_alloc ?_ _)); refine blk_put (cs := #[.int .i64 s0_1, .slice none 0 0, .slice none 0 0]) ?_ 2 _ rfl; (with_reducible repeat (first | refine blk_drewN ?_ _ | refine blk_drew ?_ | refine blk_alloc ?_ _)); refine blk_put (cs := #[.int .i64 s0_1, .slice none 0 0, .slice none 0 0]) ?_ 1 _ rfl; (with_reducible repeat (first | refine blk_drewN ?_ _ | refine blk_drew ?_ | refine blk_alloc ?_ _)); refine blk_put (cs := #[.int .i64 0, .slice none 0 0, .slice none 0 0]) ?_ 0 _ rfl; (with_reducible repeat (first | refine blk_drewN ?_ _ | refine blk_drew ?_ | refine blk_alloc ?_ _)); exact BK11.out) : P := h
theorem ψ60 {P : Prop} (h : P := by repeat (first | (with_reducible first | exact HI0.out | apply IsS160.alloc | apply IsS160.drewN | apply IsS160.drew | apply IsS160.set_1 | apply IsS160.set_2 | apply IsS160.set_3 | (apply IsS160.far; (case hne => exact NB0_10.out)) | (apply IsS160.far; (case hne => exact NB0_11.out))) | exact HI0.out)) : P := h
theorem ψ61 {P : Prop} (h : P := by repeat (first | (with_reducible first | exact HK.out | apply KeepBut.set_ | apply keep_drewN | apply keep_drew | apply keep_alloc | refine keep_far ?_ GW10.out _ | refine keep_far ?_ GW11.out _) | exact HK.out)) : P := h
theorem ψ62 {P : Prop} (h : P := by repeat (first | (with_reducible first | exact HB.out | apply below_alloc | apply pw_below_drewN | apply below_drew1 | refine below_set ?_ (IsS160.ge HI0.out) | refine below_set ?_ GE10.out | refine below_set ?_ GE11.out) | exact HB.out)) : P := h
theorem ψ64 {P : Prop} (h : P := by (with_reducible repeat (first | refine blk_drewN ?_ _ | refine blk_drew ?_ | refine blk_alloc ?_ _)); refine blk_put (cs := #[.int .i64 s0_1, .slice none 0 0, .slice none 0 0]) ?_ 1 _ rfl; (with_reducible repeat (first | refine blk_drewN ?_ _ | refine blk_drew ?_ | refine blk_alloc ?_ _)); exact BK11.out) : P := h
theorem ψ65 {P : Prop} (h : P := by (with_reducible repeat (first | apply Kd.R_alloc | apply Kd.R_drewN | apply Kd.R_drew)); exact (Kd.R_mono (Kd.R_far (p := ⟨gb11, 1, none⟩) (Kd.R_mono HO545.out (fun k_ hk => (⟨hk, hk.2⟩ : _ ∧ k_ ≠ gb11))) (fun _ hk => hk.2) (.slice Ao23 t543.length co23)) (fun _ h_ => h_.1))) : P := h
theorem ψ66 {P : Prop} (h : P := by have := HJ3.out; first | omega | exact Nat.le_refl _) : P := h
theorem ψ67 {P : Prop} (h : P := by (with_reducible repeat (first | apply Kd.R_alloc | apply Kd.R_drewN | apply Kd.R_drew)); exact Kd.R_mono HO545.out (fun _ hk => ⟨hk.1.2, hk.2⟩)) : P := h
theorem ψ68 {P : Prop} (h : P := by have := HJ3.out; have := HJ20.out; have := HJ39.out; first | omega | exact Nat.le_refl _) : P := h
theorem ψ70 {P : Prop} (h : P := by repeat (first | (with_reducible first | exact HI0.out | apply IsS160.alloc | apply IsS160.drewN | apply IsS160.drew | apply IsS160.set_1 | apply IsS160.set_2 | apply IsS160.set_3 | (apply IsS160.far; (case hne => exact NB0_10.out))) | exact HI0.out)) : P := h
theorem ψ71 {P : Prop} (h : P := by have := World.block_lt_of_cell? _ _ hx540_0; first | rwa [add_block] at this | exact this) : P := h
theorem ψ72 {P : Prop} (h : P := by first | (rw [add_block]; exact hn540_0) | (show (Addr.add _ _).block ≠ _; rw [add_block]; exact hn540_0) | exact hn540_0) : P := h
theorem ψ73 {P : Prop} (h : P := by first | (rw [add_block]; exact hn540_1) | (show (Addr.add _ _).block ≠ _; rw [add_block]; exact hn540_1) | exact hn540_1) : P := h
theorem ψ74 {P : Prop} (h : P := by first | (rw [add_block]; exact hn540_2) | (show (Addr.add _ _).block ≠ _; rw [add_block]; exact hn540_2) | exact hn540_2) : P := h
theorem ψ75 {P : Prop} (h : P := by (with_reducible repeat (first | refine blk_drewN ?_ _ | refine blk_drew ?_ | refine blk_alloc ?_ _)); refine blk_far ?_ NB10_0.out _; (with_reducible repeat (first | refine blk_drewN ?_ _ | refine blk_drew ?_ | refine blk_alloc ?_ _)); exact BK10.out) : P := h
theorem ψ76 {P : Prop} (h : P := by (with_reducible repeat (first | refine blk_drewN ?_ _ | refine blk_drew ?_ | refine blk_alloc ?_ _)); refine blk_far ?_ NB11_0.out _; (with_reducible repeat (first | refine blk_drewN ?_ _ | refine blk_drew ?_ | refine blk_alloc ?_ _)); exact BK11.out) : P := h
theorem ψ77 {P : Prop} (h : P := by have := HJ3.out; have := HJ20.out; first | omega | exact Nat.le_refl _) : P := h
theorem ψ78 {P : Prop} (h : P := by repeat (first | (with_reducible first | exact HK.out | apply KeepBut.set_ | apply keep_drewN | apply keep_drew | apply keep_alloc | refine keep_far ?_ GW10.out _) | exact HK.out)) : P := h
theorem ψ79 {P : Prop} (h : P := by repeat (first | (with_reducible first | exact HB.out | apply below_alloc | apply pw_below_drewN | apply below_drew1 | refine below_set ?_ (IsS160.ge HI0.out) | refine below_set ?_ GE10.out) | exact HB.out)) : P := h
theorem ψ127 {P : Prop} (h : P := by rw [hg]; exact (keep_size (w := w) (g := g) (row := none) (ψ61))) : P := h
theorem ψ128 {P : Prop} (h : P := by rw [hg]; exact Nat.ne_of_lt (IsS160.lt (show IsS160 w0 _ g s0_0 s0_1 s0_2 s0_3 from ψ57))) : P := h
theorem ψ129 {P : Prop} (h : P := by rw [hg]; exact Nat.ne_of_gt (IsS160.lt (show IsS160 w0 _ g s0_0 s0_1 s0_2 s0_3 from ψ57))) : P := h
theorem ψ130 {P : Prop} (h : P := by rw [hg]; exact Nat.ne_of_lt (IsS160.lt (show IsS160 w0 _ g s0_0 s0_1 s0_2 s0_3 from ψ70))) : P := h
theorem ψ131 {P : Prop} (h : P := by rw [hg]; exact Nat.ne_of_gt (IsS160.lt (show IsS160 w0 _ g s0_0 s0_1 s0_2 s0_3 from ψ70))) : P := h
theorem ψ132 {P : Prop} (h : P := by first | exact Nat.ne_of_lt (Nat.lt_of_lt_of_le (ψ71) GW11.out) | exact Nat.ne_of_lt (Nat.lt_of_lt_of_le (ψ71) GE11.out)) : P := h
theorem ψ133 {P : Prop} (h : P := by (with_reducible repeat (first | apply Kd.R_alloc | apply Kd.R_drewN | apply Kd.R_drew)); exact (Kd.R_mono (Kd.R_far (p := ⟨g, 1, none⟩) (IsS160.apart HI0.out HO_538001.out (ψ13)) (fun _ hk => hk.2) (.int .i64 (wrap64 (t547 + 1)))) (fun _ h_ => h_.1))) : P := h
theorem ψ134 {P : Prop} (h : P := by rw [hg]; exact (keep_size (w := w) (g := g) (row := none) (ψ78))) : P := h
theorem ψ135 {P : Prop} (h : P := by rw [hg]; exact Nat.ne_of_lt (IsS160.lt (show IsS160 w0 _ g s0_0 t582 t583 t584 from ψ57))) : P := h
theorem ψ136 {P : Prop} (h : P := by rw [hg]; exact Nat.ne_of_gt (IsS160.lt (show IsS160 w0 _ g s0_0 t582 t583 t584 from ψ57))) : P := h
/-! ### impl_nester_many: function 150 -/
mutual
def impl_nester_one.j0 : Nat → Int → Bool → List (S114) → Int → Int → Int → Int → Option (Int × (List (S163)) × (List (S163)) × Bool × Int × Int × Int)
 | 0, _, _, _, _, _, _, _ => none
 | k + 1, x5, x41, x1000, x1001, x1002, x1003, x538000 => if x41 = true then (some (x538000, ([] : List (S163)), ([] : List (S163)), true, x1001, x1002, x1003)) else ((impl_nester_many.f k x1000 x1001 x1002 x1003).bind fun bt543 => (if bt543.2.1 = true then (if x5 = 2 then ((impl_nester_is.f x1000 bt543.2.2.1 bt543.2.2.2.1 bt543.2.2.2.2 3).bind fun t550 => (if t550 = true then (impl_nester_one.j1 k x5 bt543.2.1 (-1) true x1000 bt543.2.2.1 bt543.2.2.2.1 bt543.2.2.2.2 x538000 bt543.1) else (if x5 = 8 then ((impl_nester_is.f x1000 bt543.2.2.1 bt543.2.2.2.1 bt543.2.2.2.2 9).bind fun t551 => (impl_nester_one.j1 k x5 bt543.2.1 (-1) t551 x1000 bt543.2.2.1 bt543.2.2.2.1 bt543.2.2.2.2 x538000 bt543.1)) else (impl_nester_one.j1 k x5 bt543.2.1 (-1) false x1000 bt543.2.2.1 bt543.2.2.2.1 bt543.2.2.2.2 x538000 bt543.1)))) else (if x5 = 8 then ((impl_nester_is.f x1000 bt543.2.2.1 bt543.2.2.2.1 bt543.2.2.2.2 9).bind fun t552 => (impl_nester_one.j1 k x5 bt543.2.1 (-1) t552 x1000 bt543.2.2.1 bt543.2.2.2.1 bt543.2.2.2.2 x538000 bt543.1)) else (impl_nester_one.j1 k x5 bt543.2.1 (-1) false x1000 bt543.2.2.1 bt543.2.2.2.1 bt543.2.2.2.2 x538000 bt543.1))) else (impl_nester_one.j1 k x5 bt543.2.1 (-1) false x1000 bt543.2.2.1 bt543.2.2.2.1 bt543.2.2.2.2 x538000 bt543.1)))
def impl_nester_one.j1 : Nat → Int → Bool → Int → Bool → List (S114) → Int → Int → Int → Int → List (S163) → Option (Int × (List (S163)) × (List (S163)) × Bool × Int × Int × Int)
 | 0, _, _, _, _, _, _, _, _, _, _ => none
 | k + 1, x5, x7, x8, x66, x1000, x1001, x1002, x1003, x538000, x538001 => if x66 = true then ((impl_nester_many.f k x1000 (wrap64 (x1001 + 1)) x1002 x1003).bind fun bt555 => (impl_nester_one.j2 k x5 bt555.2.1 x1001 x1000 bt555.2.2.1 bt555.2.2.2.1 bt555.2.2.2.2 x538000 x538001 bt555.1)) else (impl_nester_one.j2 k x5 x7 x8 x1000 x1001 x1002 x1003 x538000 x538001 ([] : List (S163)))
def impl_nester_one.j2 : Nat → Int → Bool → Int → List (S114) → Int → Int → Int → Int → List (S163) → List (S163) → Option (Int × (List (S163)) × (List (S163)) × Bool × Int × Int × Int)
 | 0, _, _, _, _, _, _, _, _, _, _ => none
 | k + 1, x5, x7, x8, x1000, x1001, x1002, x1003, x538000, x538001, x538002 => if x7 = true then ((impl_nester_is.f x1000 x1001 x1002 x1003 4).bind fun t562 => (if t562 = true then (if x5 = 8 then (impl_nester_one.j3 k x8 (decide (x8 < 0)) x1000 x1001 x1002 x1003 x538000 x538001 x538002) else (impl_nester_one.j3 k x8 false x1000 x1001 x1002 x1003 x538000 x538001 x538002)) else (impl_nester_one.j3 k x8 true x1000 x1001 x1002 x1003 x538000 x538001 x538002))) else (impl_nester_one.j3 k x8 true x1000 x1001 x1002 x1003 x538000 x538001 x538002)
def impl_nester_one.j3 : Nat → Int → Bool → List (S114) → Int → Int → Int → Int → List (S163) → List (S163) → Option (Int × (List (S163)) × (List (S163)) × Bool × Int × Int × Int)
 | 0, _, _, _, _, _, _, _, _, _ => none
 | k + 1, x8, x98, x1000, x1001, x1002, x1003, x538000, x538001, x538002 => if x98 = true then (some (0, ([] : List (S163)), ([] : List (S163)), false, x1001, x1002, x1003)) else (some (x538000, x538001, x538002, true, wrap64 (x1001 + 1), x8, x1001))
def impl_nester_one.f : Nat → List (S114) → Int → Int → Int → Option (Int × (List (S163)) × (List (S163)) × Bool × Int × Int × Int)
 | 0, _, _, _, _ => none
 | k + 1, s0_0, s0_1, s0_2, s0_3 => if 0 ≤ s0_1 then (if s0_1 < (s0_0.length : Int) then (if ((rd_T114 s0_0 s0_1).f0) = 2 then (impl_nester_one.j0 k ((rd_T114 s0_0 s0_1).f0) false s0_0 (wrap64 (s0_1 + 1)) s0_2 s0_3 s0_1) else (if ((rd_T114 s0_0 s0_1).f0) = 5 then (impl_nester_one.j0 k ((rd_T114 s0_0 s0_1).f0) false s0_0 (wrap64 (s0_1 + 1)) s0_2 s0_3 s0_1) else (impl_nester_one.j0 k ((rd_T114 s0_0 s0_1).f0) (((rd_T114 s0_0 s0_1).f0) != 8) s0_0 (wrap64 (s0_1 + 1)) s0_2 s0_3 s0_1))) else (none)) else (none)
def impl_nester_many.l0 : Nat → List (S163) → List (S114) → Int → Int → Int → Option ((List (S163)) × Bool × Int × Int × Int)
 | 0, _, _, _, _, _ => none
 | k + 1, x4, x1000, x1001, x1002, x1003 => if x1001 < (x1000.length : Int) then ((impl_nester_is.f x1000 x1001 x1002 x1003 3).bind fun t571 => (if t571 = true then (impl_nester_many.j1 k x4 false x1000 x1001 x1002 x1003) else ((impl_nester_is.f x1000 x1001 x1002 x1003 4).bind fun t572 => (if t572 = true then (impl_nester_many.j1 k x4 false x1000 x1001 x1002 x1003) else ((impl_nester_is.f x1000 x1001 x1002 x1003 9).bind fun t573 => (impl_nester_many.j1 k x4 (!t573) x1000 x1001 x1002 x1003)))))) else (impl_nester_many.j1 k x4 false x1000 x1001 x1002 x1003)
def impl_nester_many.j1 : Nat → List (S163) → Bool → List (S114) → Int → Int → Int → Option ((List (S163)) × Bool × Int × Int × Int)
 | 0, _, _, _, _, _, _ => none
 | k + 1, x4, x32, x1000, x1001, x1002, x1003 => if x32 = true then ((impl_nester_one.f k x1000 x1001 x1002 x1003).bind fun bt574 => (if bt574.2.2.2.1 = true then (if x4.length < 2513169434916 then (impl_nester_many.l0 k (x4 ++ [(⟨bt574.1, bt574.2.1, bt574.2.2.1⟩ : S163)]) x1000 bt574.2.2.2.2.1 bt574.2.2.2.2.2.1 bt574.2.2.2.2.2.2) else (none)) else (some (([] : List (S163)), false, bt574.2.2.2.2.1, bt574.2.2.2.2.2.1, bt574.2.2.2.2.2.2)))) else (some (x4, true, x1001, x1002, x1003))
def impl_nester_many.f : Nat → List (S114) → Int → Int → Int → Option ((List (S163)) × Bool × Int × Int × Int)
 | 0, _, _, _, _ => none
 | k + 1, s0_0, s0_1, s0_2, s0_3 => impl_nester_many.l0 k (([] : List (S163))) s0_0 s0_1 s0_2 s0_3
end

theorem τ52 {P : Prop} (h : P := by
 have H' := Aside0.mk H
 clear H
 go_wp2_with (first | ((with_reducible refine qR_ ?_)) | ((with_reducible refine wpQuiet_step (fun K hK => ?_)); go_simp; first | (refine hK _ ?_; clear hK K) | (apply Exists.intro; refine ⟨fun _ => ?_, hK _ ?_⟩)) | ((with_reducible refine wpQuiet_nil ?_); rintro _ ⟨nq, rfl⟩))
 first | (go_meet; (case rel => exact ⟨_, (false), ψ7, H', ⟨ψ19⟩, ⟨ψ58⟩, ⟨ψ59⟩, ⟨ψ60⟩, ⟨ψ61⟩, ⟨ψ62⟩⟩)) | (go_meet; (case rel => exact ⟨_, ((((rd_T114 s0_0 s0_1).f0) != 8)), ψ7, H', ⟨ψ19⟩, ⟨ψ58⟩, ⟨ψ59⟩, ⟨ψ60⟩, ⟨ψ61⟩, ⟨ψ62⟩⟩))) : P := h
theorem τ53 {P : Prop} (h : P := by
 have H' := Aside0.mk H
 clear H
 go_wp2_with (first | (go_at_call 152; (with_reducible refine (impl_nester_is.calls g s0_0 t547 t548 t549 3 true w0 _ ?_ ?_ A29.out).mono ?_); exact ψ60; exact ψ62; rintro e w1_ ⟨rfl, hi, hb, hk⟩; have q := n6_ (KeepBut.blk hk (g' := gb10) (o := .cells #[.int .i64 0, .slice none 0 0, .slice none 0 0] 163 (0, 0)) ψ63 NB10_0.out ψ22) (KeepBut.blk hk (g' := gb11) (o := .cells #[.int .i64 s0_1, .slice Ao23 t543.length co23, .slice none 0 0] 163 (0, 0)) ψ64 NB11_0.out ψ22) (Kd.R_mono (Kd.R_keep (IsS160.apart (show IsS160 w0 _ g s0_0 t547 t548 t549 from ψ60) ψ65 ψ13) hk (fun _ h => h.2)) (fun _ h => h.1)) (KeepBut.trans ψ61 hk (.inl rfl)) (hb) (hi); clear BK10 BK11 HO545 HK HB HI0; obtain ⟨BK10, BK11, HO545, HK, HB, HI0⟩ := q; (try clear hb hk hi)) | (go_at_call 152; (with_reducible refine (impl_nester_is.calls g s0_0 t547 t548 t549 3 false w0 _ ?_ ?_ A29.out).mono ?_); exact ψ60; exact ψ62; rintro e w1_ ⟨rfl, hi, hb, hk⟩; have q := n6_ (KeepBut.blk hk (g' := gb10) (o := .cells #[.int .i64 0, .slice none 0 0, .slice none 0 0] 163 (0, 0)) ψ63 NB10_0.out ψ22) (KeepBut.blk hk (g' := gb11) (o := .cells #[.int .i64 s0_1, .slice Ao23 t543.length co23, .slice none 0 0] 163 (0, 0)) ψ64 NB11_0.out ψ22) (Kd.R_mono (Kd.R_keep (IsS160.apart (show IsS160 w0 _ g s0_0 t547 t548 t549 from ψ60) ψ65 ψ13) hk (fun _ h => h.2)) (fun _ h => h.1)) (KeepBut.trans ψ61 hk (.inl rfl)) (hb) (hi); clear BK10 BK11 HO545 HK HB HI0; obtain ⟨BK10, BK11, HO545, HK, HB, HI0⟩ := q; (try clear hb hk hi)) | (go_at_call 152; (with_reducible refine (impl_nester_is.calls g s0_0 t547 t548 t549 9 t551 w0 _ ?_ ?_ A33.out).mono ?_); exact ψ60; exact ψ62; rintro e w2_ ⟨rfl, hi, hb, hk⟩; have q := n6_ (KeepBut.blk hk (g' := gb10) ψ10 NB10_0.out ψ22) (KeepBut.blk hk (g' := gb11) ψ24 NB11_0.out ψ22) (Kd.R_mono (Kd.R_keep (IsS160.apart (show IsS160 w0 _ g s0_0 t547 t548 t549 from ψ60) (have hZ := HO545; kR_) ψ13) hk (fun _ h => h.2)) (fun _ h => h.1)) (KeepBut.trans ψ61 hk (.inl rfl)) (hb) (hi); clear BK10 BK11 HO545 HK HB HI0; obtain ⟨BK10, BK11, HO545, HK, HB, HI0⟩ := q; (try clear hb hk hi)) | (go_at_call 152; (with_reducible refine (impl_nester_is.calls g s0_0 t547 t548 t549 9 t552 w0 _ ?_ ?_ A38.out).mono ?_); exact ψ60; exact ψ62; rintro e w1_ ⟨rfl, hi, hb, hk⟩; have q := n6_ (KeepBut.blk hk (g' := gb10) (o := .cells #[.int .i64 0, .slice none 0 0, .slice none 0 0] 163 (0, 0)) ψ63 NB10_0.out ψ22) (KeepBut.blk hk (g' := gb11) (o := .cells #[.int .i64 s0_1, .slice Ao23 t543.length co23, .slice none 0 0] 163 (0, 0)) ψ64 NB11_0.out ψ22) (Kd.R_mono (Kd.R_keep (IsS160.apart (show IsS160 w0 _ g s0_0 t547 t548 t549 from ψ60) ψ65 ψ13) hk (fun _ h => h.2)) (fun _ h => h.1)) (KeepBut.trans ψ61 hk (.inl rfl)) (hb) (hi); clear BK10 BK11 HO545 HK HB HI0; obtain ⟨BK10, BK11, HO545, HK, HB, HI0⟩ := q; (try clear hb hk hi)) | ((with_reducible refine qR_ ?_)) | ((with_reducible refine wpQuiet_step (fun K hK => ?_)); go_simp; first | (refine hK _ ?_; clear hK K) | (apply Exists.intro; refine ⟨fun _ => ?_, hK _ ?_⟩)) | ((with_reducible refine wpQuiet_nil ?_); rintro _ ⟨nq, rfl⟩))
 first | (go_meet; (case rel => exact ⟨_, (true), ψ7, H', ⟨ψ66⟩, ⟨ψ67⟩, ⟨ψ10⟩, ⟨ψ24⟩, ⟨ψ60⟩, ⟨ψ61⟩, ⟨ψ62⟩⟩)) | (go_meet; (case rel => exact ⟨_, (t551), ψ7, H', ⟨ψ66⟩, ⟨ψ67⟩, ⟨ψ10⟩, ⟨ψ24⟩, ⟨ψ60⟩, ⟨ψ61⟩, ⟨ψ62⟩⟩)) | (go_meet; (case rel => exact ⟨_, (false), ψ7, H', ⟨ψ66⟩, ⟨ψ67⟩, ⟨ψ10⟩, ⟨ψ24⟩, ⟨ψ60⟩, ⟨ψ61⟩, ⟨ψ62⟩⟩)) | (go_meet; (case rel => exact ⟨_, (t552), ψ7, H', ⟨ψ66⟩, ⟨ψ67⟩, ⟨ψ10⟩, ⟨ψ24⟩, ⟨ψ60⟩, ⟨ψ61⟩, ⟨ψ62⟩⟩)) | (go_meet; (case rel => exact ⟨_, (false), ψ7, H', ⟨ψ66⟩, ⟨by (with_reducible repeat (first | apply Kd.R_alloc | apply Kd.R_drewN | apply Kd.R_drew)); exact Kd.R_mono (Kd.R_far (p := ⟨gb11, 1, none⟩) (Kd.R_mono HO545.out (fun k_ hk => (⟨hk, hk.2⟩ : _ ∧ k_ ≠ gb11))) (fun _ hk => hk.2) (.slice Ao23 t543.length co23)) (fun _ hk => ⟨hk.1.1.2, hk.1.2⟩)⟩, ⟨ψ63⟩, ⟨ψ64⟩, ⟨ψ60⟩, ⟨ψ61⟩, ⟨ψ62⟩⟩))) : P := h
theorem τ54 {P : Prop} (h : P := by
 have H' := Aside0.mk H
 clear H
 go_wp2_with (first | (go_at_call 152; (with_reducible refine (impl_nester_is.calls g s0_0 x1001_39 x1002_39 x1003_39 4 true w0 _ ?_ ?_ A51.out).mono ?_); exact ψ60; exact ψ62; rintro e w1_ ⟨rfl, hi, hb, hk⟩; have q := n7_ (Kd.R_mono (Kd.R_keep (IsS160.apart (show IsS160 w0 _ g s0_0 x1001_39 x1002_39 x1003_39 from ψ60) (have hZ := HO_538001; kR_) ψ13) hk (fun _ h => h.2)) (fun _ h => h.1)) (Kd.R_mono (Kd.R_keep (IsS160.apart (show IsS160 w0 _ g s0_0 x1001_39 x1002_39 x1003_39 from ψ60) (have hZ := HO_538002; kR_) ψ13) hk (fun _ h => h.2)) (fun _ h => h.1)) (KeepBut.blk hk (g' := gb10) ψ10 NB10_0.out ψ22) (KeepBut.blk hk (g' := gb11) ψ24 NB11_0.out ψ22) (KeepBut.trans ψ61 hk (.inl rfl)) (hb) (hi); clear HO_538001 HO_538002 BK10 BK11 HK HB HI0; obtain ⟨HO_538001, HO_538002, BK10, BK11, HK, HB, HI0⟩ := q; (try clear hb hk hi)) | (go_at_call 152; (with_reducible refine (impl_nester_is.calls g s0_0 x1001_39 x1002_39 x1003_39 4 false w0 _ ?_ ?_ A51.out).mono ?_); exact ψ60; exact ψ62; rintro e w1_ ⟨rfl, hi, hb, hk⟩; have q := n7_ (Kd.R_mono (Kd.R_keep (IsS160.apart (show IsS160 w0 _ g s0_0 x1001_39 x1002_39 x1003_39 from ψ60) (have hZ := HO_538001; kR_) ψ13) hk (fun _ h => h.2)) (fun _ h => h.1)) (Kd.R_mono (Kd.R_keep (IsS160.apart (show IsS160 w0 _ g s0_0 x1001_39 x1002_39 x1003_39 from ψ60) (have hZ := HO_538002; kR_) ψ13) hk (fun _ h => h.2)) (fun _ h => h.1)) (KeepBut.blk hk (g' := gb10) ψ10 NB10_0.out ψ22) (KeepBut.blk hk (g' := gb11) ψ24 NB11_0.out ψ22) (KeepBut.trans ψ61 hk (.inl rfl)) (hb) (hi); clear HO_538001 HO_538002 BK10 BK11 HK HB HI0; obtain ⟨HO_538001, HO_538002, BK10, BK11, HK, HB, HI0⟩ := q; (try clear hb hk hi)) | ((with_reducible refine qR_ ?_)) | ((with_reducible refine wpQuiet_step (fun K hK => ?_)); go_simp; first | (refine hK _ ?_; clear hK K) | (apply Exists.intro; refine ⟨fun _ => ?_, hK _ ?_⟩)) | ((with_reducible refine wpQuiet_nil ?_); rintro _ ⟨nq, rfl⟩))
 first | (go_meet; (case rel => exact ⟨_, (decide (x8_39 < 0)), ψ7, H', ⟨ψ68⟩, ⟨have hZ := HO_538001; kR_⟩, ⟨have hZ := HO_538002; kR_⟩, ⟨ψ10⟩, ⟨ψ24⟩, ⟨ψ60⟩, ⟨ψ61⟩, ⟨ψ62⟩⟩)) | (go_meet; (case rel => exact ⟨_, (false), ψ7, H', ⟨ψ68⟩, ⟨have hZ := HO_538001; kR_⟩, ⟨have hZ := HO_538002; kR_⟩, ⟨ψ10⟩, ⟨ψ24⟩, ⟨ψ60⟩, ⟨ψ61⟩, ⟨ψ62⟩⟩)) | (go_meet; (case rel => exact ⟨_, (true), ψ7, H', ⟨ψ68⟩, ⟨have hZ := HO_538001; kR_⟩, ⟨have hZ := HO_538002; kR_⟩, ⟨ψ10⟩, ⟨ψ24⟩, ⟨ψ60⟩, ⟨ψ61⟩, ⟨ψ62⟩⟩))) : P := h
theorem τ55 {P : Prop} (h : P := by
 obtain ⟨rfl, rfl, rfl, rfl, rfl, rfl, rfl⟩ := H
 try (obtain ⟨ASzS2_0, cSzS2_0, HGzS2, hgzS2, HSzS2_0⟩ := HI0.out)
 try (have hczS2_0 := cellS160_0 HGzS2)
 try (have hczS2_1 := cellS160_1 HGzS2)
 try (have hczS2_2 := cellS160_2 HGzS2)
 try (have hczS2_3 := cellS160_3 HGzS2)
 try (have hfzS2_1 := blk_frozen HGzS2 1)
 try (have hfzS2_2 := blk_frozen HGzS2 2)
 try (have hfzS2_3 := blk_frozen HGzS2 3)
 try (clear HGzS2 hgzS2)
 try (have hnb1_ := NB11_10.out)
 try (have hnc1_ := NB10_11.out)
 try (have hnb2_ := NB11_0.out)
 try (have hnc2_ := NB0_11.out)
 try (obtain ⟨hczB11_0, hczB11_1, hczB11_2, hfzB11_0, hfzB11_1, hfzB11_2⟩ := cells3 BK11.out)
 try (have hnb3_ := NB10_0.out)
 try (have hnc3_ := NB0_10.out)
 try (have hnb1_ := NB10_11.out)
 try (have hnc1_ := NB11_10.out)
 try (have hnb2_ := NB10_0.out)
 try (have hnc2_ := NB0_10.out)
 obtain ⟨hczB10_0, hczB10_1, hczB10_2, hfzB10_0, hfzB10_1, hfzB10_2⟩ := cells3 BK10.out
 try (obtain ⟨Ao1_, co1_, eo1_⟩ := Kd.R_slice HO_538002.out)
 try (subst eo1_)
 go_wp2_with (first | ((with_reducible refine qR_ ?_)) | ((with_reducible refine wpQuiet_step (fun K hK => ?_)); go_simp; first | (refine hK _ ?_; clear hK K) | (apply Exists.intro; refine ⟨fun _ => ?_, hK _ ?_⟩)) | ((with_reducible refine wpQuiet_nil ?_); rintro _ ⟨nq, rfl⟩))
 first | (refine bodyPost_ret (results_ct rfl _ _ gb10 163 #[.int .i64 0, .slice none 0 0, .slice none 0 0] (0, 0) _ rfl (by (with_reducible repeat (first | refine blk_drewN ?_ _ | refine blk_drew ?_ | refine blk_alloc ?_ _)); refine blk_put (cs := #[.int .i64 0, .slice none 0 0, .slice none 0 0]) ?_ 2 _ rfl; (with_reducible repeat (first | refine blk_drewN ?_ _ | refine blk_drew ?_ | refine blk_alloc ?_ _)); refine blk_put (cs := #[.int .i64 0, .slice none 0 0, .slice none 0 0]) ?_ 1 _ rfl; (with_reducible repeat (first | refine blk_drewN ?_ _ | refine blk_drew ?_ | refine blk_alloc ?_ _)); refine blk_put (cs := #[.int .i64 0, .slice none 0 0, .slice none 0 0]) ?_ 0 _ rfl; (with_reducible repeat (first | refine blk_drewN ?_ _ | refine blk_drew ?_ | refine blk_alloc ?_ _)); exact BK10.out) Try.underlying163 rfl ψ12) rfl ?_; exact ⟨_, _, ψ4, ψ69, ψ69, ψ60, ψ62, ψ61⟩) | (refine bodyPost_ret (results_ct rfl _ _ gb10 163 #[.int .i64 s0_1, .slice Ao23 t543.length co23, .slice Ao1_ x538002_39.length co1_] (0, 0) _ rfl (by (with_reducible repeat (first | refine blk_drewN ?_ _ | refine blk_drew ?_ | refine blk_alloc ?_ _)); refine blk_put (cs := #[.int .i64 s0_1, .slice Ao23 t543.length co23, .slice none 0 0]) ?_ 2 _ rfl; (with_reducible repeat (first | refine blk_drewN ?_ _ | refine blk_drew ?_ | refine blk_alloc ?_ _)); refine blk_put (cs := #[.int .i64 s0_1, .slice none 0 0, .slice none 0 0]) ?_ 1 _ rfl; (with_reducible repeat (first | refine blk_drewN ?_ _ | refine blk_drew ?_ | refine blk_alloc ?_ _)); refine blk_put (cs := #[.int .i64 0, .slice none 0 0, .slice none 0 0]) ?_ 0 _ rfl; (with_reducible repeat (first | refine blk_drewN ?_ _ | refine blk_drew ?_ | refine blk_alloc ?_ _)); refine blk_far ?_ NB10_0.out _; (with_reducible repeat (first | refine blk_drewN ?_ _ | refine blk_drew ?_ | refine blk_alloc ?_ _)); refine blk_far ?_ NB10_0.out _; (with_reducible repeat (first | refine blk_drewN ?_ _ | refine blk_drew ?_ | refine blk_alloc ?_ _)); refine blk_far ?_ NB10_0.out _; (with_reducible repeat (first | refine blk_drewN ?_ _ | refine blk_drew ?_ | refine blk_alloc ?_ _)); exact BK10.out) Try.underlying163 rfl ψ12) rfl ?_; exact ⟨_, _, ψ4, by (with_reducible repeat (first | apply Kd.R_alloc | apply Kd.R_drewN | apply Kd.R_drew)); exact Kd.R_mono (Kd.R_far (p := ⟨gb10, 2, none⟩) (Kd.R_far (p := ⟨gb10, 1, none⟩) (Kd.R_far (p := ⟨gb10, 0, none⟩) (Kd.R_far (p := ⟨g, 1, none⟩) (Kd.R_far (p := ⟨g, 3, none⟩) (Kd.R_far (p := ⟨g, 2, none⟩) (Kd.R_mono (IsS160.apart HI0.out HO_538001.out ψ13) (fun k_ hk => (⟨hk, hk.1.2.1⟩ : _ ∧ k_ ≠ gb10))) (fun _ hk => hk.1.2) (.int .i64 x8_39)) (fun _ hk => hk.1.2) (.int .i64 x1001_39)) (fun _ hk => hk.1.2) (.int .i64 (wrap64 (x1001_39 + 1)))) (fun _ hk => hk.2) (.int .i64 s0_1)) (fun _ hk => hk.2) (.slice Ao23 t543.length co23)) (fun _ hk => hk.2) (.slice Ao1_ x538002_39.length co1_)) (fun _ hk => hk.1.1.1), by (with_reducible repeat (first | apply Kd.R_alloc | apply Kd.R_drewN | apply Kd.R_drew)); exact Kd.R_mono (Kd.R_far (p := ⟨gb10, 2, none⟩) (Kd.R_far (p := ⟨gb10, 1, none⟩) (Kd.R_far (p := ⟨gb10, 0, none⟩) (Kd.R_far (p := ⟨g, 1, none⟩) (Kd.R_far (p := ⟨g, 3, none⟩) (Kd.R_far (p := ⟨g, 2, none⟩) (Kd.R_mono (IsS160.apart HI0.out HO_538002.out ψ13) (fun k_ hk => (⟨hk, hk.1.2.1⟩ : _ ∧ k_ ≠ gb10))) (fun _ hk => hk.1.2) (.int .i64 x8_39)) (fun _ hk => hk.1.2) (.int .i64 x1001_39)) (fun _ hk => hk.1.2) (.int .i64 (wrap64 (x1001_39 + 1)))) (fun _ hk => hk.2) (.int .i64 s0_1)) (fun _ hk => hk.2) (.slice Ao23 t543.length co23)) (fun _ hk => hk.2) (.slice Ao1_ x538002_39.length co1_)) (fun _ hk => hk.1.1.1), ψ60, ψ62, ψ61⟩)) : P := h
theorem impl_nester_one.calls_of (k : Nat) (ihm : ∀ m_, m_ < k → (∀ (g : Nat) (s0_0 : List (S114)) (s0_1 : Int) (s0_2 : Int) (s0_3 : Int) (r1 : List (S163)) (r2 : Bool) (r3 : Int) (r4 : Int) (r5 : Int) (w0 w : World) (hI : IsS160 w0 w g s0_0 s0_1 s0_2 s0_3) (hB : Below w0.heap.size w0 w) (h : impl_nester_many.f m_ s0_0 s0_1 s0_2 s0_3 = some (r1, r2, r3, r4, r5)),
 Calls Try.prog 150 #[.pointer (some ⟨g, 0, none⟩)] w fun e w' => ∃ v0_ : Value, e = .returned (.tuple #[v0_, .bool r2]) ∧ Kd.R k163 163 w' w.heap.size (fun _ => True) v0_ r1 ∧ IsS160 w0 w' g s0_0 r3 r4 r5 ∧ Below w0.heap.size w0 w' ∧ KeepBut w w' g none)) : ∀ (g : Nat) (s0_0 : List (S114)) (s0_1 : Int) (s0_2 : Int) (s0_3 : Int) (r1 : Int) (r2 : List (S163)) (r3 : List (S163)) (r4 : Bool) (r5 : Int) (r6 : Int) (r7 : Int) (w0 w : World) (hI : IsS160 w0 w g s0_0 s0_1 s0_2 s0_3) (hB : Below w0.heap.size w0 w) (h : impl_nester_one.f k s0_0 s0_1 s0_2 s0_3 = some (r1, r2, r3, r4, r5, r6, r7)),
 Calls Try.prog 153 #[.pointer (some ⟨g, 0, none⟩)] w fun e w' => ∃ v1_ v2_ : Value, e = .returned (.tuple #[.agg #[.int .i64 r1, v1_, v2_], .bool r4]) ∧ Kd.R k163 163 w' w.heap.size (fun k_ => some k_ ≠ (v2_ : Value).ownBlock) v1_ r2 ∧ Kd.R k163 163 w' w.heap.size (fun k_ => some k_ ≠ (v1_ : Value).ownBlock) v2_ r3 ∧ IsS160 w0 w' g s0_0 r5 r6 r7 ∧ Below w0.heap.size w0 w' ∧ KeepBut w w' g none := by
 intro g s0_0 s0_1 s0_2 s0_3 r1 r2 r3 r4 r5 r6 r7 w0 w hI hB h
 cases k with
 | zero => exact absurd h (by simp [impl_nester_one.f])
 | succ k =>
 simp only [impl_nester_one.f] at h
 have hu163 := Try.underlying163
 have HI0 := Aside0.mk hI
 have HK := Aside0.mk (KeepBut.refl w g none)
 have HL := Aside0.mk hB.size
 clear hI
 have HW0 := Aside0.mk hB.size
 have HB := Aside0.mk hB
 clear hB
 have H := h
 clear h
 replace H := ifN H; obtain ⟨c2b0, H⟩ := H
 replace H := ifN H; obtain ⟨c3b0, H⟩ := H
 have HC4 := Aside0.mk H
 clear H
 go_enter Try.func153, Try.ntmps153
 go_upto_region 4 with (first | ((with_reducible refine gate_dst (N := 2) rfl ?_); refine bE 2 #[.int .i64 0, .slice none 0 0, .slice none 0 0] 163 ?_; intro gb10 hg w5 hbox hb; have q := n8_ (IsS160.below ψ57 hb) (KeepBut.trans ψ61 (KeepBut.of_below hb g none) (.inl rfl)) (below_step ψ62 hb) (hbox) ((ψ127 : w.heap.size ≤ gb10)) ((Nat.le_trans HW0.out (ψ127 : w.heap.size ≤ gb10) : w0.heap.size ≤ gb10)) ((ψ128 : g ≠ gb10)) ((ψ129 : gb10 ≠ g)); clear HI0 HK HB; obtain ⟨HI0, HK, HB, BK10, GW10, GE10, NB0_10, NB10_0⟩ := q; clear hb hbox hg; obtain ⟨ASz6_0, cSz6_0, HGz6, hgz6, HSz6_0⟩ := HI0.out; have y6_0 := cellS160_0 HGz6; have y6_1 := cellS160_1 HGz6; have y6_2 := cellS160_2 HGz6; have y6_3 := cellS160_3 HGz6; have u6_1 := blk_frozen HGz6 1; have u6_2 := blk_frozen HGz6 2; have u6_3 := blk_frozen HGz6 3; clear HGz6 hgz6) | ((with_reducible refine gate_dst (N := 4) rfl ?_); refine bE 4 #[.int .i64 0, .slice none 0 0, .slice none 0 0] 163 ?_; intro gb11 hg w7 hbox hb; have q := n11_ (IsS160.below ψ70 hb) (blk_below (g := gb10) ψ10 hb) (KeepBut.trans ψ61 (KeepBut.of_below hb g none) (.inl rfl)) (below_step ψ62 hb) (hbox) ((ψ127 : w.heap.size ≤ gb11)) ((Nat.le_trans HW0.out (ψ127 : w.heap.size ≤ gb11) : w0.heap.size ≤ gb11)) ((ψ116 : gb10 ≠ gb11)) ((ψ117 : gb11 ≠ gb10)) ((ψ130 : g ≠ gb11)) ((ψ131 : gb11 ≠ g)); clear HI0 BK10 HK HB; obtain ⟨HI0, BK10, HK, HB, BK11, GW11, GE11, NB10_11, NB11_10, NB0_11, NB11_0⟩ := q; clear hb hbox hg; have hnb8 := NB11_10.out; have hnc8 := NB10_11.out; have hnb9 := NB11_0.out; have hnc9 := NB0_11.out; obtain ⟨y10_0, y10_1, y10_2, u10_0, u10_1, u10_2⟩ := cells3 BK11.out; obtain ⟨ASz11_0, cSz11_0, HGz11, hgz11, HSz11_0⟩ := HI0.out; have y11_0 := cellS160_0 HGz11; have y11_1 := cellS160_1 HGz11; have y11_2 := cellS160_2 HGz11; have y11_3 := cellS160_3 HGz11; have u11_1 := blk_frozen HGz11 1; have u11_2 := blk_frozen HGz11 2; have u11_3 := blk_frozen HGz11 3; clear HGz11 hgz11; have p540 : 0 ≤ (s0_1 : Int) := of_decide_eq_true ψ5; have q540 : s0_1 < (s0_0.length : Int) := of_decide_eq_true ψ5; obtain ⟨ad540, A540_2, c540_2, A540_3, c540_3, e540, hx540_0, hx540_1, hx540_2, hx540_3, hl540_2, hi540_2, hl540_3, hi540_3⟩ := at_T114 HSz11_0 s0_1 p540 q540; cases e540; have hn540_0 : ad540.block ≠ gb11 := ψ132; have hn540_1 : ad540.block ≠ gb11 := ψ132; have hn540_2 : ad540.block ≠ gb11 := ψ132; replace hx540_0 := pw_cell_below HB.out hx540_0; replace hx540_1 := pw_cell_below HB.out hx540_1; replace hx540_2 := pw_cell_below HB.out hx540_2; replace hx540_3 := pw_cell_below HB.out hx540_3; have q := n4_ hi540_2 hl540_2 hi540_3 hl540_3; clear hi540_2 hl540_2 hi540_3 hl540_3; obtain ⟨HR540_2, HC540_2, HR540_3, HC540_3⟩ := q; replace hx540_0 := (cell_far (p := ⟨gb11, 0, none⟩) ψ72 (.int .i64 s0_1)).trans hx540_0; replace hx540_1 := (cell_far (p := ⟨gb11, 0, none⟩) ψ72 (.int .i64 s0_1)).trans hx540_1; replace hx540_2 := (cell_far (p := ⟨gb11, 0, none⟩) ψ72 (.int .i64 s0_1)).trans hx540_2; replace hx540_3 := (cell_far (p := ⟨gb11, 0, none⟩) ψ72 (.int .i64 s0_1)).trans hx540_3; replace hx540_0 := (cell_far (p := ⟨gb11, 1, none⟩) ψ73 (.slice none 0 0)).trans hx540_0; replace hx540_1 := (cell_far (p := ⟨gb11, 1, none⟩) ψ73 (.slice none 0 0)).trans hx540_1; replace hx540_2 := (cell_far (p := ⟨gb11, 1, none⟩) ψ73 (.slice none 0 0)).trans hx540_2; replace hx540_3 := (cell_far (p := ⟨gb11, 1, none⟩) ψ73 (.slice none 0 0)).trans hx540_3; replace hx540_0 := (cell_far (p := ⟨gb11, 2, none⟩) ψ74 (.slice none 0 0)).trans hx540_0; replace hx540_1 := (cell_far (p := ⟨gb11, 2, none⟩) ψ74 (.slice none 0 0)).trans hx540_1; replace hx540_2 := (cell_far (p := ⟨gb11, 2, none⟩) ψ74 (.slice none 0 0)).trans hx540_2; replace hx540_3 := (cell_far (p := ⟨gb11, 2, none⟩) ψ74 (.slice none 0 0)).trans hx540_3; (try have hy540_0 := fun (n_ : Nat) => (show (((((w7.drewN n_).setCell ⟨gb11, 0, none⟩ (.int .i64 s0_1)).setCell ⟨gb11, 1, none⟩ (.slice none 0 0)).setCell ⟨gb11, 2, none⟩ (.slice none 0 0))).cell? _ = some _ from hx540_0)); (try have hy540_1 := fun (n_ : Nat) => (show (((((w7.drewN n_).setCell ⟨gb11, 0, none⟩ (.int .i64 s0_1)).setCell ⟨gb11, 1, none⟩ (.slice none 0 0)).setCell ⟨gb11, 2, none⟩ (.slice none 0 0))).cell? _ = some _ from hx540_1)); (try have hy540_2 := fun (n_ : Nat) => (show (((((w7.drewN n_).setCell ⟨gb11, 0, none⟩ (.int .i64 s0_1)).setCell ⟨gb11, 1, none⟩ (.slice none 0 0)).setCell ⟨gb11, 2, none⟩ (.slice none 0 0))).cell? _ = some _ from hx540_2)); (try have hy540_3 := fun (n_ : Nat) => (show (((((w7.drewN n_).setCell ⟨gb11, 0, none⟩ (.int .i64 s0_1)).setCell ⟨gb11, 1, none⟩ (.slice none 0 0)).setCell ⟨gb11, 2, none⟩ (.slice none 0 0))).cell? _ = some _ from hx540_3)); clear hn540_0; clear hn540_1; clear hn540_2; replace p540 := eq_true p540; replace q540 := eq_true q540))
 repeat (go_quiet (first | ((with_reducible refine gate_dst (N := 2) rfl ?_); refine bE 2 #[.int .i64 0, .slice none 0 0, .slice none 0 0] 163 ?_; intro gb10 hg w5 hbox hb; have q := n8_ (IsS160.below ψ57 hb) (KeepBut.trans ψ61 (KeepBut.of_below hb g none) (.inl rfl)) (below_step ψ62 hb) (hbox) ((ψ127 : w.heap.size ≤ gb10)) ((Nat.le_trans HW0.out (ψ127 : w.heap.size ≤ gb10) : w0.heap.size ≤ gb10)) ((ψ128 : g ≠ gb10)) ((ψ129 : gb10 ≠ g)); clear HI0 HK HB; obtain ⟨HI0, HK, HB, BK10, GW10, GE10, NB0_10, NB10_0⟩ := q; clear hb hbox hg; obtain ⟨ASz6_0, cSz6_0, HGz6, hgz6, HSz6_0⟩ := HI0.out; have y6_0 := cellS160_0 HGz6; have y6_1 := cellS160_1 HGz6; have y6_2 := cellS160_2 HGz6; have y6_3 := cellS160_3 HGz6; have u6_1 := blk_frozen HGz6 1; have u6_2 := blk_frozen HGz6 2; have u6_3 := blk_frozen HGz6 3; clear HGz6 hgz6) | ((with_reducible refine gate_dst (N := 4) rfl ?_); refine bE 4 #[.int .i64 0, .slice none 0 0, .slice none 0 0] 163 ?_; intro gb11 hg w7 hbox hb; have q := n11_ (IsS160.below ψ70 hb) (blk_below (g := gb10) ψ10 hb) (KeepBut.trans ψ61 (KeepBut.of_below hb g none) (.inl rfl)) (below_step ψ62 hb) (hbox) ((ψ127 : w.heap.size ≤ gb11)) ((Nat.le_trans HW0.out (ψ127 : w.heap.size ≤ gb11) : w0.heap.size ≤ gb11)) ((ψ116 : gb10 ≠ gb11)) ((ψ117 : gb11 ≠ gb10)) ((ψ130 : g ≠ gb11)) ((ψ131 : gb11 ≠ g)); clear HI0 BK10 HK HB; obtain ⟨HI0, BK10, HK, HB, BK11, GW11, GE11, NB10_11, NB11_10, NB0_11, NB11_0⟩ := q; clear hb hbox hg; have hnb8 := NB11_10.out; have hnc8 := NB10_11.out; have hnb9 := NB11_0.out; have hnc9 := NB0_11.out; obtain ⟨y10_0, y10_1, y10_2, u10_0, u10_1, u10_2⟩ := cells3 BK11.out; obtain ⟨ASz11_0, cSz11_0, HGz11, hgz11, HSz11_0⟩ := HI0.out; have y11_0 := cellS160_0 HGz11; have y11_1 := cellS160_1 HGz11; have y11_2 := cellS160_2 HGz11; have y11_3 := cellS160_3 HGz11; have u11_1 := blk_frozen HGz11 1; have u11_2 := blk_frozen HGz11 2; have u11_3 := blk_frozen HGz11 3; clear HGz11 hgz11; have p540 : 0 ≤ (s0_1 : Int) := of_decide_eq_true ψ5; have q540 : s0_1 < (s0_0.length : Int) := of_decide_eq_true ψ5; obtain ⟨ad540, A540_2, c540_2, A540_3, c540_3, e540, hx540_0, hx540_1, hx540_2, hx540_3, hl540_2, hi540_2, hl540_3, hi540_3⟩ := at_T114 HSz11_0 s0_1 p540 q540; cases e540; have hn540_0 : ad540.block ≠ gb11 := ψ132; have hn540_1 : ad540.block ≠ gb11 := ψ132; have hn540_2 : ad540.block ≠ gb11 := ψ132; replace hx540_0 := pw_cell_below HB.out hx540_0; replace hx540_1 := pw_cell_below HB.out hx540_1; replace hx540_2 := pw_cell_below HB.out hx540_2; replace hx540_3 := pw_cell_below HB.out hx540_3; have q := n4_ hi540_2 hl540_2 hi540_3 hl540_3; clear hi540_2 hl540_2 hi540_3 hl540_3; obtain ⟨HR540_2, HC540_2, HR540_3, HC540_3⟩ := q; replace hx540_0 := (cell_far (p := ⟨gb11, 0, none⟩) ψ72 (.int .i64 s0_1)).trans hx540_0; replace hx540_1 := (cell_far (p := ⟨gb11, 0, none⟩) ψ72 (.int .i64 s0_1)).trans hx540_1; replace hx540_2 := (cell_far (p := ⟨gb11, 0, none⟩) ψ72 (.int .i64 s0_1)).trans hx540_2; replace hx540_3 := (cell_far (p := ⟨gb11, 0, none⟩) ψ72 (.int .i64 s0_1)).trans hx540_3; replace hx540_0 := (cell_far (p := ⟨gb11, 1, none⟩) ψ73 (.slice none 0 0)).trans hx540_0; replace hx540_1 := (cell_far (p := ⟨gb11, 1, none⟩) ψ73 (.slice none 0 0)).trans hx540_1; replace hx540_2 := (cell_far (p := ⟨gb11, 1, none⟩) ψ73 (.slice none 0 0)).trans hx540_2; replace hx540_3 := (cell_far (p := ⟨gb11, 1, none⟩) ψ73 (.slice none 0 0)).trans hx540_3; replace hx540_0 := (cell_far (p := ⟨gb11, 2, none⟩) ψ74 (.slice none 0 0)).trans hx540_0; replace hx540_1 := (cell_far (p := ⟨gb11, 2, none⟩) ψ74 (.slice none 0 0)).trans hx540_1; replace hx540_2 := (cell_far (p := ⟨gb11, 2, none⟩) ψ74 (.slice none 0 0)).trans hx540_2; replace hx540_3 := (cell_far (p := ⟨gb11, 2, none⟩) ψ74 (.slice none 0 0)).trans hx540_3; (try have hy540_0 := fun (n_ : Nat) => (show (((((w7.drewN n_).setCell ⟨gb11, 0, none⟩ (.int .i64 s0_1)).setCell ⟨gb11, 1, none⟩ (.slice none 0 0)).setCell ⟨gb11, 2, none⟩ (.slice none 0 0))).cell? _ = some _ from hx540_0)); (try have hy540_1 := fun (n_ : Nat) => (show (((((w7.drewN n_).setCell ⟨gb11, 0, none⟩ (.int .i64 s0_1)).setCell ⟨gb11, 1, none⟩ (.slice none 0 0)).setCell ⟨gb11, 2, none⟩ (.slice none 0 0))).cell? _ = some _ from hx540_1)); (try have hy540_2 := fun (n_ : Nat) => (show (((((w7.drewN n_).setCell ⟨gb11, 0, none⟩ (.int .i64 s0_1)).setCell ⟨gb11, 1, none⟩ (.slice none 0 0)).setCell ⟨gb11, 2, none⟩ (.slice none 0 0))).cell? _ = some _ from hx540_2)); (try have hy540_3 := fun (n_ : Nat) => (show (((((w7.drewN n_).setCell ⟨gb11, 0, none⟩ (.int .i64 s0_1)).setCell ⟨gb11, 1, none⟩ (.slice none 0 0)).setCell ⟨gb11, 2, none⟩ (.slice none 0 0))).cell? _ = some _ from hx540_3)); clear hn540_0; clear hn540_1; clear hn540_2; replace p540 := eq_true p540; replace q540 := eq_true q540)); go_upto_region 4 with (first | ((with_reducible refine gate_dst (N := 2) rfl ?_); refine bE 2 #[.int .i64 0, .slice none 0 0, .slice none 0 0] 163 ?_; intro gb10 hg w5 hbox hb; have q := n8_ (IsS160.below ψ57 hb) (KeepBut.trans ψ61 (KeepBut.of_below hb g none) (.inl rfl)) (below_step ψ62 hb) (hbox) ((ψ127 : w.heap.size ≤ gb10)) ((Nat.le_trans HW0.out (ψ127 : w.heap.size ≤ gb10) : w0.heap.size ≤ gb10)) ((ψ128 : g ≠ gb10)) ((ψ129 : gb10 ≠ g)); clear HI0 HK HB; obtain ⟨HI0, HK, HB, BK10, GW10, GE10, NB0_10, NB10_0⟩ := q; clear hb hbox hg; obtain ⟨ASz6_0, cSz6_0, HGz6, hgz6, HSz6_0⟩ := HI0.out; have y6_0 := cellS160_0 HGz6; have y6_1 := cellS160_1 HGz6; have y6_2 := cellS160_2 HGz6; have y6_3 := cellS160_3 HGz6; have u6_1 := blk_frozen HGz6 1; have u6_2 := blk_frozen HGz6 2; have u6_3 := blk_frozen HGz6 3; clear HGz6 hgz6) | ((with_reducible refine gate_dst (N := 4) rfl ?_); refine bE 4 #[.int .i64 0, .slice none 0 0, .slice none 0 0] 163 ?_; intro gb11 hg w7 hbox hb; have q := n11_ (IsS160.below ψ70 hb) (blk_below (g := gb10) ψ10 hb) (KeepBut.trans ψ61 (KeepBut.of_below hb g none) (.inl rfl)) (below_step ψ62 hb) (hbox) ((ψ127 : w.heap.size ≤ gb11)) ((Nat.le_trans HW0.out (ψ127 : w.heap.size ≤ gb11) : w0.heap.size ≤ gb11)) ((ψ116 : gb10 ≠ gb11)) ((ψ117 : gb11 ≠ gb10)) ((ψ130 : g ≠ gb11)) ((ψ131 : gb11 ≠ g)); clear HI0 BK10 HK HB; obtain ⟨HI0, BK10, HK, HB, BK11, GW11, GE11, NB10_11, NB11_10, NB0_11, NB11_0⟩ := q; clear hb hbox hg; have hnb8 := NB11_10.out; have hnc8 := NB10_11.out; have hnb9 := NB11_0.out; have hnc9 := NB0_11.out; obtain ⟨y10_0, y10_1, y10_2, u10_0, u10_1, u10_2⟩ := cells3 BK11.out; obtain ⟨ASz11_0, cSz11_0, HGz11, hgz11, HSz11_0⟩ := HI0.out; have y11_0 := cellS160_0 HGz11; have y11_1 := cellS160_1 HGz11; have y11_2 := cellS160_2 HGz11; have y11_3 := cellS160_3 HGz11; have u11_1 := blk_frozen HGz11 1; have u11_2 := blk_frozen HGz11 2; have u11_3 := blk_frozen HGz11 3; clear HGz11 hgz11; have p540 : 0 ≤ (s0_1 : Int) := of_decide_eq_true ψ5; have q540 : s0_1 < (s0_0.length : Int) := of_decide_eq_true ψ5; obtain ⟨ad540, A540_2, c540_2, A540_3, c540_3, e540, hx540_0, hx540_1, hx540_2, hx540_3, hl540_2, hi540_2, hl540_3, hi540_3⟩ := at_T114 HSz11_0 s0_1 p540 q540; cases e540; have hn540_0 : ad540.block ≠ gb11 := ψ132; have hn540_1 : ad540.block ≠ gb11 := ψ132; have hn540_2 : ad540.block ≠ gb11 := ψ132; replace hx540_0 := pw_cell_below HB.out hx540_0; replace hx540_1 := pw_cell_below HB.out hx540_1; replace hx540_2 := pw_cell_below HB.out hx540_2; replace hx540_3 := pw_cell_below HB.out hx540_3; have q := n4_ hi540_2 hl540_2 hi540_3 hl540_3; clear hi540_2 hl540_2 hi540_3 hl540_3; obtain ⟨HR540_2, HC540_2, HR540_3, HC540_3⟩ := q; replace hx540_0 := (cell_far (p := ⟨gb11, 0, none⟩) ψ72 (.int .i64 s0_1)).trans hx540_0; replace hx540_1 := (cell_far (p := ⟨gb11, 0, none⟩) ψ72 (.int .i64 s0_1)).trans hx540_1; replace hx540_2 := (cell_far (p := ⟨gb11, 0, none⟩) ψ72 (.int .i64 s0_1)).trans hx540_2; replace hx540_3 := (cell_far (p := ⟨gb11, 0, none⟩) ψ72 (.int .i64 s0_1)).trans hx540_3; replace hx540_0 := (cell_far (p := ⟨gb11, 1, none⟩) ψ73 (.slice none 0 0)).trans hx540_0; replace hx540_1 := (cell_far (p := ⟨gb11, 1, none⟩) ψ73 (.slice none 0 0)).trans hx540_1; replace hx540_2 := (cell_far (p := ⟨gb11, 1, none⟩) ψ73 (.slice none 0 0)).trans hx540_2; replace hx540_3 := (cell_far (p := ⟨gb11, 1, none⟩) ψ73 (.slice none 0 0)).trans hx540_3; replace hx540_0 := (cell_far (p := ⟨gb11, 2, none⟩) ψ74 (.slice none 0 0)).trans hx540_0; replace hx540_1 := (cell_far (p := ⟨gb11, 2, none⟩) ψ74 (.slice none 0 0)).trans hx540_1; replace hx540_2 := (cell_far (p := ⟨gb11, 2, none⟩) ψ74 (.slice none 0 0)).trans hx540_2; replace hx540_3 := (cell_far (p := ⟨gb11, 2, none⟩) ψ74 (.slice none 0 0)).trans hx540_3; (try have hy540_0 := fun (n_ : Nat) => (show (((((w7.drewN n_).setCell ⟨gb11, 0, none⟩ (.int .i64 s0_1)).setCell ⟨gb11, 1, none⟩ (.slice none 0 0)).setCell ⟨gb11, 2, none⟩ (.slice none 0 0))).cell? _ = some _ from hx540_0)); (try have hy540_1 := fun (n_ : Nat) => (show (((((w7.drewN n_).setCell ⟨gb11, 0, none⟩ (.int .i64 s0_1)).setCell ⟨gb11, 1, none⟩ (.slice none 0 0)).setCell ⟨gb11, 2, none⟩ (.slice none 0 0))).cell? _ = some _ from hx540_1)); (try have hy540_2 := fun (n_ : Nat) => (show (((((w7.drewN n_).setCell ⟨gb11, 0, none⟩ (.int .i64 s0_1)).setCell ⟨gb11, 1, none⟩ (.slice none 0 0)).setCell ⟨gb11, 2, none⟩ (.slice none 0 0))).cell? _ = some _ from hx540_2)); (try have hy540_3 := fun (n_ : Nat) => (show (((((w7.drewN n_).setCell ⟨gb11, 0, none⟩ (.int .i64 s0_1)).setCell ⟨gb11, 1, none⟩ (.slice none 0 0)).setCell ⟨gb11, 2, none⟩ (.slice none 0 0))).cell? _ = some _ from hx540_3)); clear hn540_0; clear hn540_1; clear hn540_2; replace p540 := eq_true p540; replace q540 := eq_true q540)))
 (try simp only [Act.put, List.setIfInBounds_toArray, List.set_cons_zero, List.set_cons_succ])
 go_cut [41] (fun v41 wc => ∃ (kq : Nat) (x41_3 : Bool), v41 = .bool x41_3 ∧ Aside0 (impl_nester_one.j0 kq ((rd_T114 s0_0 s0_1).f0) x41_3 s0_0 (wrap64 (s0_1 + 1)) s0_2 s0_3 s0_1 = some (r1, r2, r3, r4, r5, r6, r7)) ∧ Aside0 (kq ≤ k) ∧ Aside0 (wc.heap[gb10]? = some (.cells #[.int .i64 0, (.slice none 0 0), (.slice none 0 0)] 163 (0, 0))) ∧ Aside0 (wc.heap[gb11]? = some (.cells #[.int .i64 s0_1, (.slice none 0 0), (.slice none 0 0)] 163 (0, 0))) ∧ Aside0 (IsS160 w0 wc g s0_0 (wrap64 (s0_1 + 1)) s0_2 s0_3) ∧ Aside0 (KeepBut w wc g none) ∧ Aside0 (Below w0.heap.size w0 wc))
 case first =>
  have H := HC4.out
  clear HC4
  replace H := ifF H; rcases H with ⟨c12b0, c12b1, H⟩ | ⟨c12b0, c12b1, c12, H⟩
  ·(first | rw [c12b0] | rw [c12b1] | (simp only [i64_w, i32_w]; rw [c12b0]) | skip)
   exact τ52
  ·(first | rw [c12b0] | rw [c12b1] | (simp only [i64_w, i32_w]; rw [c12b0]) | skip)
   replace H := ifF H; rcases H with ⟨c13b0, c13b1, H⟩ | ⟨c13b0, c13b1, c13, H⟩
   ·exact τ52
   ·exact τ52
 case rest =>
  clear HC4
  try clear c2
  try clear c2b0
  try clear c3
  try clear c3b0
  try clear c12
  try clear c12b0
  try clear c12b1
  try clear c13
  try clear c13b0
  try clear c13b1
  try clear y10_0 y10_1 y10_2
  try clear y11_0 y11_1 y11_2 y11_3
  try clear y6_0 y6_1 y6_2 y6_3
  try clear u10_0 u10_1 u10_2
  try clear u11_1 u11_2 u11_3
  try clear u6_1 u6_2 u6_3
  try clear hx540_0
  try clear hx540_1
  try clear hx540_2
  try clear hx540_3
  try clear p540
  try clear q540
  obtain ⟨kq, x41_3, rfl, HA, HJ3, BK10, BK11, HI0, HK, HB⟩ := hcut
  cases kq with
  | zero => exact absurd HA.out (by simp [impl_nester_one.j0])
  | succ kj3 =>
   have H := HA.out
   clear HA
   simp only [impl_nester_one.j0] at H
   replace H := ifB H; rcases H with ⟨rfl, H⟩ | ⟨rfl, H⟩
   ·simp only [Option.some.injEq, Prod.mk.injEq] at H
    obtain ⟨rfl, rfl, rfl, rfl, rfl, rfl, rfl⟩ := H
    have hnb15 := NB11_10.out
    have hnc15 := NB10_11.out
    have hnb16 := NB11_0.out
    have hnc16 := NB0_11.out
    obtain ⟨y17_0, y17_1, y17_2, u17_0, u17_1, u17_2⟩ := cells3 BK11.out
    have hnb18 := NB10_0.out
    have hnc18 := NB0_10.out
    obtain ⟨y19_0, y19_1, y19_2, u19_0, u19_1, u19_2⟩ := cells3 BK10.out
    go_wp2_with (first | ((with_reducible refine qR_ ?_)) | ((with_reducible refine wpQuiet_step (fun K hK => ?_)); go_simp; first | (refine hK _ ?_; clear hK K) | (apply Exists.intro; refine ⟨fun _ => ?_, hK _ ?_⟩)) | ((with_reducible refine wpQuiet_nil ?_); rintro _ ⟨nq, rfl⟩))
    refine bodyPost_ret (results_ct rfl _ _ gb10 163 #[.int .i64 s0_1, .slice none 0 0, .slice none 0 0] (0, 0) _ rfl (by (with_reducible repeat (first | refine blk_drewN ?_ _ | refine blk_drew ?_ | refine blk_alloc ?_ _)); refine blk_put (cs := #[.int .i64 s0_1, .slice none 0 0, .slice none 0 0]) ?_ 2 _ rfl; (with_reducible repeat (first | refine blk_drewN ?_ _ | refine blk_drew ?_ | refine blk_alloc ?_ _)); refine blk_put (cs := #[.int .i64 s0_1, .slice none 0 0, .slice none 0 0]) ?_ 1 _ rfl; (with_reducible repeat (first | refine blk_drewN ?_ _ | refine blk_drew ?_ | refine blk_alloc ?_ _)); refine blk_put (cs := #[.int .i64 0, .slice none 0 0, .slice none 0 0]) ?_ 0 _ rfl; (with_reducible repeat (first | refine blk_drewN ?_ _ | refine blk_drew ?_ | refine blk_alloc ?_ _)); exact BK10.out) Try.underlying163 rfl ψ12) rfl ?_
    exact ⟨_, _, ψ4, ψ69, ψ69, ψ60, ψ62, ψ61⟩
   ·replace H := bS H; obtain ⟨⟨t543, t546, t547, t548, t549⟩, A20, H⟩ := H
    have HC21 := Aside0.mk H
    clear H
    go_upto_region 9 with (first | (go_at_call 150; (with_reducible refine (ihm kj3 (by have := HJ3.out; omega) g s0_0 (wrap64 (s0_1 + 1)) s0_2 s0_3 t543 t546 t547 t548 t549 w0 _ ?_ ?_ A20.out).mono ?_); exact ψ60; exact ψ62; rintro e w22 ⟨v544, rfl, ho0, hi, hb, hk⟩; have q := n6_ (KeepBut.blk hk (g' := gb10) ψ10 NB10_0.out ψ22) (KeepBut.blk hk (g' := gb11) ψ24 NB11_0.out ψ22) (Kd.R_lower (Kd.R_newB (Kd.R_newB ho0 (g := gb10) ψ10) (g := gb11) ψ24) (keep_size (w := w) (g := g) (row := none) ψ61)) (KeepBut.trans ψ61 hk (.inl rfl)) (hb) (hi); clear BK10 BK11 HK HB HI0; obtain ⟨BK10, BK11, HO545, HK, HB, HI0⟩ := q; (try clear hb hk hi); (try clear ho0); obtain ⟨Ao23, co23, eo23⟩ := Kd.R_slice HO545.out; subst eo23; have hnb24 := NB11_10.out; have hnc24 := NB10_11.out; have hnb25 := NB11_0.out; have hnc25 := NB0_11.out; obtain ⟨y26_0, y26_1, y26_2, u26_0, u26_1, u26_2⟩ := cells3 BK11.out))
    repeat (go_quiet (first | (go_at_call 150; (with_reducible refine (ihm kj3 (by have := HJ3.out; omega) g s0_0 (wrap64 (s0_1 + 1)) s0_2 s0_3 t543 t546 t547 t548 t549 w0 _ ?_ ?_ A20.out).mono ?_); exact ψ60; exact ψ62; rintro e w22 ⟨v544, rfl, ho0, hi, hb, hk⟩; have q := n6_ (KeepBut.blk hk (g' := gb10) ψ10 NB10_0.out ψ22) (KeepBut.blk hk (g' := gb11) ψ24 NB11_0.out ψ22) (Kd.R_lower (Kd.R_newB (Kd.R_newB ho0 (g := gb10) ψ10) (g := gb11) ψ24) (keep_size (w := w) (g := g) (row := none) ψ61)) (KeepBut.trans ψ61 hk (.inl rfl)) (hb) (hi); clear BK10 BK11 HK HB HI0; obtain ⟨BK10, BK11, HO545, HK, HB, HI0⟩ := q; (try clear hb hk hi); (try clear ho0); obtain ⟨Ao23, co23, eo23⟩ := Kd.R_slice HO545.out; subst eo23; have hnb24 := NB11_10.out; have hnc24 := NB10_11.out; have hnb25 := NB11_0.out; have hnc25 := NB0_11.out; obtain ⟨y26_0, y26_1, y26_2, u26_0, u26_1, u26_2⟩ := cells3 BK11.out)); go_upto_region 9 with (first | (go_at_call 150; (with_reducible refine (ihm kj3 (by have := HJ3.out; omega) g s0_0 (wrap64 (s0_1 + 1)) s0_2 s0_3 t543 t546 t547 t548 t549 w0 _ ?_ ?_ A20.out).mono ?_); exact ψ60; exact ψ62; rintro e w22 ⟨v544, rfl, ho0, hi, hb, hk⟩; have q := n6_ (KeepBut.blk hk (g' := gb10) ψ10 NB10_0.out ψ22) (KeepBut.blk hk (g' := gb11) ψ24 NB11_0.out ψ22) (Kd.R_lower (Kd.R_newB (Kd.R_newB ho0 (g := gb10) ψ10) (g := gb11) ψ24) (keep_size (w := w) (g := g) (row := none) ψ61)) (KeepBut.trans ψ61 hk (.inl rfl)) (hb) (hi); clear BK10 BK11 HK HB HI0; obtain ⟨BK10, BK11, HO545, HK, HB, HI0⟩ := q; (try clear hb hk hi); (try clear ho0); obtain ⟨Ao23, co23, eo23⟩ := Kd.R_slice HO545.out; subst eo23; have hnb24 := NB11_10.out; have hnc24 := NB10_11.out; have hnb25 := NB11_0.out; have hnc25 := NB0_11.out; obtain ⟨y26_0, y26_1, y26_2, u26_0, u26_1, u26_2⟩ := cells3 BK11.out)))
    (try simp only [Act.put, List.setIfInBounds_toArray, List.set_cons_zero, List.set_cons_succ])
    go_cut [66] (fun v66 wc => ∃ (kq : Nat) (x66_20 : Bool), v66 = .bool x66_20 ∧ Aside0 (impl_nester_one.j1 kq ((rd_T114 s0_0 s0_1).f0) t546 (-1) x66_20 s0_0 t547 t548 t549 s0_1 t543 = some (r1, r2, r3, r4, r5, r6, r7)) ∧ Aside0 (kq ≤ kj3) ∧ Aside0 (Kd.R k163 163 wc w.heap.size (fun k_ => k_ ≠ gb10 ∧ k_ ≠ gb11) (.slice Ao23 t543.length co23) t543) ∧ Aside0 (wc.heap[gb10]? = some (.cells #[.int .i64 0, (.slice none 0 0), (.slice none 0 0)] 163 (0, 0))) ∧ Aside0 (wc.heap[gb11]? = some (.cells #[.int .i64 s0_1, (.slice Ao23 t543.length co23), (.slice none 0 0)] 163 (0, 0))) ∧ Aside0 (IsS160 w0 wc g s0_0 t547 t548 t549) ∧ Aside0 (KeepBut w wc g none) ∧ Aside0 (Below w0.heap.size w0 wc))
    case first =>
     have H := HC21.out
     clear HC21
     replace H := ifB H; rcases H with ⟨rfl, H⟩ | ⟨rfl, H⟩
     ·by_cases c28 : ((rd_T114 s0_0 s0_1).f0) = 2
      ·rw [if_pos c28] at H
       have c28b0 : (((rd_T114 s0_0 s0_1).f0) == 2) = true := beq_iff_eq.mpr c28
       have c28b1 : (((rd_T114 s0_0 s0_1).f0) != 2) = false := bne_eq_false_iff_eq.mpr c28
       clear c28
       (first | rw [c28b0] | rw [c28b1] | (simp only [i64_w, i32_w]; rw [c28b0]) | skip)
       replace H := bS H; obtain ⟨t550, A29, H⟩ := H
       replace H := ifB H; rcases H with ⟨rfl, H⟩ | ⟨rfl, H⟩
       ·exact τ53
       ·by_cases c32 : ((rd_T114 s0_0 s0_1).f0) = 8
        ·rw [if_pos c32] at H
         have c32b0 : (((rd_T114 s0_0 s0_1).f0) == 8) = true := beq_iff_eq.mpr c32
         have c32b1 : (((rd_T114 s0_0 s0_1).f0) != 8) = false := bne_eq_false_iff_eq.mpr c32
         clear c32
         replace H := bS H; obtain ⟨t551, A33, H⟩ := H
         exact τ53
        ·rw [if_neg c32] at H
         have c32b0 : (((rd_T114 s0_0 s0_1).f0) == 8) = false := beq_eq_false_iff_ne.mpr c32
         have c32b1 : (((rd_T114 s0_0 s0_1).f0) != 8) = true := bne_iff_ne.mpr c32
         exact τ53
      ·rw [if_neg c28] at H
       have c28b0 : (((rd_T114 s0_0 s0_1).f0) == 2) = false := beq_eq_false_iff_ne.mpr c28
       have c28b1 : (((rd_T114 s0_0 s0_1).f0) != 2) = true := bne_iff_ne.mpr c28
       (first | rw [c28b0] | rw [c28b1] | (simp only [i64_w, i32_w]; rw [c28b0]) | skip)
       replace H := ifF H; rcases H with ⟨c37b0, c37b1, H⟩ | ⟨c37b0, c37b1, c37, H⟩
       ·replace H := bS H; obtain ⟨t552, A38, H⟩ := H
        exact τ53
       ·exact τ53
     ·exact τ53
    case rest =>
     clear HC21
     try clear c2
     try clear c2b0
     try clear c3
     try clear c3b0
     try clear c12
     try clear c12b0
     try clear c12b1
     try clear c13
     try clear c13b0
     try clear c13b1
     try clear c14
     try clear c27
     try clear c28
     try clear c28b0
     try clear c28b1
     try clear c30
     try clear c32
     try clear c32b0
     try clear c32b1
     try clear c37
     try clear c37b0
     try clear c37b1
     try clear y10_0 y10_1 y10_2
     try clear y11_0 y11_1 y11_2 y11_3
     try clear y17_0 y17_1 y17_2
     try clear y19_0 y19_1 y19_2
     try clear y26_0 y26_1 y26_2
     try clear y6_0 y6_1 y6_2 y6_3
     try clear u10_0 u10_1 u10_2
     try clear u11_1 u11_2 u11_3
     try clear u17_0 u17_1 u17_2
     try clear u19_0 u19_1 u19_2
     try clear u26_0 u26_1 u26_2
     try clear u6_1 u6_2 u6_3
     try clear hx540_0
     try clear hx540_1
     try clear hx540_2
     try clear hx540_3
     try clear p540
     try clear q540
     obtain ⟨kq, x66_20, rfl, HA, HJ20, HO_538001, BK10, BK11, HI0, HK, HB⟩ := hcut
     cases kq with
     | zero => exact absurd HA.out (by simp [impl_nester_one.j1])
     | succ kj20 =>
      have H := HA.out
      clear HA
      simp only [impl_nester_one.j1] at H
      have HC40 := Aside0.mk H
      clear H
      go_upto_if 66 with (fail)
      repeat (go_quiet (fail); go_upto_if 66 with (fail))
      go_cut [7, 8] (fun v7 v8 wc => ∃ (kq : Nat) (x7_39 : Bool) (x8_39 : Int) (x1001_39 : Int) (x1002_39 : Int) (x1003_39 : Int) (x538002_39 : List (S163)) (u538002 : Value), v7 = .bool x7_39 ∧ v8 = .int .i64 x8_39 ∧ Aside0 (impl_nester_one.j2 kq ((rd_T114 s0_0 s0_1).f0) x7_39 x8_39 s0_0 x1001_39 x1002_39 x1003_39 s0_1 t543 x538002_39 = some (r1, r2, r3, r4, r5, r6, r7)) ∧ Aside0 (kq ≤ kj20) ∧ Aside0 (Kd.R k163 163 wc w.heap.size (fun k_ => some k_ ≠ (u538002 : Value).ownBlock ∧ k_ ≠ gb10 ∧ k_ ≠ gb11) (.slice Ao23 t543.length co23) t543) ∧ Aside0 (Kd.R k163 163 wc w.heap.size (fun k_ => some k_ ≠ ((.slice Ao23 t543.length co23) : Value).ownBlock ∧ k_ ≠ gb10 ∧ k_ ≠ gb11) u538002 x538002_39) ∧ Aside0 (wc.heap[gb10]? = some (.cells #[.int .i64 0, (.slice none 0 0), (.slice none 0 0)] 163 (0, 0))) ∧ Aside0 (wc.heap[gb11]? = some (.cells #[.int .i64 s0_1, (.slice Ao23 t543.length co23), u538002] 163 (0, 0))) ∧ Aside0 (IsS160 w0 wc g s0_0 x1001_39 x1002_39 x1003_39) ∧ Aside0 (KeepBut w wc g none) ∧ Aside0 (Below w0.heap.size w0 wc))
      case first =>
       have H := HC40.out
       clear HC40
       replace H := ifB H; rcases H with ⟨rfl, H⟩ | ⟨rfl, H⟩
       ·replace H := bS H; obtain ⟨⟨t555, t558, t559, t560, t561⟩, A42, H⟩ := H
        have H' := Aside0.mk H
        clear H
        obtain ⟨ASz43_0, cSz43_0, HGz43, hgz43, HSz43_0⟩ := HI0.out
        have y43_0 := cellS160_0 HGz43
        have y43_1 := cellS160_1 HGz43
        have y43_2 := cellS160_2 HGz43
        have y43_3 := cellS160_3 HGz43
        have u43_1 := blk_frozen HGz43 1
        have u43_2 := blk_frozen HGz43 2
        have u43_3 := blk_frozen HGz43 3
        clear HGz43 hgz43
        go_wp2_with (first | (go_at_call 150; (with_reducible refine (ihm kj20 (by have := HJ3.out; have := HJ20.out; omega) g s0_0 (wrap64 (t547 + 1)) t548 t549 t555 t558 t559 t560 t561 w0 _ ?_ ?_ A42.out).mono ?_); exact ψ60; exact ψ62; rintro e w44 ⟨v556, rfl, ho0, hi, hb, hk⟩; have q := n7_ (Kd.R_mono (Kd.R_told (Kd.R_oldK (IsS160.apart (show IsS160 w0 _ g s0_0 (wrap64 (t547 + 1)) t548 t549 from ψ60) ψ133 ψ13) hk) (Kd.R_base ho0)) (fun _ h_ => h_.1)) (KeepBut.blk hk (g' := gb10) (o := .cells #[.int .i64 0, .slice none 0 0, .slice none 0 0] 163 (0, 0)) ψ75 NB10_0.out ψ22) (KeepBut.blk hk (g' := gb11) (o := .cells #[.int .i64 s0_1, .slice Ao23 t543.length co23, .slice none 0 0] 163 (0, 0)) ψ76 NB11_0.out ψ22) (Kd.R_lower (Kd.R_newB (Kd.R_newB (Kd.R_new' ho0 (Kd.R_lt ψ133)) (g := gb10) (o := .cells #[.int .i64 0, .slice none 0 0, .slice none 0 0] 163 (0, 0)) ψ75) (g := gb11) (o := .cells #[.int .i64 s0_1, .slice Ao23 t543.length co23, .slice none 0 0] 163 (0, 0)) ψ76) (keep_size (w := w) (g := g) (row := none) ψ61)) (KeepBut.trans ψ61 hk (.inl rfl)) (hb) (hi); clear HO_538001 BK10 BK11 HK HB HI0; obtain ⟨HO_538001, BK10, BK11, HO557, HK, HB, HI0⟩ := q; (try clear hb hk hi); (try clear ho0); obtain ⟨Ao45, co45, eo45⟩ := Kd.R_slice HO557.out; subst eo45; have hnb46 := NB11_10.out; have hnc46 := NB10_11.out; have hnb47 := NB11_0.out; have hnc47 := NB0_11.out; obtain ⟨y48_0, y48_1, y48_2, u48_0, u48_1, u48_2⟩ := cells3 BK11.out) | ((with_reducible refine qR_ ?_)) | ((with_reducible refine wpQuiet_step (fun K hK => ?_)); go_simp; first | (refine hK _ ?_; clear hK K) | (apply Exists.intro; refine ⟨fun _ => ?_, hK _ ?_⟩)) | ((with_reducible refine wpQuiet_nil ?_); rintro _ ⟨nq, rfl⟩))
        go_meet
        case rel => exact ⟨_, (t558), (t547), (t559), (t560), (t561), (t555), (.slice Ao45 t555.length co45), ψ7, ψ7, H', ⟨ψ77⟩, ⟨by (with_reducible repeat (first | apply Kd.R_alloc | apply Kd.R_drewN | apply Kd.R_drew)); exact Kd.R_mono (Kd.R_far (p := ⟨gb11, 2, none⟩) (Kd.R_mono HO_538001.out (fun k_ hk => (⟨hk, hk.1.2⟩ : _ ∧ k_ ≠ gb11))) (fun _ hk => hk.2) (.slice Ao45 t555.length co45)) (fun _ hk => ⟨hk.1.2, ⟨hk.1.1.1, hk.1.1.2⟩⟩)⟩, ⟨by (with_reducible repeat (first | apply Kd.R_alloc | apply Kd.R_drewN | apply Kd.R_drew)); exact Kd.R_mono (Kd.R_far (p := ⟨gb11, 2, none⟩) (Kd.R_mono HO557.out (fun k_ hk => (⟨hk, hk.2⟩ : _ ∧ k_ ≠ gb11))) (fun _ hk => hk.2) (.slice Ao45 t555.length co45)) (fun _ hk => ⟨hk.1.1.1.2, ⟨hk.1.1.2, hk.1.2⟩⟩)⟩, ⟨ψ63⟩, ⟨by (with_reducible repeat (first | refine blk_drewN ?_ _ | refine blk_drew ?_ | refine blk_alloc ?_ _)); refine blk_put (cs := #[.int .i64 s0_1, .slice Ao23 t543.length co23, .slice none 0 0]) ?_ 2 _ rfl; (with_reducible repeat (first | refine blk_drewN ?_ _ | refine blk_drew ?_ | refine blk_alloc ?_ _)); exact BK11.out⟩, ⟨ψ60⟩, ⟨ψ61⟩, ⟨ψ62⟩⟩
       ·have H' := Aside0.mk H
        clear H
        go_wp2_with (first | ((with_reducible refine qR_ ?_)) | ((with_reducible refine wpQuiet_step (fun K hK => ?_)); go_simp; first | (refine hK _ ?_; clear hK K) | (apply Exists.intro; refine ⟨fun _ => ?_, hK _ ?_⟩)) | ((with_reducible refine wpQuiet_nil ?_); rintro _ ⟨nq, rfl⟩))
        go_meet
        case rel => exact ⟨_, (t546), ((-1)), (t547), (t548), (t549), (([] : List (S163))), (.slice none 0 0), ψ7, ψ7, H', ⟨ψ77⟩, ⟨by (with_reducible repeat (first | apply Kd.R_alloc | apply Kd.R_drewN | apply Kd.R_drew)); exact Kd.R_mono HO_538001.out (fun _ hk => ⟨(by simp [Value.ownBlock]), ⟨hk.1, hk.2⟩⟩)⟩, ⟨ψ69⟩, ⟨ψ10⟩, ⟨ψ24⟩, ⟨ψ60⟩, ⟨ψ61⟩, ⟨ψ62⟩⟩
      case rest =>
       clear HC40
       try clear c2
       try clear c2b0
       try clear c3
       try clear c3b0
       try clear c12
       try clear c12b0
       try clear c12b1
       try clear c13
       try clear c13b0
       try clear c13b1
       try clear c14
       try clear c27
       try clear c28
       try clear c28b0
       try clear c28b1
       try clear c30
       try clear c32
       try clear c32b0
       try clear c32b1
       try clear c37
       try clear c37b0
       try clear c37b1
       try clear c41
       try clear y10_0 y10_1 y10_2
       try clear y11_0 y11_1 y11_2 y11_3
       try clear y17_0 y17_1 y17_2
       try clear y19_0 y19_1 y19_2
       try clear y26_0 y26_1 y26_2
       try clear y43_0 y43_1 y43_2 y43_3
       try clear y48_0 y48_1 y48_2
       try clear y6_0 y6_1 y6_2 y6_3
       try clear u10_0 u10_1 u10_2
       try clear u11_1 u11_2 u11_3
       try clear u17_0 u17_1 u17_2
       try clear u19_0 u19_1 u19_2
       try clear u26_0 u26_1 u26_2
       try clear u43_1 u43_2 u43_3
       try clear u48_0 u48_1 u48_2
       try clear u6_1 u6_2 u6_3
       try clear hx540_0
       try clear hx540_1
       try clear hx540_2
       try clear hx540_3
       try clear p540
       try clear q540
       obtain ⟨kq, x7_39, x8_39, x1001_39, x1002_39, x1003_39, x538002_39, u538002, rfl, rfl, HA, HJ39, HO_538001, HO_538002, BK10, BK11, HI0, HK, HB⟩ := hcut
       cases kq with
       | zero => exact absurd HA.out (by simp [impl_nester_one.j2])
       | succ kj39 =>
        have H := HA.out
        clear HA
        simp only [impl_nester_one.j2] at H
        have HC49 := Aside0.mk H
        clear H
        go_upto_region 13 with (fail)
        repeat (go_quiet (fail); go_upto_region 13 with (fail))
        go_cut [98] (fun v98 wc => ∃ (kq : Nat) (x98_48 : Bool), v98 = .bool x98_48 ∧ Aside0 (impl_nester_one.j3 kq x8_39 x98_48 s0_0 x1001_39 x1002_39 x1003_39 s0_1 t543 x538002_39 = some (r1, r2, r3, r4, r5, r6, r7)) ∧ Aside0 (kq ≤ kj39) ∧ Aside0 (Kd.R k163 163 wc w.heap.size (fun k_ => some k_ ≠ (u538002 : Value).ownBlock ∧ k_ ≠ gb10 ∧ k_ ≠ gb11) (.slice Ao23 t543.length co23) t543) ∧ Aside0 (Kd.R k163 163 wc w.heap.size (fun k_ => some k_ ≠ ((.slice Ao23 t543.length co23) : Value).ownBlock ∧ k_ ≠ gb10 ∧ k_ ≠ gb11) u538002 x538002_39) ∧ Aside0 (wc.heap[gb10]? = some (.cells #[.int .i64 0, (.slice none 0 0), (.slice none 0 0)] 163 (0, 0))) ∧ Aside0 (wc.heap[gb11]? = some (.cells #[.int .i64 s0_1, (.slice Ao23 t543.length co23), u538002] 163 (0, 0))) ∧ Aside0 (IsS160 w0 wc g s0_0 x1001_39 x1002_39 x1003_39) ∧ Aside0 (KeepBut w wc g none) ∧ Aside0 (Below w0.heap.size w0 wc))
        case first =>
         have H := HC49.out
         clear HC49
         replace H := ifB H; rcases H with ⟨rfl, H⟩ | ⟨rfl, H⟩
         ·replace H := bS H; obtain ⟨t562, A51, H⟩ := H
          replace H := ifB H; rcases H with ⟨rfl, H⟩ | ⟨rfl, H⟩
          ·by_cases c53 : ((rd_T114 s0_0 s0_1).f0) = 8
           ·rw [if_pos c53] at H
            have c53b0 : (((rd_T114 s0_0 s0_1).f0) == 8) = true := beq_iff_eq.mpr c53
            have c53b1 : (((rd_T114 s0_0 s0_1).f0) != 8) = false := bne_eq_false_iff_eq.mpr c53
            clear c53
            (first | rw [c53b0] | rw [c53b1] | (simp only [i64_w, i32_w]; rw [c53b0]) | skip)
            exact τ54
           ·rw [if_neg c53] at H
            have c53b0 : (((rd_T114 s0_0 s0_1).f0) == 8) = false := beq_eq_false_iff_ne.mpr c53
            have c53b1 : (((rd_T114 s0_0 s0_1).f0) != 8) = true := bne_iff_ne.mpr c53
            (first | rw [c53b0] | rw [c53b1] | (simp only [i64_w, i32_w]; rw [c53b0]) | skip)
            exact τ54
          ·exact τ54
         ·exact τ54
        case rest =>
         clear HC49
         try clear c2
         try clear c2b0
         try clear c3
         try clear c3b0
         try clear c12
         try clear c12b0
         try clear c12b1
         try clear c13
         try clear c13b0
         try clear c13b1
         try clear c14
         try clear c27
         try clear c28
         try clear c28b0
         try clear c28b1
         try clear c30
         try clear c32
         try clear c32b0
         try clear c32b1
         try clear c37
         try clear c37b0
         try clear c37b1
         try clear c41
         try clear c50
         try clear c52
         try clear c53
         try clear c53b0
         try clear c53b1
         try clear y10_0 y10_1 y10_2
         try clear y11_0 y11_1 y11_2 y11_3
         try clear y17_0 y17_1 y17_2
         try clear y19_0 y19_1 y19_2
         try clear y26_0 y26_1 y26_2
         try clear y43_0 y43_1 y43_2 y43_3
         try clear y48_0 y48_1 y48_2
         try clear y6_0 y6_1 y6_2 y6_3
         try clear u10_0 u10_1 u10_2
         try clear u11_1 u11_2 u11_3
         try clear u17_0 u17_1 u17_2
         try clear u19_0 u19_1 u19_2
         try clear u26_0 u26_1 u26_2
         try clear u43_1 u43_2 u43_3
         try clear u48_0 u48_1 u48_2
         try clear u6_1 u6_2 u6_3
         try clear hx540_0
         try clear hx540_1
         try clear hx540_2
         try clear hx540_3
         try clear p540
         try clear q540
         obtain ⟨kq, x98_48, rfl, HA, HJ48, HO_538001, HO_538002, BK10, BK11, HI0, HK, HB⟩ := hcut
         cases kq with
         | zero => exact absurd HA.out (by simp [impl_nester_one.j3])
         | succ kj48 =>
          have H := HA.out
          clear HA
          simp only [impl_nester_one.j3] at H
          replace H := ifB H; rcases H with ⟨rfl, H⟩ | ⟨rfl, H⟩
          ·simp only [Option.some.injEq, Prod.mk.injEq] at H
           exact τ55
          ·simp only [Option.some.injEq, Prod.mk.injEq] at H
           exact τ55
def impl_nester_many.T2 : Bool × List (List Nat × List Nat) := (true, [([], []), ([0], [0]), ([1], [1]), ([2], [2]), ([], []), ([4], [4]), ([5], [5]), ([6], [6]), ([7], [7]), ([3, 8], [3, 8]), ([9], [9]), ([10], [10]), ([11, 10, 10], [10, 11]), ([12, 10], [10, 12]), ([10, 13], [10, 13]), ([14, 12], [14]), ([15], [15]), ([16, 15, 15], [15, 16]), ([17, 15], [15, 17]), ([15, 18], [15, 18]), ([19, 17], [19]), ([20], [20]), ([21, 20, 20], [20, 21]), ([22, 20], [20, 22]), ([20, 23], [20, 23])])
def impl_nester_many.B2 : List Nat := [0, 1, 3, 7, 0, 16, 48, 112, 240, 511, 1023, 2047, 4095, 8191, 16383, 32767, 65535, 131071, 262143, 524287, 1048575, 2097151, 4194303, 8388607, 16777215]
theorem impl_nester_many.tab2 : rtab .any (opsOf Try.f150 2) = impl_nester_many.T2 := by kernel_rfl
theorem impl_nester_many.bits2 : waitsOk impl_nester_many.T2.2 impl_nester_many.B2 = true := by kernel_rfl
theorem impl_nester_many.calls (k : Nat) : ∀ (g : Nat) (s0_0 : List (S114)) (s0_1 : Int) (s0_2 : Int) (s0_3 : Int) (r1 : List (S163)) (r2 : Bool) (r3 : Int) (r4 : Int) (r5 : Int) (w0 w : World) (hI : IsS160 w0 w g s0_0 s0_1 s0_2 s0_3) (hB : Below w0.heap.size w0 w) (h : impl_nester_many.f k s0_0 s0_1 s0_2 s0_3 = some (r1, r2, r3, r4, r5)),
 Calls Try.prog 150 #[.pointer (some ⟨g, 0, none⟩)] w fun e w' => ∃ v0_ : Value, e = .returned (.tuple #[v0_, .bool r2]) ∧ Kd.R k163 163 w' w.heap.size (fun _ => True) v0_ r1 ∧ IsS160 w0 w' g s0_0 r3 r4 r5 ∧ Below w0.heap.size w0 w' ∧ KeepBut w w' g none := by
 induction k using Nat.strongRecOn with
 | _ k ih =>
 intro g s0_0 s0_1 s0_2 s0_3 r1 r2 r3 r4 r5 w0 w hI hB h
 cases k with
 | zero => exact absurd h (by simp [impl_nester_many.f])
 | succ k =>
 simp only [impl_nester_many.f] at h
 have hu163 := Try.underlying163
 have HI0 := Aside0.mk hI
 have HK := Aside0.mk (KeepBut.refl w g none)
 have HL := Aside0.mk hB.size
 clear hI
 have HW0 := Aside0.mk hB.size
 have HB := Aside0.mk hB
 clear hB
 have H := h
 clear h
 obtain ⟨y566, hy566⟩ : ∃ y_ : List (S163), y_ = (([] : List (S163))) := ⟨_, rfl⟩
 replace H : (impl_nester_many.l0 k y566 s0_0 s0_1 s0_2 s0_3) = some (r1, r2, r3, r4, r5) := by first | (rw [hy566]; with_reducible exact H) | (have H2_ := (Option.bind_some _ _).symm.trans H; rw [hy566]; with_reducible exact H2_) | (have H2_ := (Option.bind_some _ _).symm.trans H; with_reducible exact H2_) | with_reducible exact H | (rw [hy566]; exact H) | exact H
 have Ny566 := Aside0.mk hy566
 clear hy566
 have H' := Aside0.mk H
 clear H
 go_enter Try.func150, Try.ntmps150
 go_wp2_with (first | ((with_reducible refine gate_dst (N := 7) rfl ?_); refine Kd.R_lit k163 _ 163 ?hg (N := 7) ?hd (xs := ([] : List (S163))) (inner := []) (ok := fun _ => True) (okp := fun _ => True) ?hr ?hp (fun _ hk => hk) trivial (Below.refl _ _) (Nat.le_refl _) ψ22 ?_; (case hd => rfl); (case hg => rfl); (case hr => first | (go_simp; done) | (go_simp; rfl)); (case hp => exact (Reps.none _ _)); intro v567 w2 ho3 hb hg_ hnew_; clear hg_ hnew_; (first | rw [← Ny566.out] at ho3 | (simp only [Int.reduceToNat] at ho3; rw [← Ny566.out] at ho3)); have q := n4_ (Kd.R_lower ho3 (keep_size (w := w) (g := g) (row := none) ψ78)) (IsS160.below ψ57 hb) (KeepBut.trans ψ78 (KeepBut.of_below hb g none) (.inl rfl)) (below_step ψ79 hb); clear HI0 HK HB; obtain ⟨HO568, HI0, HK, HB⟩ := q; clear hb ho3))
 go_loopg [4] k (fun kq v4 w' => ∃ (x4_1 : List (S163)) (x1001_1 : Int) (x1002_1 : Int) (x1003_1 : Int), Aside0 (impl_nester_many.l0 kq x4_1 s0_0 x1001_1 x1002_1 x1003_1 = some (r1, r2, r3, r4, r5)) ∧ Aside0 (kq ≤ k) ∧ Aside0 (Kd.R k163 163 w' w.heap.size (fun _ => True) v4 x4_1) ∧ Aside0 (IsS160 w0 w' g s0_0 x1001_1 x1002_1 x1003_1) ∧ Aside0 (KeepBut w w' g none) ∧ Aside0 (Below w0.heap.size w0 w'))
 case atStart => exact ⟨(y566), (s0_1), (s0_2), (s0_3), H', ⟨Nat.le_refl _⟩, ⟨have hZ := HO568; kR_⟩, ⟨ψ57⟩, ⟨ψ78⟩, ⟨ψ79⟩⟩
 case round =>
  clear H'
  obtain ⟨x4_1, x1001_1, x1002_1, x1003_1, HA, HK1, HO_4, HI0, HK, HB⟩ := hrel
  cases gk with
  | zero => exact absurd HA.out (by simp [impl_nester_many.l0])
  | succ k1 =>
   have H := HA.out
   clear HA
   simp only [impl_nester_many.l0] at H
   have HC4 := Aside0.mk H
   clear H
   go_upto_region 2 with (fail)
   go_cut [32] (fun v32 wc => ∃ (kq : Nat) (x32_3 : Bool), v32 = .bool x32_3 ∧ Aside0 (impl_nester_many.j1 kq x4_1 x32_3 s0_0 x1001_1 x1002_1 x1003_1 = some (r1, r2, r3, r4, r5)) ∧ Aside0 (kq ≤ k1) ∧ Aside0 (Kd.R k163 163 wc w.heap.size (fun _ => True) u4 x4_1) ∧ Aside0 (IsS160 w0 wc g s0_0 x1001_1 x1002_1 x1003_1) ∧ Aside0 (KeepBut w wc g none) ∧ Aside0 (Below w0.heap.size w0 wc))
   case first =>
    have H := HC4.out
    clear HC4
    replace H := ifD H; rcases H with ⟨c5b0, H⟩ | ⟨c5b0, H⟩
    ·(first | rw [c5b0] | (simp only [i64_w, i32_w]; rw [c5b0]) | skip)
     replace H := bS H; obtain ⟨t571, A6, H⟩ := H
     replace H := ifB H; rcases H with ⟨rfl, H⟩ | ⟨rfl, H⟩
     ·have H' := Aside0.mk H
      clear H
      try go_wp2
      have q := n4_ (Kd.R_drew HO_4.out) (IsS160.drew HI0.out) (keep_drew HK.out) (below_drew1 HB.out)
      clear HO_4 HI0 HK HB
      obtain ⟨HO_4, HI0, HK, HB⟩ := q
      obtain ⟨ASy10_0, cSy10_0, HGy10, hgy10, HSy10_0⟩ := HI0.out
      refine start_ (n := 25) (S := fun w' => w'.cell? ⟨g, 1, none⟩ = some (.int .i64 x1001_1) ∧ w'.cell? ⟨g, 2, none⟩ = some (.int .i64 x1002_1) ∧ w'.cell? ⟨g, 3, none⟩ = some (.int .i64 x1003_1) ∧ w'.cell? ⟨g, 0, none⟩ = some (.slice ASy10_0 s0_0.length cSy10_0)) (ds := [12]) #[false, false, false, false, false, false, false, false, false, false, false, false, false, false, false, false, false, false, false, false, false, false, false, false, false] ψ12 rfl rfl ⟨IsS160.cell_1 HI0.out, IsS160.cell_2 HI0.out, IsS160.cell_3 HI0.out, cellS160_0 HGy10⟩ (fun hHeld => ?_); refine with_tabW impl_nester_many.tab2 impl_nester_many.bits2 (fun HT_ HW_ => ?_)
      generalize wr.drew = w8 at HO_4 HI0 HK HB hHeld ⊢
      refine rP 0 8 ?_; refine rP 1 9 ?_; refine rP 2 10 ?_; refine rP 4 12 ?_; refine rP 5 13 ?_; refine rP 6 14 ?_; refine rT 3 11 ?_; refine rT 7 15 ?_; refine rP 8 16 ?_; refine rP 9 17 ?_; refine rP 10 18 ?_; refine rP 11 19 ?_
      refine last_ (i := 12) (N := some 20) #[true, true, true, true, true, true, true, true, true, true, true, true, true, false, false, false, false, false, false, false, false, false, false, false, false] rfl rfl (one_of HT_.out ψ12) ψ13 (fun K hK => ?_)
      refine goes_ Try.func152 ψ12 rfl #[.pointer (some ⟨g, 0, none⟩), .int .i64 3] ψ14 rfl rfl ψ15 ?_
      with_reducible refine (impl_nester_is.calls g s0_0 x1001_1 x1002_1 x1003_1 3 true w0 _ ?_ ?_ A6.out).mono ?_
      exact ψ57; exact ψ79
      rintro e w9 ⟨rfl, hi, hb, hk⟩
      refine ⟨_, rfl, ?_⟩
      have q := n4_ (Kd.R_mono (Kd.R_keep (IsS160.apart (show IsS160 w0 _ g s0_0 x1001_1 x1002_1 x1003_1 from ψ57) (have hZ := HO_4; kR_) ψ13) hk (fun _ h => h.2)) (fun _ h => h.1)) (KeepBut.trans ψ78 hk (.inl rfl)) (hb) (hi)
      clear HO_4 HK HB HI0
      obtain ⟨HO_4, HK, HB, HI0⟩ := q
      (try clear hb hk hi)
      refine hK.out _ _ ?_
      clear hK K
      refine rN 20 ?_; refine rP 13 21 ?_; refine rP 14 22 ?_; refine rP 15 23 ?_; refine rU 16 24 ?_; refine rU 17 25 ?_; refine rU 18 26 ?_; refine rP 19 27 ?_; refine rP 20 28 ?_; refine rU 21 29 ?_; refine rU 22 30 ?_; refine rU 23 31 ?_; refine rP 24 32 ?_
      refine done_ (done_of HT_.out ψ12) ?_
      try go_wp2
      go_meet
      case rel => exact ⟨_, (false), ψ7, H', ⟨ψ18⟩, ⟨have hZ := HO_4; kR_⟩, ⟨ψ57⟩, ⟨ψ78⟩, ⟨ψ79⟩⟩
     ·replace H := bS H; obtain ⟨t572, A11, H⟩ := H
      replace H := ifB H; rcases H with ⟨rfl, H⟩ | ⟨rfl, H⟩
      ·have H' := Aside0.mk H
       clear H
       try go_wp2
       have q := n4_ (Kd.R_drew HO_4.out) (IsS160.drew HI0.out) (keep_drew HK.out) (below_drew1 HB.out)
       clear HO_4 HI0 HK HB
       obtain ⟨HO_4, HI0, HK, HB⟩ := q
       obtain ⟨ASy16_0, cSy16_0, HGy16, hgy16, HSy16_0⟩ := HI0.out
       refine start_ (n := 25) (S := fun w' => w'.cell? ⟨g, 1, none⟩ = some (.int .i64 x1001_1) ∧ w'.cell? ⟨g, 2, none⟩ = some (.int .i64 x1002_1) ∧ w'.cell? ⟨g, 3, none⟩ = some (.int .i64 x1003_1) ∧ w'.cell? ⟨g, 0, none⟩ = some (.slice ASy16_0 s0_0.length cSy16_0)) (ds := [12, 17]) #[false, false, false, false, false, false, false, false, false, false, false, false, false, false, false, false, false, false, false, false, false, false, false, false, false] ψ12 rfl rfl ⟨IsS160.cell_1 HI0.out, IsS160.cell_2 HI0.out, IsS160.cell_3 HI0.out, cellS160_0 HGy16⟩ (fun hHeld => ?_); refine with_tabW impl_nester_many.tab2 impl_nester_many.bits2 (fun HT_ HW_ => ?_)
       generalize wr.drew = w13 at HO_4 HI0 HK HB hHeld ⊢
       refine rP 0 8 ?_; refine rP 1 9 ?_; refine rP 2 10 ?_; refine rP 4 12 ?_; refine rP 5 13 ?_; refine rP 6 14 ?_; refine rT 3 11 ?_; refine rT 7 15 ?_; refine rP 8 16 ?_; refine rP 9 17 ?_; refine rP 10 18 ?_; refine rP 11 19 ?_
       refine last_ (i := 12) (N := some 20) #[true, true, true, true, true, true, true, true, true, true, true, true, true, false, false, false, false, false, false, false, false, false, false, false, false] rfl rfl (one_of HT_.out ψ12) ψ13 (fun K hK => ?_)
       refine goes_ Try.func152 ψ12 rfl #[.pointer (some ⟨g, 0, none⟩), .int .i64 3] ψ14 rfl rfl ψ15 ?_
       with_reducible refine (impl_nester_is.calls g s0_0 x1001_1 x1002_1 x1003_1 3 false w0 _ ?_ ?_ A6.out).mono ?_
       exact ψ57; exact ψ79
       rintro e w14 ⟨rfl, hi, hb, hk⟩
       refine ⟨_, rfl, ?_⟩
       have q := n4_ (Kd.R_mono (Kd.R_keep (IsS160.apart (show IsS160 w0 _ g s0_0 x1001_1 x1002_1 x1003_1 from ψ57) (have hZ := HO_4; kR_) ψ13) hk (fun _ h => h.2)) (fun _ h => h.1)) (KeepBut.trans ψ78 hk (.inl rfl)) (hb) (hi)
       clear HO_4 HK HB HI0
       obtain ⟨HO_4, HK, HB, HI0⟩ := q
       (try clear hb hk hi)
       refine hK.out _ _ ?_
       clear hK K
       refine rN 20 ?_; refine rP 13 21 ?_; refine rP 14 22 ?_; refine rP 15 23 ?_; refine rP 16 24 ?_
       refine last_ (i := 17) (N := some 25) #[true, true, true, true, true, true, true, true, true, true, true, true, true, true, true, true, true, true, false, false, false, false, false, false, false] rfl rfl (one_of HT_.out ψ12) ψ13 (fun K hK => ?_)
       refine goes_ Try.func152 ψ12 rfl #[.pointer (some ⟨g, 0, none⟩), .int .i64 4] ψ14 rfl rfl ψ15 ?_
       with_reducible refine (impl_nester_is.calls g s0_0 x1001_1 x1002_1 x1003_1 4 true w0 _ ?_ ?_ A11.out).mono ?_
       exact ψ57; exact ψ79
       rintro e w15 ⟨rfl, hi, hb, hk⟩
       refine ⟨_, rfl, ?_⟩
       have q := n4_ (Kd.R_mono (Kd.R_keep (IsS160.apart (show IsS160 w0 _ g s0_0 x1001_1 x1002_1 x1003_1 from ψ57) (have hZ := HO_4; kR_) ψ13) hk (fun _ h => h.2)) (fun _ h => h.1)) (KeepBut.trans ψ78 hk (.inl rfl)) (hb) (hi)
       clear HO_4 HK HB HI0
       obtain ⟨HO_4, HK, HB, HI0⟩ := q
       (try clear hb hk hi)
       refine hK.out _ _ ?_
       clear hK K
       refine rN 25 ?_; refine rP 18 26 ?_; refine rP 19 27 ?_; refine rP 20 28 ?_; refine rU 21 29 ?_; refine rU 22 30 ?_; refine rU 23 31 ?_; refine rP 24 32 ?_
       refine done_ (done_of HT_.out ψ12) ?_
       try go_wp2
       go_meet
       case rel => exact ⟨_, (false), ψ7, H', ⟨ψ18⟩, ⟨have hZ := HO_4; kR_⟩, ⟨ψ57⟩, ⟨ψ78⟩, ⟨ψ79⟩⟩
      ·replace H := bS H; obtain ⟨t573, A17, H⟩ := H
       have H' := Aside0.mk H
       clear H
       try go_wp2
       have q := n4_ (Kd.R_drew HO_4.out) (IsS160.drew HI0.out) (keep_drew HK.out) (below_drew1 HB.out)
       clear HO_4 HI0 HK HB
       obtain ⟨HO_4, HI0, HK, HB⟩ := q
       obtain ⟨ASy22_0, cSy22_0, HGy22, hgy22, HSy22_0⟩ := HI0.out
       refine start_ (n := 25) (S := fun w' => w'.cell? ⟨g, 1, none⟩ = some (.int .i64 x1001_1) ∧ w'.cell? ⟨g, 2, none⟩ = some (.int .i64 x1002_1) ∧ w'.cell? ⟨g, 3, none⟩ = some (.int .i64 x1003_1) ∧ w'.cell? ⟨g, 0, none⟩ = some (.slice ASy22_0 s0_0.length cSy22_0)) (ds := [12, 17, 22]) #[false, false, false, false, false, false, false, false, false, false, false, false, false, false, false, false, false, false, false, false, false, false, false, false, false] ψ12 rfl rfl ⟨IsS160.cell_1 HI0.out, IsS160.cell_2 HI0.out, IsS160.cell_3 HI0.out, cellS160_0 HGy22⟩ (fun hHeld => ?_); refine with_tabW impl_nester_many.tab2 impl_nester_many.bits2 (fun HT_ HW_ => ?_)
       generalize wr.drew = w18 at HO_4 HI0 HK HB hHeld ⊢
       refine rP 0 8 ?_; refine rP 1 9 ?_; refine rP 2 10 ?_; refine rP 4 12 ?_; refine rP 5 13 ?_; refine rP 6 14 ?_; refine rT 3 11 ?_; refine rT 7 15 ?_; refine rP 8 16 ?_; refine rP 9 17 ?_; refine rP 10 18 ?_; refine rP 11 19 ?_
       refine last_ (i := 12) (N := some 20) #[true, true, true, true, true, true, true, true, true, true, true, true, true, false, false, false, false, false, false, false, false, false, false, false, false] rfl rfl (one_of HT_.out ψ12) ψ13 (fun K hK => ?_)
       refine goes_ Try.func152 ψ12 rfl #[.pointer (some ⟨g, 0, none⟩), .int .i64 3] ψ14 rfl rfl ψ15 ?_
       with_reducible refine (impl_nester_is.calls g s0_0 x1001_1 x1002_1 x1003_1 3 false w0 _ ?_ ?_ A6.out).mono ?_
       exact ψ57; exact ψ79
       rintro e w19 ⟨rfl, hi, hb, hk⟩
       refine ⟨_, rfl, ?_⟩
       have q := n4_ (Kd.R_mono (Kd.R_keep (IsS160.apart (show IsS160 w0 _ g s0_0 x1001_1 x1002_1 x1003_1 from ψ57) (have hZ := HO_4; kR_) ψ13) hk (fun _ h => h.2)) (fun _ h => h.1)) (KeepBut.trans ψ78 hk (.inl rfl)) (hb) (hi)
       clear HO_4 HK HB HI0
       obtain ⟨HO_4, HK, HB, HI0⟩ := q
       (try clear hb hk hi)
       refine hK.out _ _ ?_
       clear hK K
       refine rN 20 ?_; refine rP 13 21 ?_; refine rP 14 22 ?_; refine rP 15 23 ?_; refine rP 16 24 ?_
       refine last_ (i := 17) (N := some 25) #[true, true, true, true, true, true, true, true, true, true, true, true, true, true, true, true, true, true, false, false, false, false, false, false, false] rfl rfl (one_of HT_.out ψ12) ψ13 (fun K hK => ?_)
       refine goes_ Try.func152 ψ12 rfl #[.pointer (some ⟨g, 0, none⟩), .int .i64 4] ψ14 rfl rfl ψ15 ?_
       with_reducible refine (impl_nester_is.calls g s0_0 x1001_1 x1002_1 x1003_1 4 false w0 _ ?_ ?_ A11.out).mono ?_
       exact ψ57; exact ψ79
       rintro e w20 ⟨rfl, hi, hb, hk⟩
       refine ⟨_, rfl, ?_⟩
       have q := n4_ (Kd.R_mono (Kd.R_keep (IsS160.apart (show IsS160 w0 _ g s0_0 x1001_1 x1002_1 x1003_1 from ψ57) (have hZ := HO_4; kR_) ψ13) hk (fun _ h => h.2)) (fun _ h => h.1)) (KeepBut.trans ψ78 hk (.inl rfl)) (hb) (hi)
       clear HO_4 HK HB HI0
       obtain ⟨HO_4, HK, HB, HI0⟩ := q
       (try clear hb hk hi)
       refine hK.out _ _ ?_
       clear hK K
       refine rN 25 ?_; refine rP 18 26 ?_; refine rP 19 27 ?_; refine rP 20 28 ?_; refine rP 21 29 ?_
       refine last_ (i := 22) (N := some 30) #[true, true, true, true, true, true, true, true, true, true, true, true, true, true, true, true, true, true, true, true, true, true, true, false, false] rfl rfl (one_of HT_.out ψ12) ψ13 (fun K hK => ?_)
       refine goes_ Try.func152 ψ12 rfl #[.pointer (some ⟨g, 0, none⟩), .int .i64 9] ψ14 rfl rfl ψ15 ?_
       with_reducible refine (impl_nester_is.calls g s0_0 x1001_1 x1002_1 x1003_1 9 t573 w0 _ ?_ ?_ A17.out).mono ?_
       exact ψ57; exact ψ79
       rintro e w21 ⟨rfl, hi, hb, hk⟩
       refine ⟨_, rfl, ?_⟩
       have q := n4_ (Kd.R_mono (Kd.R_keep (IsS160.apart (show IsS160 w0 _ g s0_0 x1001_1 x1002_1 x1003_1 from ψ57) (have hZ := HO_4; kR_) ψ13) hk (fun _ h => h.2)) (fun _ h => h.1)) (KeepBut.trans ψ78 hk (.inl rfl)) (hb) (hi)
       clear HO_4 HK HB HI0
       obtain ⟨HO_4, HK, HB, HI0⟩ := q
       (try clear hb hk hi)
       refine hK.out _ _ ?_
       clear hK K
       refine rN 30 ?_; refine rP 23 31 ?_; refine rP 24 32 ?_
       refine done_ (done_of HT_.out ψ12) ?_
       try go_wp2
       go_meet
       case rel => exact ⟨_, (!t573), ψ7, H', ⟨ψ18⟩, ⟨have hZ := HO_4; kR_⟩, ⟨ψ57⟩, ⟨ψ78⟩, ⟨ψ79⟩⟩
    ·(first | rw [c5b0] | (simp only [i64_w, i32_w]; rw [c5b0]) | skip)
     have H' := Aside0.mk H
     clear H
     try go_wp2
     have q := n4_ (Kd.R_drew HO_4.out) (IsS160.drew HI0.out) (keep_drew HK.out) (below_drew1 HB.out)
     clear HO_4 HI0 HK HB
     obtain ⟨HO_4, HI0, HK, HB⟩ := q
     obtain ⟨ASy24_0, cSy24_0, HGy24, hgy24, HSy24_0⟩ := HI0.out
     refine start_ (n := 25) (S := fun w' => w'.cell? ⟨g, 1, none⟩ = some (.int .i64 x1001_1) ∧ w'.cell? ⟨g, 2, none⟩ = some (.int .i64 x1002_1) ∧ w'.cell? ⟨g, 3, none⟩ = some (.int .i64 x1003_1) ∧ w'.cell? ⟨g, 0, none⟩ = some (.slice ASy24_0 s0_0.length cSy24_0)) (ds := []) #[false, false, false, false, false, false, false, false, false, false, false, false, false, false, false, false, false, false, false, false, false, false, false, false, false] ψ12 rfl rfl ⟨IsS160.cell_1 HI0.out, IsS160.cell_2 HI0.out, IsS160.cell_3 HI0.out, cellS160_0 HGy24⟩ (fun hHeld => ?_); refine with_tabW impl_nester_many.tab2 impl_nester_many.bits2 (fun HT_ HW_ => ?_)
     generalize wr.drew = w23 at HO_4 HI0 HK HB hHeld ⊢
     refine rP 0 8 ?_; refine rP 1 9 ?_; refine rP 2 10 ?_; refine rP 4 12 ?_; refine rP 5 13 ?_; refine rP 6 14 ?_; refine rT 3 11 ?_; refine rT 7 15 ?_; refine rP 8 16 ?_; refine rP 9 17 ?_; refine rP 10 18 ?_; refine rU 11 19 ?_; refine rU 12 20 ?_; refine rU 13 21 ?_; refine rP 14 22 ?_; refine rP 15 23 ?_; refine rU 16 24 ?_; refine rU 17 25 ?_; refine rU 18 26 ?_; refine rP 19 27 ?_; refine rP 20 28 ?_; refine rU 21 29 ?_; refine rU 22 30 ?_; refine rU 23 31 ?_; refine rP 24 32 ?_
     refine done_ (done_of HT_.out ψ12) ?_
     try go_wp2
     go_meet
     case rel => exact ⟨_, (false), ψ7, H', ⟨ψ18⟩, ⟨have hZ := HO_4; kR_⟩, ⟨ψ57⟩, ⟨ψ78⟩, ⟨ψ79⟩⟩
   case rest =>
    clear HC4
    try clear c5
    try clear c5b0
    try clear c12
    obtain ⟨kq, x32_3, rfl, HA, HJ3, HO_4, HI0, HK, HB⟩ := hcut
    cases kq with
    | zero => exact absurd HA.out (by simp [impl_nester_many.j1])
    | succ kj3 =>
     have H := HA.out
     clear HA
     simp only [impl_nester_many.j1] at H
     replace H := ifB H; rcases H with ⟨rfl, H⟩ | ⟨rfl, H⟩
     ·replace H := bS H; obtain ⟨⟨t574, t575, t578, t581, t582, t583, t584⟩, A26, H⟩ := H
      replace H := ifB H; rcases H with ⟨rfl, H⟩ | ⟨rfl, H⟩
      ·by_cases c28 : x4_1.length < 2513169434916
       ·rw [if_pos c28] at H
        have LMc28 := Aside0.mk c28
        clear c28
        obtain ⟨y587, hy587⟩ : ∃ y_ : List (S163), y_ = (x4_1 ++ [(⟨t574, t575, t578⟩ : S163)]) := ⟨_, rfl⟩
        replace H : (impl_nester_many.l0 kj3 y587 s0_0 t582 t583 t584) = some (r1, r2, r3, r4, r5) := by first | (rw [hy587]; with_reducible exact H) | (have H2_ := (Option.bind_some _ _).symm.trans H; rw [hy587]; with_reducible exact H2_) | (have H2_ := (Option.bind_some _ _).symm.trans H; with_reducible exact H2_) | with_reducible exact H | (rw [hy587]; exact H) | exact H
        have Ny587 := Aside0.mk hy587
        clear hy587
        have H' := Aside0.mk H
        clear H
        go_wp2_with (first | ((with_reducible refine gate_callee (f := 153) rfl ?_); refine gL 35 Try.func153 #[.pointer (some ⟨g, 0, none⟩)] ?_; (with_reducible refine (impl_nester_one.calls_of kj3 (fun m_ hm_ => ih m_ (by have := HK1.out; have := HJ3.out; have := hm_; omega)) g s0_0 x1001_1 x1002_1 x1003_1 t574 t575 t578 true t582 t583 t584 w0 _ ?_ ?_ A26.out).mono ?_); exact ψ57; exact ψ79; rintro e w29 ⟨v576, v579, rfl, ho0, ho1, hi, hb, hk⟩; refine ⟨_, rfl, ?_⟩; have q := n6_ (Kd.R_mono (Kd.R_told (Kd.R_told (Kd.R_oldK (IsS160.apart (show IsS160 w0 _ g s0_0 x1001_1 x1002_1 x1003_1 from ψ57) (have hZ := HO_4; kR_) ψ13) hk) (Kd.R_base ho0)) (Kd.R_base ho1)) (fun _ h_ => h_.1)) (Kd.R_lower (Kd.R_new' ho0 (Kd.R_lt (have hZ := HO_4; kR_))) (keep_size (w := w) (g := g) (row := none) ψ78)) (Kd.R_lower (Kd.R_new' ho1 (Kd.R_lt (have hZ := HO_4; kR_))) (keep_size (w := w) (g := g) (row := none) ψ78)) (KeepBut.trans ψ78 hk (.inl rfl)) (hb) (hi); clear HO_4 HK HB HI0; obtain ⟨HO_4, HO577, HO580, HK, HB, HI0⟩ := q; (try clear hb hk hi); (try clear ho0); (try clear ho1)) | ((with_reducible refine gate_dst (N := 5) rfl ?_); refine bE 5 #[.int .i64 0, .slice none 0 0, .slice none 0 0] 163 ?_; intro gb10 hg w30 hbox hb; have q := n11_ (Kd.R_below (Kd.R_elderB (have hZ := HO_4; kR_) gb10 (Nat.le_of_eq hg.symm)) hb) (Kd.R_below (Kd.R_elderB (have hZ := HO577; kR_) gb10 (Nat.le_of_eq hg.symm)) hb) (Kd.R_below (Kd.R_elderB (have hZ := HO580; kR_) gb10 (Nat.le_of_eq hg.symm)) hb) (IsS160.below ψ57 hb) (KeepBut.trans ψ78 (KeepBut.of_below hb g none) (.inl rfl)) (below_step ψ79 hb) (hbox) ((ψ134 : w.heap.size ≤ gb10)) ((Nat.le_trans HW0.out (ψ134 : w.heap.size ≤ gb10) : w0.heap.size ≤ gb10)) ((ψ135 : g ≠ gb10)) ((ψ136 : gb10 ≠ g)); clear HO_4 HO577 HO580 HI0 HK HB; obtain ⟨HO_4, HO577, HO580, HI0, HK, HB, BK10, GW10, GE10, NB0_10, NB10_0⟩ := q; clear hb hbox hg; have hnb31 := NB10_0.out; have hnc31 := NB0_10.out; obtain ⟨y32_0, y32_1, y32_2, u32_0, u32_1, u32_2⟩ := cells3 BK10.out; obtain ⟨Ao33, co33, eo33⟩ := Kd.R_slice HO577.out; subst eo33; obtain ⟨Ao34, co34, eo34⟩ := Kd.R_slice HO580.out; subst eo34) | ((with_reducible refine gate_store (t := 163) (p := 5) rfl ?_); refine store_event (t := 163) (p := 5) (v := ?vo_w35) (w1 := (((w30.setCell ⟨gb10, 0, none⟩ (.int .i64 t574)).setCell ⟨gb10, 1, none⟩ (.slice Ao33 t575.length co33)).setCell ⟨gb10, 2, none⟩ (.slice Ao34 t578.length co34))) ?hg ?ho ?hn ?hr ?_; (case ho => rfl); (case hg => rfl); (case hn => rfl); (case hr => first | (go_simp; done) | (go_simp; rfl)); intro w35 hw; have q := n7_ (show Kd.R k163 163 w35 w.heap.size (fun k_ => some k_ ≠ (.slice Ao33 t575.length co33 : Value).ownBlock ∧ some k_ ≠ (.slice Ao34 t578.length co34 : Value).ownBlock ∧ k_ ≠ gb10) u4 x4_1 from (by rw [hw]; exact (by (with_reducible repeat (first | apply Kd.R_alloc | apply Kd.R_drewN | apply Kd.R_drew)); exact Kd.R_mono (Kd.R_far (p := ⟨gb10, 2, none⟩) (Kd.R_far (p := ⟨gb10, 1, none⟩) (Kd.R_far (p := ⟨gb10, 0, none⟩) (Kd.R_mono HO_4.out (fun k_ hk => (⟨hk, hk.2⟩ : _ ∧ k_ ≠ gb10))) (fun _ hk => hk.2) (.int .i64 t574)) (fun _ hk => hk.2) (.slice Ao33 t575.length co33)) (fun _ hk => hk.2) (.slice Ao34 t578.length co34)) (fun _ hk => ⟨hk.1.1.1.2, ⟨hk.1.1.2, hk.1.2⟩⟩)))) (show Kd.R k163 163 w35 w.heap.size (fun k_ => some k_ ≠ (u4 : Value).ownBlock ∧ some k_ ≠ (.slice Ao34 t578.length co34 : Value).ownBlock ∧ k_ ≠ gb10) (.slice Ao33 t575.length co33) t575 from (by rw [hw]; exact (by (with_reducible repeat (first | apply Kd.R_alloc | apply Kd.R_drewN | apply Kd.R_drew)); exact Kd.R_mono (Kd.R_far (p := ⟨gb10, 2, none⟩) (Kd.R_far (p := ⟨gb10, 1, none⟩) (Kd.R_far (p := ⟨gb10, 0, none⟩) (Kd.R_mono HO577.out (fun k_ hk => (⟨hk, hk.2⟩ : _ ∧ k_ ≠ gb10))) (fun _ hk => hk.2) (.int .i64 t574)) (fun _ hk => hk.2) (.slice Ao33 t575.length co33)) (fun _ hk => hk.2) (.slice Ao34 t578.length co34)) (fun _ hk => ⟨hk.1.1.2, ⟨hk.1.1.1, hk.1.2⟩⟩)))) (show Kd.R k163 163 w35 w.heap.size (fun k_ => some k_ ≠ (u4 : Value).ownBlock ∧ some k_ ≠ (.slice Ao33 t575.length co33 : Value).ownBlock ∧ k_ ≠ gb10) (.slice Ao34 t578.length co34) t578 from (by rw [hw]; exact (by (with_reducible repeat (first | apply Kd.R_alloc | apply Kd.R_drewN | apply Kd.R_drew)); exact Kd.R_mono (Kd.R_far (p := ⟨gb10, 2, none⟩) (Kd.R_far (p := ⟨gb10, 1, none⟩) (Kd.R_far (p := ⟨gb10, 0, none⟩) (Kd.R_mono HO580.out (fun k_ hk => (⟨hk, hk.2⟩ : _ ∧ k_ ≠ gb10))) (fun _ hk => hk.2) (.int .i64 t574)) (fun _ hk => hk.2) (.slice Ao33 t575.length co33)) (fun _ hk => hk.2) (.slice Ao34 t578.length co34)) (fun _ hk => ⟨hk.1.1.2, ⟨hk.1.1.1, hk.1.2⟩⟩)))) (show w35.heap[gb10]? = some (.cells #[.int .i64 t574, .slice Ao33 t575.length co33, .slice Ao34 t578.length co34] 163 (0, 0)) from (by rw [hw]; exact (by (with_reducible repeat (first | refine blk_drewN ?_ _ | refine blk_drew ?_ | refine blk_alloc ?_ _)); refine blk_put (cs := #[.int .i64 t574, .slice Ao33 t575.length co33, .slice none 0 0]) ?_ 2 _ rfl; (with_reducible repeat (first | refine blk_drewN ?_ _ | refine blk_drew ?_ | refine blk_alloc ?_ _)); refine blk_put (cs := #[.int .i64 t574, .slice none 0 0, .slice none 0 0]) ?_ 1 _ rfl; (with_reducible repeat (first | refine blk_drewN ?_ _ | refine blk_drew ?_ | refine blk_alloc ?_ _)); refine blk_put (cs := #[.int .i64 0, .slice none 0 0, .slice none 0 0]) ?_ 0 _ rfl; (with_reducible repeat (first | refine blk_drewN ?_ _ | refine blk_drew ?_ | refine blk_alloc ?_ _)); exact BK10.out))) (show IsS160 w0 w35 g s0_0 t582 t583 t584 from (by rw [hw]; exact ψ70)) (show KeepBut w w35 g none from (by rw [hw]; exact ψ78)) (show Below w0.heap.size w0 w35 from (by rw [hw]; exact ψ79)); clear hw HO_4 HO577 HO580 BK10 HI0 HK HB; obtain ⟨HO_4, HO577, HO580, BK10, HI0, HK, HB⟩ := q; obtain ⟨y36_0, y36_1, y36_2, u36_0, u36_1, u36_2⟩ := cells3 BK10.out) | ((with_reducible refine gate_builtin (b := .append) (xs := #[.tmp 40, .tmp 42]) rfl ?_); at_builtin; refine Kd.R_append k163 w.heap.size rfl (.tmp 40) (.tmp 42) 148 163 (.agg #[(.int .i64 0), (.slice none 0 0), (.slice none 0 0)]) 56 rfl Try.underlying148 info163 rfl ψ13 ψ21 u4 x4_1 (⟨t574, t575, t578⟩ : S163) [.int .i64 t574, .slice Ao33 t575.length co33, .slice Ao34 t578.length co34] (fun k_ => k_ ≠ gb10) (fun k_ => ((fun k_ => k_ ≠ gb10)) k_ ∧ some k_ ≠ (u4 : Value).ownBlock) rfl rfl ?aP (fun _ hk => hk) ?aF ?aO (Below.refl _ _) ?aS ?aL ?_; (case aP => exact k163_mkM _ _ _ (⟨t574, t575, t578⟩ : S163) (Kd.R_mono (HO577.out) (fun k_ hk => ⟨hk.2.2, hk.1⟩)) (Kd.R_mono (HO580.out) (fun k_ hk => ⟨hk.2.2, hk.1⟩))); (case aF => exact (fun k_ hk => Kd.freshB (g := gb10) ψ10 k_ hk)); (case aO => exact (by (with_reducible repeat (first | apply Kd.R_alloc | apply Kd.R_drewN | apply Kd.R_drew)); exact Kd.R_mono HO_4.out (fun _ hk => hk.2.2))); (case aS => exact (keep_size (w := w) (g := g) (row := none) ψ78)); (case aL => have := LMc28.out; omega); intro v588 w37 ho hb hg hat; rw [← Ny587.out] at ho; have q := n5_ (IsS160.grown ψ70 hg (IsS160.own_ne HI0.out HO_4.out ψ13)) (blk_grown (g := gb10) ψ10 hg (Kd.R_away HO_4.out (fun _ hk => hk.2.2))) (below_weaken ψ79 HL.out hb) (KeepBut.trans ψ78 (KeepBut.of_grown hg g) (Kd.R_base2 HO_4.out)) (ho); clear HI0 BK10 HB HK HO_4 HO577 HO580; obtain ⟨HI0, BK10, HB, HK, HO589⟩ := q; clear ho hb hg hat))
        go_roundg kj3
        case measure => have := HK1.out; have := HJ3.out; omega
        case rel => exact ⟨(y587), (t582), (t583), (t584), H', ⟨by have := HK1.out; have := HJ3.out; omega⟩, ⟨by (with_reducible repeat (first | apply Kd.R_alloc | apply Kd.R_drewN | apply Kd.R_drew)); exact Kd.R_mono HO589.out (fun _ hk => trivial)⟩, ⟨ψ70⟩, ⟨ψ78⟩, ⟨ψ79⟩⟩
       ·rw [if_neg c28] at H
        exact absurd H ψ22
      ·simp only [Option.some.injEq, Prod.mk.injEq] at H
       obtain ⟨rfl, rfl, rfl, rfl, rfl⟩ := H
       go_wp2_with (first | ((with_reducible refine gate_callee (f := 153) rfl ?_); refine gL 35 Try.func153 #[.pointer (some ⟨g, 0, none⟩)] ?_; (with_reducible refine (impl_nester_one.calls_of kj3 (fun m_ hm_ => ih m_ (by have := HK1.out; have := HJ3.out; have := hm_; omega)) g s0_0 x1001_1 x1002_1 x1003_1 t574 t575 t578 false t582 t583 t584 w0 _ ?_ ?_ A26.out).mono ?_); exact ψ57; exact ψ79; rintro e w38 ⟨v576, v579, rfl, ho0, ho1, hi, hb, hk⟩; refine ⟨_, rfl, ?_⟩; have q := n6_ (Kd.R_mono (Kd.R_told (Kd.R_told (Kd.R_oldK (IsS160.apart (show IsS160 w0 _ g s0_0 x1001_1 x1002_1 x1003_1 from ψ57) (have hZ := HO_4; kR_) ψ13) hk) (Kd.R_base ho0)) (Kd.R_base ho1)) (fun _ h_ => h_.1)) (Kd.R_lower (Kd.R_new' ho0 (Kd.R_lt (have hZ := HO_4; kR_))) (keep_size (w := w) (g := g) (row := none) ψ78)) (Kd.R_lower (Kd.R_new' ho1 (Kd.R_lt (have hZ := HO_4; kR_))) (keep_size (w := w) (g := g) (row := none) ψ78)) (KeepBut.trans ψ78 hk (.inl rfl)) (hb) (hi); clear HO_4 HK HB HI0; obtain ⟨HO_4, HO577, HO580, HK, HB, HI0⟩ := q; (try clear hb hk hi); (try clear ho0); (try clear ho1)) | ((with_reducible refine gate_dst (N := 5) rfl ?_); refine bE 5 #[.int .i64 0, .slice none 0 0, .slice none 0 0] 163 ?_; intro gb10 hg w39 hbox hb; have q := n11_ (Kd.R_below (Kd.R_elderB (have hZ := HO_4; kR_) gb10 (Nat.le_of_eq hg.symm)) hb) (Kd.R_below (Kd.R_elderB (have hZ := HO577; kR_) gb10 (Nat.le_of_eq hg.symm)) hb) (Kd.R_below (Kd.R_elderB (have hZ := HO580; kR_) gb10 (Nat.le_of_eq hg.symm)) hb) (IsS160.below ψ57 hb) (KeepBut.trans ψ78 (KeepBut.of_below hb g none) (.inl rfl)) (below_step ψ79 hb) (hbox) ((ψ134 : w.heap.size ≤ gb10)) ((Nat.le_trans HW0.out (ψ134 : w.heap.size ≤ gb10) : w0.heap.size ≤ gb10)) ((ψ135 : g ≠ gb10)) ((ψ136 : gb10 ≠ g)); clear HO_4 HO577 HO580 HI0 HK HB; obtain ⟨HO_4, HO577, HO580, HI0, HK, HB, BK10, GW10, GE10, NB0_10, NB10_0⟩ := q; clear hb hbox hg; have hnb40 := NB10_0.out; have hnc40 := NB0_10.out; obtain ⟨y41_0, y41_1, y41_2, u41_0, u41_1, u41_2⟩ := cells3 BK10.out; obtain ⟨Ao42, co42, eo42⟩ := Kd.R_slice HO577.out; subst eo42; obtain ⟨Ao43, co43, eo43⟩ := Kd.R_slice HO580.out; subst eo43))
       go_ret2
       exact ⟨_, ψ4, ψ69, ψ70, ψ79, ψ78⟩
     ·simp only [Option.some.injEq, Prod.mk.injEq] at H
      obtain ⟨rfl, rfl, rfl, rfl, rfl⟩ := H
      go_wp2
      go_ret2
      exact ⟨_, ψ4, by (with_reducible repeat (first | apply Kd.R_alloc | apply Kd.R_drewN | apply Kd.R_drew)); exact HO_4.out, ψ57, ψ79, ψ78⟩
theorem impl_nester_one.calls (k : Nat) : ∀ (g : Nat) (s0_0 : List (S114)) (s0_1 : Int) (s0_2 : Int) (s0_3 : Int) (r1 : Int) (r2 : List (S163)) (r3 : List (S163)) (r4 : Bool) (r5 : Int) (r6 : Int) (r7 : Int) (w0 w : World) (hI : IsS160 w0 w g s0_0 s0_1 s0_2 s0_3) (hB : Below w0.heap.size w0 w) (h : impl_nester_one.f k s0_0 s0_1 s0_2 s0_3 = some (r1, r2, r3, r4, r5, r6, r7)),
 Calls Try.prog 153 #[.pointer (some ⟨g, 0, none⟩)] w fun e w' => ∃ v1_ v2_ : Value, e = .returned (.tuple #[.agg #[.int .i64 r1, v1_, v2_], .bool r4]) ∧ Kd.R k163 163 w' w.heap.size (fun k_ => some k_ ≠ (v2_ : Value).ownBlock) v1_ r2 ∧ Kd.R k163 163 w' w.heap.size (fun k_ => some k_ ≠ (v1_ : Value).ownBlock) v2_ r3 ∧ IsS160 w0 w' g s0_0 r5 r6 r7 ∧ Below w0.heap.size w0 w' ∧ KeepBut w w' g none := impl_nester_one.calls_of k (fun m_ _ => impl_nester_many.calls m_)
end Go.Proofs.Ytakmkdlkipfnhaa.PCore

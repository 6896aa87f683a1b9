/- The walks of the functions that the laws come to, part 9: turned out of the kit's print, and mended where that fell. -/
import Derived.Test.YtakmkdlkipfnhaaPCoreg
import Derived.Test.YtakmkdlkipfnhaaPCoreg7
import Derived.Test.YtakmkdlkipfnhaaPCoreg8
namespace Go.Proofs.Ytakmkdlkipfnhaa.PCore
open Go.RowKit Go.Proofs.YtakmkdlkipfnhaaW.PrintWords Go.Proofs.YtakmkdlkipfnhaaW.PrintLast Go.Proofs.YtakmkdlkipfnhaaW.PrintMore
attribute [local go_sem] max2_int min2_int max_two min_two max_three min_three max_four min_four   -- for this text's walks alone
set_option linter.unusedVariables false
set_option maxHeartbeats 8000000
set_option maxRecDepth 100000
set_option linter.unusedSimpArgs false

theorem ψ80 {P : Prop} (h : P := by repeat (first | (with_reducible first | exact HB.out | apply below_alloc | apply pw_below_drewN | apply below_drew1 | refine below_set ?_ GE10.out | refine below_set ?_ (IsS160.ge HI590.out)) | exact HB.out)) : P := h
theorem ψ81 {P : Prop} (h : P := by (with_reducible repeat (first | refine blk_drewN ?_ _ | refine blk_drew ?_ | refine blk_alloc ?_ _)); refine blk_put (cs := #[.slice A0 l0.length c0, .int .i64 0, .int .i64 0, .int .i64 0]) ?_ 3 _ rfl; (with_reducible repeat (first | refine blk_drewN ?_ _ | refine blk_drew ?_ | refine blk_alloc ?_ _)); refine blk_put (cs := #[.slice A0 l0.length c0, .int .i64 0, .int .i64 0, .int .i64 0]) ?_ 2 _ rfl; (with_reducible repeat (first | refine blk_drewN ?_ _ | refine blk_drew ?_ | refine blk_alloc ?_ _)); refine blk_put (cs := #[.slice A0 l0.length c0, .int .i64 0, .int .i64 0, .int .i64 0]) ?_ 1 _ rfl; (with_reducible repeat (first | refine blk_drewN ?_ _ | refine blk_drew ?_ | refine blk_alloc ?_ _)); refine blk_put (cs := #[.slice none 0 0, .int .i64 0, .int .i64 0, .int .i64 0]) ?_ 0 _ rfl; (with_reducible repeat (first | refine blk_drewN ?_ _ | refine blk_drew ?_ | refine blk_alloc ?_ _)); exact BK10.out) : P := h
theorem ψ82 {P : Prop} (h : P := by have := World.block_lt_of_cell? _ _ hx602_0; first | rwa [add_block] at this | exact this) : P := h
theorem ψ83 {P : Prop} (h : P := by first | (rw [add_block]; exact hn602_0) | (show (Addr.add _ _).block ≠ _; rw [add_block]; exact hn602_0) | exact hn602_0) : P := h
theorem ψ84 {P : Prop} (h : P := by first | (rw [add_block]; exact hn602_1) | (show (Addr.add _ _).block ≠ _; rw [add_block]; exact hn602_1) | exact hn602_1) : P := h
theorem ψ85 {P : Prop} (h : P := by first | (rw [add_block]; exact hn602_2) | (show (Addr.add _ _).block ≠ _; rw [add_block]; exact hn602_2) | exact hn602_2) : P := h
theorem ψ86 {P : Prop} (h : P := by (with_reducible repeat (first | refine blk_drewN ?_ _ | refine blk_drew ?_ | refine blk_alloc ?_ _)); refine blk_put (cs := #[.int .i64 ((rd_T163 l1 x11_1).f0), .slice A599_1 ((rd_T163 l1 x11_1).f1).length c599_1, .slice none 0 0]) ?_ 2 _ rfl; (with_reducible repeat (first | refine blk_drewN ?_ _ | refine blk_drew ?_ | refine blk_alloc ?_ _)); refine blk_put (cs := #[.int .i64 ((rd_T163 l1 x11_1).f0), .slice none 0 0, .slice none 0 0]) ?_ 1 _ rfl; (with_reducible repeat (first | refine blk_drewN ?_ _ | refine blk_drew ?_ | refine blk_alloc ?_ _)); refine blk_put (cs := #[.int .i64 0, .slice none 0 0, .slice none 0 0]) ?_ 0 _ rfl; (with_reducible repeat (first | refine blk_drewN ?_ _ | refine blk_drew ?_ | refine blk_alloc ?_ _)); exact BK10.out) : P := h
theorem ψ87 {P : Prop} (h : P := by (with_reducible repeat (first | refine blk_drewN ?_ _ | refine blk_drew ?_ | refine blk_alloc ?_ _)); refine blk_far ?_ NB10_11.out _; (with_reducible repeat (first | refine blk_drewN ?_ _ | refine blk_drew ?_ | refine blk_alloc ?_ _)); refine blk_far ?_ NB10_11.out _; (with_reducible repeat (first | refine blk_drewN ?_ _ | refine blk_drew ?_ | refine blk_alloc ?_ _)); refine blk_far ?_ NB10_11.out _; (with_reducible repeat (first | refine blk_drewN ?_ _ | refine blk_drew ?_ | refine blk_alloc ?_ _)); refine blk_far ?_ NB10_11.out _; (with_reducible repeat (first | refine blk_drewN ?_ _ | refine blk_drew ?_ | refine blk_alloc ?_ _)); exact BK10.out) : P := h
theorem ψ88 {P : Prop} (h : P := by (with_reducible repeat (first | refine blk_drewN ?_ _ | refine blk_drew ?_ | refine blk_alloc ?_ _)); refine blk_put (cs := #[.int .i64 ((rd_T114 l0 ((rd_T163 l1 x11_1).f0)).f0), .int .i64 ((rd_T114 l0 ((rd_T163 l1 x11_1).f0)).f1), .slice A602_2 ((rd_T114 l0 ((rd_T163 l1 x11_1).f0)).f2).length c602_2, .slice none 0 0]) ?_ 3 _ rfl; (with_reducible repeat (first | refine blk_drewN ?_ _ | refine blk_drew ?_ | refine blk_alloc ?_ _)); refine blk_put (cs := #[.int .i64 ((rd_T114 l0 ((rd_T163 l1 x11_1).f0)).f0), .int .i64 ((rd_T114 l0 ((rd_T163 l1 x11_1).f0)).f1), .slice none 0 0, .slice none 0 0]) ?_ 2 _ rfl; (with_reducible repeat (first | refine blk_drewN ?_ _ | refine blk_drew ?_ | refine blk_alloc ?_ _)); refine blk_put (cs := #[.int .i64 ((rd_T114 l0 ((rd_T163 l1 x11_1).f0)).f0), .int .i64 0, .slice none 0 0, .slice none 0 0]) ?_ 1 _ rfl; (with_reducible repeat (first | refine blk_drewN ?_ _ | refine blk_drew ?_ | refine blk_alloc ?_ _)); refine blk_put (cs := #[.int .i64 0, .int .i64 0, .slice none 0 0, .slice none 0 0]) ?_ 0 _ rfl; (with_reducible repeat (first | refine blk_drewN ?_ _ | refine blk_drew ?_ | refine blk_alloc ?_ _)); exact BK11.out) : P := h
theorem ψ89 {P : Prop} (h : P := by repeat (first | exact (Kd.C_below HR599_1.out HB.out) | (with_reducible refine Kd.C_alloc ?_ _) | (with_reducible refine Kd.C_drewN ?_ _) | (with_reducible refine Kd.C_drew ?_))) : P := h
theorem ψ90 {P : Prop} (h : P := by repeat (first | exact (Kd.C_below HR599_2.out HB.out) | (with_reducible refine Kd.C_alloc ?_ _) | (with_reducible refine Kd.C_drewN ?_ _) | (with_reducible refine Kd.C_drew ?_))) : P := h
theorem ψ137 {P : Prop} (h : P := by first | exact Nat.ne_of_lt (Nat.lt_of_lt_of_le (ψ82) GW10.out) | exact Nat.ne_of_lt (Nat.lt_of_lt_of_le (ψ82) GE10.out)) : P := h
theorem ψ138 {P : Prop} (h : P := by rw [hg]; exact Nat.ne_of_lt (blk_lt (g := gb10) (o := .cells #[.int .i64 ((rd_T163 l1 x11_1).f0), .slice A599_1 ((rd_T163 l1 x11_1).f1).length c599_1, .slice A599_2 ((rd_T163 l1 x11_1).f2).length c599_2] 163 (0, 0)) (ψ86))) : P := h
theorem ψ139 {P : Prop} (h : P := by rw [hg]; exact Nat.ne_of_gt (blk_lt (g := gb10) (o := .cells #[.int .i64 ((rd_T163 l1 x11_1).f0), .slice A599_1 ((rd_T163 l1 x11_1).f1).length c599_1, .slice A599_2 ((rd_T163 l1 x11_1).f2).length c599_2] 163 (0, 0)) (ψ86))) : P := h
/-! ### impl_nodesOf: function 138 -/
def impl_nodesOf.f (k : Nat) (l0 : List (S114)) : Option ((List (S163)) × Bool) := (impl_nester_many.f k l0 0 0 0).bind fun bt591 => (if bt591.2.1 = true then (some (bt591.1, (bt591.2.2.1 == (l0.length : Int)))) else (some (bt591.1, false)))
theorem τ56 {P : Prop} (h : P := by
 obtain ⟨rfl, rfl⟩ := H
 go_enter Try.func138, Try.ntmps138
 go_wp2_with (first | ((with_reducible refine gate_dst (N := 4) rfl ?_); (try (refine gate_guard ψ14 ?_; dsimp only)); refine bE 4 #[.slice none 0 0, .int .i64 0, .int .i64 0, .int .i64 0] 160 ?_; intro gb10 hg w1_ hbox hb; have q := n4_ (below_step ψ80 hb) (hbox) ((by rw [hg]; exact (below_size ψ80) : w.heap.size ≤ gb10)) ((by rw [hg]; exact (below_size ψ80) : w.heap.size ≤ gb10)); clear HB; obtain ⟨HB, BK10, GW10, GE10⟩ := q; clear hb hbox hg; obtain ⟨hczB10_0, hczB10_1, hczB10_2, hczB10_3, hfzB10_0, hfzB10_1, hfzB10_2, hfzB10_3⟩ := cells4 BK10.out) | (go_at_call 150; (with_reducible refine (impl_nester_many.calls k gb10 l0 0 0 0 t591 true t595 t596 t597 w _ ?_ ?_ A2.out).mono ?_); exact (by exact ⟨_, _, ψ81, GW10.out, HR0.out⟩); exact ψ80; rintro e w2_ ⟨v592, rfl, ho0, hi, hb, hk⟩; have q := n3_ (Kd.R_lower ho0 (below_size ψ80)) (hb) (hi); clear HB BK10; obtain ⟨HO593, HB, HI590⟩ := q; (try clear hb hk hi); (try clear ho0); obtain ⟨ASzS1_0, cSzS1_0, HGzS1, hgzS1, HSzS1_0⟩ := HI590.out; have hczS1_0 := cellS160_0 HGzS1; have hczS1_1 := cellS160_1 HGzS1; have hczS1_2 := cellS160_2 HGzS1; have hczS1_3 := cellS160_3 HGzS1; have hfzS1_1 := blk_frozen HGzS1 1; have hfzS1_2 := blk_frozen HGzS1 2; have hfzS1_3 := blk_frozen HGzS1 3; clear HGzS1 hgzS1) | (go_at_call 150; (with_reducible refine (impl_nester_many.calls k gb10 l0 0 0 0 t591 false t595 t596 t597 w _ ?_ ?_ A2.out).mono ?_); exact (by exact ⟨_, _, ψ81, GW10.out, HR0.out⟩); exact ψ80; rintro e w2_ ⟨v592, rfl, ho0, hi, hb, hk⟩; have q := n3_ (Kd.R_lower ho0 (below_size ψ80)) (hb) (hi); clear HB BK10; obtain ⟨HO593, HB, HI590⟩ := q; (try clear hb hk hi); (try clear ho0)) | ((with_reducible refine qR_ ?_)) | ((with_reducible refine wpQuiet_step (fun K hK => ?_)); go_simp; first | (refine hK _ ?_; clear hK K) | (apply Exists.intro; refine ⟨fun _ => ?_, hK _ ?_⟩)) | ((with_reducible refine wpQuiet_nil ?_); rintro _ ⟨nq, rfl⟩))
 go_ret2
 exact ⟨_, ψ4, by (with_reducible repeat (first | apply Kd.R_alloc | apply Kd.R_drewN | apply Kd.R_drew)); exact HO593.out, ψ80⟩) : P := h
theorem impl_nodesOf.calls (k : Nat) (A0 : Option Addr) (c0 : Nat) (l0 : List (S114)) (r1 : List (S163)) (r2 : Bool) (w : World) (hr0 : Kd.C k114 w A0 l0.length l0) (hc0 : l0.length ≤ c0) (h : impl_nodesOf.f k l0 = some (r1, r2)) :
 Calls Try.prog 138 #[.slice A0 l0.length c0] w fun e w' => ∃ v0_ : Value, e = .returned (.tuple #[v0_, .bool r2]) ∧ Kd.R k163 163 w' w.heap.size (fun _ => True) v0_ r1 ∧ Below w.heap.size w w' := by
 have hu160 := Try.underlying160
 have q := n2_ hr0 hc0
 clear hr0 hc0
 obtain ⟨HR0, HC0⟩ := q
 have HB := Aside0.mk (Below.refl w.heap.size w)
 unfold impl_nodesOf.f at h
 have H := h
 clear h
 replace H := bS H; obtain ⟨⟨t591, t594, t595, t596, t597⟩, A2, H⟩ := H
 replace H := ifB H; rcases H with ⟨rfl, H⟩ | ⟨rfl, H⟩
 ·simp only [Option.some.injEq, Prod.mk.injEq] at H
  exact τ56
 ·simp only [Option.some.injEq, Prod.mk.injEq] at H
  exact τ56

/-! ### impl_stepsIn: function 139 -/
mutual
def impl_stepsIn.l0 : Nat → List (S114) → Int → List (S163) → Int → Int → Option (Int)
 | 0, _, _, _, _, _ => none
 | k + 1, x0, x5, x9, x10, x11 => if x11 < x10 then (if 0 ≤ x11 then (if x11 < (x9.length : Int) then (if 0 ≤ ((rd_T163 x9 x11).f0) then (if ((rd_T163 x9 x11).f0) < (x0.length : Int) then (if ((rd_T114 x0 ((rd_T163 x9 x11).f0)).f0) = 2 then ((impl_stepsIn.f k x0 ((rd_T163 x9 x11).f1)).bind fun t606 => ((impl_stepsIn.f k x0 ((rd_T163 x9 x11).f2)).bind fun t608 => (impl_stepsIn.l0 k x0 (mn (wrap64 (x5 + (wrap64 (1 + (mx t606 t608))))) 4000) x9 x10 (wrap64 (x11 + 1))))) else (if ((rd_T114 x0 ((rd_T163 x9 x11).f0)).f0) = 5 then ((impl_stepsIn.f k x0 ((rd_T163 x9 x11).f1)).bind fun t611 => (impl_stepsIn.l0 k x0 (mn (wrap64 (x5 + (wrap64 (1 + (wrap64 (((rd_T114 x0 ((rd_T163 x9 x11).f0)).f1) * (wrap64 (1 + t611)))))))) 4000) x9 x10 (wrap64 (x11 + 1)))) else (if ((rd_T114 x0 ((rd_T163 x9 x11).f0)).f0) = 8 then ((impl_stepsIn.f k x0 ((rd_T163 x9 x11).f1)).bind fun t613 => ((impl_stepsIn.f k x0 ((rd_T163 x9 x11).f2)).bind fun t615 => (impl_stepsIn.l0 k x0 (mn (wrap64 (x5 + (wrap64 ((wrap64 (1 + t613)) + t615)))) 4000) x9 x10 (wrap64 (x11 + 1))))) else (impl_stepsIn.l0 k x0 (mn (wrap64 (x5 + 1)) 4000) x9 x10 (wrap64 (x11 + 1)))))) else (none)) else (none)) else (none)) else (none)) else (some x5)
def impl_stepsIn.f : Nat → List (S114) → List (S163) → Option (Int)
 | 0, _, _ => none
 | k + 1, l0, l1 => impl_stepsIn.l0 k l0 0 l1 (l1.length : Int) 0
end
def impl_stepsIn.T9 : Bool × List (List Nat × List Nat) := (true, [([], []), ([], []), ([], []), ([2], [2]), ([1, 3], [1, 3]), ([], []), ([], []), ([6], [6]), ([5, 7, 4], [5, 7]), ([4, 8], [4, 8]), ([9], [9]), ([0, 10], [0, 10]), ([11, 8, 0, 1, 2, 3, 4, 5, 6, 7, 8, 9, 10, 11], [0, 11])])
def impl_stepsIn.B9 : List Nat := [0, 0, 0, 4, 14, 0, 0, 64, 254, 510, 1022, 2047, 4095]
theorem impl_stepsIn.tab9 : rtab .any (opsOf Try.f139 9) = impl_stepsIn.T9 := by kernel_rfl
theorem impl_stepsIn.bits9 : waitsOk impl_stepsIn.T9.2 impl_stepsIn.B9 = true := by kernel_rfl
def impl_stepsIn.T11 : Bool × List (List Nat × List Nat) := (true, [([], []), ([], []), ([1], [1]), ([], []), ([], []), ([4], [4]), ([3, 5], [3, 5]), ([6], [6]), ([2, 7], [2, 7]), ([8], [8]), ([0, 9], [0, 9]), ([10, 6, 0, 1, 2, 3, 4, 5, 6, 7, 8, 9, 10], [0, 10])])
def impl_stepsIn.B11 : List Nat := [0, 0, 2, 0, 0, 16, 56, 120, 254, 510, 1023, 2047]
theorem impl_stepsIn.tab11 : rtab .any (opsOf Try.f139 11) = impl_stepsIn.T11 := by kernel_rfl
theorem impl_stepsIn.bits11 : waitsOk impl_stepsIn.T11.2 impl_stepsIn.B11 = true := by kernel_rfl
def impl_stepsIn.T13 : Bool × List (List Nat × List Nat) := (true, [([], []), ([], []), ([], []), ([2], [2]), ([1, 3], [1, 3]), ([4], [4]), ([], []), ([], []), ([7], [7]), ([6, 8, 4], [6, 8]), ([5, 9], [5, 9]), ([0, 10], [0, 10]), ([11, 9, 0, 1, 2, 3, 4, 5, 6, 7, 8, 9, 10, 11], [0, 11])])
def impl_stepsIn.B13 : List Nat := [0, 0, 0, 4, 14, 30, 0, 0, 128, 478, 1022, 2047, 4095]
theorem impl_stepsIn.tab13 : rtab .any (opsOf Try.f139 13) = impl_stepsIn.T13 := by kernel_rfl
theorem impl_stepsIn.bits13 : waitsOk impl_stepsIn.T13.2 impl_stepsIn.B13 = true := by kernel_rfl
theorem impl_stepsIn.calls (k : Nat) : ∀ (A0 : Option Addr) (c0 : Nat) (l0 : List (S114)) (A1 : Option Addr) (c1 : Nat) (l1 : List (S163)) (r : Int) (w : World) (hr0 : Kd.C k114 w A0 l0.length l0) (hc0 : l0.length ≤ c0) (hr1 : Kd.C k163 w A1 l1.length l1) (hc1 : l1.length ≤ c1) (h : impl_stepsIn.f k l0 l1 = some r),
 Calls Try.prog 139 #[.slice A0 l0.length c0, .slice A1 l1.length c1] w fun e w' => e = .returned (.int .i64 r) ∧ Below w.heap.size w w' := by
 induction k using Nat.strongRecOn with
 | _ k ih =>
 intro A0 c0 l0 A1 c1 l1 r w hr0 hc0 hr1 hc1 h
 cases k with
 | zero => exact absurd h (by simp [impl_stepsIn.f])
 | succ k =>
 simp only [impl_stepsIn.f] at h
 have hu163 := Try.underlying163
 have hu114 := Try.underlying114
 have q := n4_ hr0 hc0 hr1 hc1
 clear hr0 hc0 hr1 hc1
 obtain ⟨HR0, HC0, HR1, HC1⟩ := q
 have HB := Aside0.mk (Below.refl w.heap.size w)
 have H := h
 clear h
 have H' := Aside0.mk H
 clear H
 go_enter Try.func139, Try.ntmps139
 go_wp2
 go_loopg [5, 11] k (fun kq v5 v11 w' => ∃ (x5_1 : Int) (x11_1 : Int), v5 = .int .i64 x5_1 ∧ v11 = .int .i64 x11_1 ∧ Aside0 (impl_stepsIn.l0 kq l0 x5_1 l1 (l1.length : Int) x11_1 = some r) ∧ Aside0 (kq ≤ k) ∧ Aside0 (Below w.heap.size w w'))
 case atStart => exact ⟨(0), (0), ψ7, ψ7, H', ⟨Nat.le_refl _⟩, ⟨ψ25⟩⟩
 case round =>
  clear H'
  try clear c1
  obtain ⟨x5_1, x11_1, rfl, rfl, HA, HK1, HB⟩ := hrel
  cases gk with
  | zero => exact absurd HA.out (by simp [impl_stepsIn.l0])
  | succ k1 =>
   have H := HA.out
   clear HA
   simp only [impl_stepsIn.l0] at H
   replace H := ifD H; rcases H with ⟨c3b0, H⟩ | ⟨c3b0, H⟩
   ·replace H := ifN H; obtain ⟨c4b0, H⟩ := H
    replace H := ifN H; obtain ⟨c5b0, H⟩ := H
    replace H := ifN H; obtain ⟨c6b0, H⟩ := H
    replace H := ifN H; obtain ⟨c7b0, H⟩ := H
    replace H := ifF H; rcases H with ⟨c8b0, c8b1, H⟩ | ⟨c8b0, c8b1, c8, H⟩
    ·replace H := bS H; obtain ⟨t606, A9, H⟩ := H
     replace H := bS H; obtain ⟨t608, A10, H⟩ := H
     obtain ⟨ji11, hji11⟩ : ∃ j_ : Int, (mx t606 t608) = j_ := ⟨_, rfl⟩
     replace H : (impl_stepsIn.l0 k1 l0 (mn (wrap64 (x5_1 + (wrap64 (1 + (ji11))))) 4000) l1 (l1.length : Int) (wrap64 (x11_1 + 1))) = some r := by first | (rw [hji11] at H; exact H) | (simp only [hji11] at H ⊢; exact H)
     (try rw [hji11] at A9)
     (try rw [hji11] at A10)
     have hji11_ : (if t606 < t608 then t608 else t606) = ji11 := hji11
     obtain ⟨ji12, hji12⟩ : ∃ j_ : Int, (mn (wrap64 (x5_1 + (wrap64 (1 + (ji11))))) 4000) = j_ := ⟨_, rfl⟩
     replace H : (impl_stepsIn.l0 k1 l0 ji12 l1 (l1.length : Int) (wrap64 (x11_1 + 1))) = some r := by first | (rw [hji12] at H; exact H) | (simp only [hji12] at H ⊢; exact H)
     (try rw [hji12] at A9)
     (try rw [hji12] at A10)
     have hji12_ : (if 4000 < (wrap64 (x5_1 + (wrap64 (1 + (ji11))))) then 4000 else (wrap64 (x5_1 + (wrap64 (1 + (ji11)))))) = ji12 := hji12
     have H' := Aside0.mk H
     clear H
     have p599 : 0 ≤ (x11_1 : Int) := of_decide_eq_true ψ5
     have q599 : x11_1 < (l1.length : Int) := of_decide_eq_true ψ5
     obtain ⟨ad599, A599_1, c599_1, A599_2, c599_2, e599, hx599_0, hx599_1, hx599_2, hl599_1, hi599_1, hl599_2, hi599_2⟩ := at_T163 HR1.out x11_1 p599 q599
     cases e599
     replace hx599_0 := cB HB hx599_0
     replace hx599_1 := cB HB hx599_1
     replace hx599_2 := cB HB hx599_2
     have q := n4_ hi599_1 hl599_1 hi599_2 hl599_2
     clear hi599_1 hl599_1 hi599_2 hl599_2
     obtain ⟨HR599_1, HC599_1, HR599_2, HC599_2⟩ := q
     replace p599 := eq_true p599
     replace q599 := eq_true q599
     try go_wp2_with (first | ((with_reducible refine gate_dst (N := 7) rfl ?_); refine bE 7 #[.int .i64 0, .slice none 0 0, .slice none 0 0] 163 ?_; intro gb10 hg w13 hbox hb; have q := n4_ (below_step ψ25 hb) (hbox) ((ψ115 : w.heap.size ≤ gb10)) ((ψ115 : w.heap.size ≤ gb10)); clear HB; obtain ⟨HB, BK10, GW10, GE10⟩ := q; clear hb hbox hg; obtain ⟨y14_0, y14_1, y14_2, u14_0, u14_1, u14_2⟩ := cells3 BK10.out; have p602 : 0 ≤ (((rd_T163 l1 x11_1).f0) : Int) := of_decide_eq_true ψ5; have q602 : ((rd_T163 l1 x11_1).f0) < (l0.length : Int) := of_decide_eq_true ψ5; obtain ⟨ad602, A602_2, c602_2, A602_3, c602_3, e602, hx602_0, hx602_1, hx602_2, hx602_3, hl602_2, hi602_2, hl602_3, hi602_3⟩ := at_T114 HR0.out ((rd_T163 l1 x11_1).f0) p602 q602; cases e602; have hn602_0 : ad602.block ≠ gb10 := ψ137; have hn602_1 : ad602.block ≠ gb10 := ψ137; have hn602_2 : ad602.block ≠ gb10 := ψ137; replace hx602_0 := cB HB hx602_0; replace hx602_1 := cB HB hx602_1; replace hx602_2 := cB HB hx602_2; replace hx602_3 := cB HB hx602_3; have q := n4_ hi602_2 hl602_2 hi602_3 hl602_3; clear hi602_2 hl602_2 hi602_3 hl602_3; obtain ⟨HR602_2, HC602_2, HR602_3, HC602_3⟩ := q; replace hx602_0 := (cell_far (p := ⟨gb10, 0, none⟩) ψ83 (.int .i64 ((rd_T163 l1 x11_1).f0))).trans hx602_0; replace hx602_1 := (cell_far (p := ⟨gb10, 0, none⟩) ψ83 (.int .i64 ((rd_T163 l1 x11_1).f0))).trans hx602_1; replace hx602_2 := (cell_far (p := ⟨gb10, 0, none⟩) ψ83 (.int .i64 ((rd_T163 l1 x11_1).f0))).trans hx602_2; replace hx602_3 := (cell_far (p := ⟨gb10, 0, none⟩) ψ83 (.int .i64 ((rd_T163 l1 x11_1).f0))).trans hx602_3; replace hx602_0 := (cell_far (p := ⟨gb10, 1, none⟩) ψ84 (.slice A599_1 ((rd_T163 l1 x11_1).f1).length c599_1)).trans hx602_0; replace hx602_1 := (cell_far (p := ⟨gb10, 1, none⟩) ψ84 (.slice A599_1 ((rd_T163 l1 x11_1).f1).length c599_1)).trans hx602_1; replace hx602_2 := (cell_far (p := ⟨gb10, 1, none⟩) ψ84 (.slice A599_1 ((rd_T163 l1 x11_1).f1).length c599_1)).trans hx602_2; replace hx602_3 := (cell_far (p := ⟨gb10, 1, none⟩) ψ84 (.slice A599_1 ((rd_T163 l1 x11_1).f1).length c599_1)).trans hx602_3; replace hx602_0 := (cell_far (p := ⟨gb10, 2, none⟩) ψ85 (.slice A599_2 ((rd_T163 l1 x11_1).f2).length c599_2)).trans hx602_0; replace hx602_1 := (cell_far (p := ⟨gb10, 2, none⟩) ψ85 (.slice A599_2 ((rd_T163 l1 x11_1).f2).length c599_2)).trans hx602_1; replace hx602_2 := (cell_far (p := ⟨gb10, 2, none⟩) ψ85 (.slice A599_2 ((rd_T163 l1 x11_1).f2).length c599_2)).trans hx602_2; replace hx602_3 := (cell_far (p := ⟨gb10, 2, none⟩) ψ85 (.slice A599_2 ((rd_T163 l1 x11_1).f2).length c599_2)).trans hx602_3; clear hn602_0; clear hn602_1; clear hn602_2; replace p602 := eq_true p602; replace q602 := eq_true q602) | ((with_reducible refine gate_dst (N := 8) rfl ?_); refine bE 8 #[.int .i64 0, .int .i64 0, .slice none 0 0, .slice none 0 0] 114 ?_; intro gb11 hg w15 hbox hb; have q := n7_ (blk_below (g := gb10) (o := .cells #[.int .i64 ((rd_T163 l1 x11_1).f0), .slice A599_1 ((rd_T163 l1 x11_1).f1).length c599_1, .slice A599_2 ((rd_T163 l1 x11_1).f2).length c599_2] 163 (0, 0)) ψ86 hb) (below_step ψ25 hb) (hbox) ((ψ115 : w.heap.size ≤ gb11)) ((ψ115 : w.heap.size ≤ gb11)) ((ψ138 : gb10 ≠ gb11)) ((ψ139 : gb11 ≠ gb10)); clear BK10 HB; obtain ⟨BK10, HB, BK11, GW11, GE11, NB10_11, NB11_10⟩ := q; clear hb hbox hg; have hnb16 := NB11_10.out; have hnc16 := NB10_11.out; obtain ⟨y17_0, y17_1, y17_2, y17_3, u17_0, u17_1, u17_2, u17_3⟩ := cells4 BK11.out))
     have n0_ : Aside0 (((((w15.setCell ⟨gb11, 0, none⟩ (.int .i64 ((rd_T114 l0 ((rd_T163 l1 x11_1).f0)).f0))).setCell ⟨gb11, 1, none⟩ (.int .i64 ((rd_T114 l0 ((rd_T163 l1 x11_1).f0)).f1))).setCell ⟨gb11, 2, none⟩ (.slice A602_2 ((rd_T114 l0 ((rd_T163 l1 x11_1).f0)).f2).length c602_2)).setCell ⟨gb11, 3, none⟩ (.slice A602_3 ((rd_T114 l0 ((rd_T163 l1 x11_1).f0)).f3).length c602_3)).heap[gb10]? = some (.cells #[.int .i64 ((rd_T163 l1 x11_1).f0), .slice A599_1 ((rd_T163 l1 x11_1).f1).length c599_1, .slice A599_2 ((rd_T163 l1 x11_1).f2).length c599_2] 163 (0, 0))) := ⟨ψ87⟩
     have n1_ : Aside0 (((((w15.setCell ⟨gb11, 0, none⟩ (.int .i64 ((rd_T114 l0 ((rd_T163 l1 x11_1).f0)).f0))).setCell ⟨gb11, 1, none⟩ (.int .i64 ((rd_T114 l0 ((rd_T163 l1 x11_1).f0)).f1))).setCell ⟨gb11, 2, none⟩ (.slice A602_2 ((rd_T114 l0 ((rd_T163 l1 x11_1).f0)).f2).length c602_2)).setCell ⟨gb11, 3, none⟩ (.slice A602_3 ((rd_T114 l0 ((rd_T163 l1 x11_1).f0)).f3).length c602_3)).heap[gb11]? = some (.cells #[.int .i64 ((rd_T114 l0 ((rd_T163 l1 x11_1).f0)).f0), .int .i64 ((rd_T114 l0 ((rd_T163 l1 x11_1).f0)).f1), .slice A602_2 ((rd_T114 l0 ((rd_T163 l1 x11_1).f0)).f2).length c602_2, .slice A602_3 ((rd_T114 l0 ((rd_T163 l1 x11_1).f0)).f3).length c602_3] 114 (0, 0))) := ⟨ψ88⟩
     have n2_ : Aside0 (Below w.heap.size w ((((w15.setCell ⟨gb11, 0, none⟩ (.int .i64 ((rd_T114 l0 ((rd_T163 l1 x11_1).f0)).f0))).setCell ⟨gb11, 1, none⟩ (.int .i64 ((rd_T114 l0 ((rd_T163 l1 x11_1).f0)).f1))).setCell ⟨gb11, 2, none⟩ (.slice A602_2 ((rd_T114 l0 ((rd_T163 l1 x11_1).f0)).f2).length c602_2)).setCell ⟨gb11, 3, none⟩ (.slice A602_3 ((rd_T114 l0 ((rd_T163 l1 x11_1).f0)).f3).length c602_3))) := ⟨ψ25⟩
     (try clear BK10)
     (try clear BK11)
     (try clear HB)
     generalize ((((w15.setCell ⟨gb11, 0, none⟩ (.int .i64 ((rd_T114 l0 ((rd_T163 l1 x11_1).f0)).f0))).setCell ⟨gb11, 1, none⟩ (.int .i64 ((rd_T114 l0 ((rd_T163 l1 x11_1).f0)).f1))).setCell ⟨gb11, 2, none⟩ (.slice A602_2 ((rd_T114 l0 ((rd_T163 l1 x11_1).f0)).f2).length c602_2)).setCell ⟨gb11, 3, none⟩ (.slice A602_3 ((rd_T114 l0 ((rd_T163 l1 x11_1).f0)).f3).length c602_3)) = w18 at n0_ n1_ n2_ ⊢
     have BK10 := n0_
     have BK11 := n1_
     have HB := n2_
     clear n0_ n1_ n2_
     have q := n3_ (blk_drew BK10.out) (blk_drew BK11.out) (below_drew1 HB.out)
     clear BK10 BK11 HB
     obtain ⟨BK10, BK11, HB⟩ := q
     refine start_ (n := 13) (S := fun w' => w'.cell? ⟨gb10, 0, none⟩ = some (.int .i64 ((rd_T163 l1 x11_1).f0)) ∧ w'.cell? ⟨gb10, 1, none⟩ = some (.slice A599_1 ((rd_T163 l1 x11_1).f1).length c599_1) ∧ w'.cell? ⟨gb10, 2, none⟩ = some (.slice A599_2 ((rd_T163 l1 x11_1).f2).length c599_2)) (ds := []) #[false, false, false, false, false, false, false, false, false, false, false, false, false] ψ12 rfl rfl ⟨(blk_cell BK10.out 0).trans rfl, (blk_cell BK10.out 1).trans rfl, (blk_cell BK10.out 2).trans rfl⟩ (fun hHeld => ?_); refine with_tabW impl_stepsIn.tab9 impl_stepsIn.bits9 (fun HT_ HW_ => ?_)
     generalize w18.drew = w19 at BK10 BK11 HB hHeld ⊢
     refine rP 0 26 ?_; refine rP 1 27 ?_; refine rP 2 28 ?_; refine rP 5 31 ?_; refine rP 6 32 ?_; refine rT 3 29 ?_; refine rT 7 33 ?_
     refine one_ (i := 4) (N := some 30) #[true, true, true, true, true, true, true, true, false, false, false, false, false] rfl rfl (one_of HT_.out ψ12) ψ13 (fun K hK => ?_)
     refine goes_ Try.func139 ψ12 rfl #[.slice (some ad602) l0.length c0, .slice A599_1 ((rd_T163 l1 x11_1).f1).length c599_1] ψ14 rfl rfl ψ15 ?_
     with_reducible refine (ih k1 ψ8 _ _ l0 _ _ ((rd_T163 l1 x11_1).f1) t606 _ ?_ ?_ ?_ ?_ A9.out).mono ?_
     exact ψ32; exact HC0.out; exact ψ89; exact HC599_1.out
     rintro e w20 ⟨rfl, hb⟩
     refine ⟨_, rfl, ?_⟩
     have q := n3_ (blk_below (g := gb10) ψ10 hb) (blk_below (g := gb11) ψ24 hb) (below_step ψ25 hb)
     clear BK10 BK11 HB
     obtain ⟨BK10, BK11, HB⟩ := q
     (try clear hb)
     refine hK.out _ _ ⟨(blk_cell BK10.out 0).trans rfl, (blk_cell BK10.out 1).trans rfl, (blk_cell BK10.out 2).trans rfl⟩ (fun hHeld => ?_)
     clear hK K
     refine rN 30 ?_
     refine one_ (i := 8) (N := some 34) #[true, true, true, true, true, true, true, true, true, false, false, false, false] rfl rfl (one_of HT_.out ψ12) ψ13 (fun K hK => ?_)
     refine goes_ Try.func139 ψ12 rfl #[.slice (some ad602) l0.length c0, .slice A599_2 ((rd_T163 l1 x11_1).f2).length c599_2] ψ14 rfl rfl ψ15 ?_
     with_reducible refine (ih k1 ψ8 _ _ l0 _ _ ((rd_T163 l1 x11_1).f2) t608 _ ?_ ?_ ?_ ?_ A10.out).mono ?_
     exact ψ32; exact HC0.out; exact ψ90; exact HC599_2.out
     rintro e w21 ⟨rfl, hb⟩
     refine ⟨_, rfl, ?_⟩
     have q := n3_ (blk_below (g := gb10) ψ10 hb) (blk_below (g := gb11) ψ24 hb) (below_step ψ25 hb)
     clear BK10 BK11 HB
     obtain ⟨BK10, BK11, HB⟩ := q
     (try clear hb)
     refine hK.out _ _ ⟨(blk_cell BK10.out 0).trans rfl, (blk_cell BK10.out 1).trans rfl, (blk_cell BK10.out 2).trans rfl⟩ (fun hHeld => ?_)
     clear hK K
     refine rN 34 ?_; refine rP 9 35 ?_; refine rP 10 36 ?_; refine rP 11 37 ?_; refine rP 12 5 ?_
     refine done_ (done_of HT_.out ψ12) ?_
     try go_wp2
     go_roundg k1
     case measure => have := HK1.out; omega
     case rel => exact ⟨(ji12), (wrap64 (x11_1 + 1)), (by first | rfl | (simp; done) | (simp only [← hji12] <;> (first | rfl | simp)) | (simp [*]; done)), ψ7, H', ⟨ψ8⟩, ⟨ψ25⟩⟩
    ·by_cases c22 : ((rd_T114 l0 ((rd_T163 l1 x11_1).f0)).f0) = 5
     ·rw [if_pos c22] at H
      have c22b0 : (((rd_T114 l0 ((rd_T163 l1 x11_1).f0)).f0) == 5) = true := beq_iff_eq.mpr c22
      have c22b1 : (((rd_T114 l0 ((rd_T163 l1 x11_1).f0)).f0) != 5) = false := bne_eq_false_iff_eq.mpr c22
      clear c22
      replace H := bS H; obtain ⟨t611, A23, H⟩ := H
      obtain ⟨ji24, hji24⟩ : ∃ j_ : Int, (mn (wrap64 (x5_1 + (wrap64 (1 + (wrap64 (((rd_T114 l0 ((rd_T163 l1 x11_1).f0)).f1) * (wrap64 (1 + t611)))))))) 4000) = j_ := ⟨_, rfl⟩
      replace H : (impl_stepsIn.l0 k1 l0 ji24 l1 (l1.length : Int) (wrap64 (x11_1 + 1))) = some r := by first | (rw [hji24] at H; exact H) | (simp only [hji24] at H ⊢; exact H)
      (try rw [hji24] at A23)
      have hji24_ : (if 4000 < (wrap64 (x5_1 + (wrap64 (1 + (wrap64 (((rd_T114 l0 ((rd_T163 l1 x11_1).f0)).f1) * (wrap64 (1 + t611)))))))) then 4000 else (wrap64 (x5_1 + (wrap64 (1 + (wrap64 (((rd_T114 l0 ((rd_T163 l1 x11_1).f0)).f1) * (wrap64 (1 + t611))))))))) = ji24 := hji24
      have H' := Aside0.mk H
      clear H
      have p599 : 0 ≤ (x11_1 : Int) := of_decide_eq_true ψ5
      have q599 : x11_1 < (l1.length : Int) := of_decide_eq_true ψ5
      obtain ⟨ad599, A599_1, c599_1, A599_2, c599_2, e599, hx599_0, hx599_1, hx599_2, hl599_1, hi599_1, hl599_2, hi599_2⟩ := at_T163 HR1.out x11_1 p599 q599
      cases e599
      replace hx599_0 := cB HB hx599_0
      replace hx599_1 := cB HB hx599_1
      replace hx599_2 := cB HB hx599_2
      have q := n4_ hi599_1 hl599_1 hi599_2 hl599_2
      clear hi599_1 hl599_1 hi599_2 hl599_2
      obtain ⟨HR599_1, HC599_1, HR599_2, HC599_2⟩ := q
      replace p599 := eq_true p599
      replace q599 := eq_true q599
      try go_wp2_with (first | ((with_reducible refine gate_dst (N := 7) rfl ?_); refine bE 7 #[.int .i64 0, .slice none 0 0, .slice none 0 0] 163 ?_; intro gb10 hg w25 hbox hb; have q := n4_ (below_step ψ25 hb) (hbox) ((ψ115 : w.heap.size ≤ gb10)) ((ψ115 : w.heap.size ≤ gb10)); clear HB; obtain ⟨HB, BK10, GW10, GE10⟩ := q; clear hb hbox hg; obtain ⟨y26_0, y26_1, y26_2, u26_0, u26_1, u26_2⟩ := cells3 BK10.out; have p602 : 0 ≤ (((rd_T163 l1 x11_1).f0) : Int) := of_decide_eq_true ψ5; have q602 : ((rd_T163 l1 x11_1).f0) < (l0.length : Int) := of_decide_eq_true ψ5; obtain ⟨ad602, A602_2, c602_2, A602_3, c602_3, e602, hx602_0, hx602_1, hx602_2, hx602_3, hl602_2, hi602_2, hl602_3, hi602_3⟩ := at_T114 HR0.out ((rd_T163 l1 x11_1).f0) p602 q602; cases e602; have hn602_0 : ad602.block ≠ gb10 := ψ137; have hn602_1 : ad602.block ≠ gb10 := ψ137; have hn602_2 : ad602.block ≠ gb10 := ψ137; replace hx602_0 := cB HB hx602_0; replace hx602_1 := cB HB hx602_1; replace hx602_2 := cB HB hx602_2; replace hx602_3 := cB HB hx602_3; have q := n4_ hi602_2 hl602_2 hi602_3 hl602_3; clear hi602_2 hl602_2 hi602_3 hl602_3; obtain ⟨HR602_2, HC602_2, HR602_3, HC602_3⟩ := q; replace hx602_0 := (cell_far (p := ⟨gb10, 0, none⟩) ψ83 (.int .i64 ((rd_T163 l1 x11_1).f0))).trans hx602_0; replace hx602_1 := (cell_far (p := ⟨gb10, 0, none⟩) ψ83 (.int .i64 ((rd_T163 l1 x11_1).f0))).trans hx602_1; replace hx602_2 := (cell_far (p := ⟨gb10, 0, none⟩) ψ83 (.int .i64 ((rd_T163 l1 x11_1).f0))).trans hx602_2; replace hx602_3 := (cell_far (p := ⟨gb10, 0, none⟩) ψ83 (.int .i64 ((rd_T163 l1 x11_1).f0))).trans hx602_3; replace hx602_0 := (cell_far (p := ⟨gb10, 1, none⟩) ψ84 (.slice A599_1 ((rd_T163 l1 x11_1).f1).length c599_1)).trans hx602_0; replace hx602_1 := (cell_far (p := ⟨gb10, 1, none⟩) ψ84 (.slice A599_1 ((rd_T163 l1 x11_1).f1).length c599_1)).trans hx602_1; replace hx602_2 := (cell_far (p := ⟨gb10, 1, none⟩) ψ84 (.slice A599_1 ((rd_T163 l1 x11_1).f1).length c599_1)).trans hx602_2; replace hx602_3 := (cell_far (p := ⟨gb10, 1, none⟩) ψ84 (.slice A599_1 ((rd_T163 l1 x11_1).f1).length c599_1)).trans hx602_3; replace hx602_0 := (cell_far (p := ⟨gb10, 2, none⟩) ψ85 (.slice A599_2 ((rd_T163 l1 x11_1).f2).length c599_2)).trans hx602_0; replace hx602_1 := (cell_far (p := ⟨gb10, 2, none⟩) ψ85 (.slice A599_2 ((rd_T163 l1 x11_1).f2).length c599_2)).trans hx602_1; replace hx602_2 := (cell_far (p := ⟨gb10, 2, none⟩) ψ85 (.slice A599_2 ((rd_T163 l1 x11_1).f2).length c599_2)).trans hx602_2; replace hx602_3 := (cell_far (p := ⟨gb10, 2, none⟩) ψ85 (.slice A599_2 ((rd_T163 l1 x11_1).f2).length c599_2)).trans hx602_3; clear hn602_0; clear hn602_1; clear hn602_2; replace p602 := eq_true p602; replace q602 := eq_true q602) | ((with_reducible refine gate_dst (N := 8) rfl ?_); refine bE 8 #[.int .i64 0, .int .i64 0, .slice none 0 0, .slice none 0 0] 114 ?_; intro gb11 hg w27 hbox hb; have q := n7_ (blk_below (g := gb10) (o := .cells #[.int .i64 ((rd_T163 l1 x11_1).f0), .slice A599_1 ((rd_T163 l1 x11_1).f1).length c599_1, .slice A599_2 ((rd_T163 l1 x11_1).f2).length c599_2] 163 (0, 0)) ψ86 hb) (below_step ψ25 hb) (hbox) ((ψ115 : w.heap.size ≤ gb11)) ((ψ115 : w.heap.size ≤ gb11)) ((ψ138 : gb10 ≠ gb11)) ((ψ139 : gb11 ≠ gb10)); clear BK10 HB; obtain ⟨BK10, HB, BK11, GW11, GE11, NB10_11, NB11_10⟩ := q; clear hb hbox hg; have hnb28 := NB11_10.out; have hnc28 := NB10_11.out; obtain ⟨y29_0, y29_1, y29_2, y29_3, u29_0, u29_1, u29_2, u29_3⟩ := cells4 BK11.out))
      have n0_ : Aside0 (((((w27.setCell ⟨gb11, 0, none⟩ (.int .i64 ((rd_T114 l0 ((rd_T163 l1 x11_1).f0)).f0))).setCell ⟨gb11, 1, none⟩ (.int .i64 ((rd_T114 l0 ((rd_T163 l1 x11_1).f0)).f1))).setCell ⟨gb11, 2, none⟩ (.slice A602_2 ((rd_T114 l0 ((rd_T163 l1 x11_1).f0)).f2).length c602_2)).setCell ⟨gb11, 3, none⟩ (.slice A602_3 ((rd_T114 l0 ((rd_T163 l1 x11_1).f0)).f3).length c602_3)).heap[gb10]? = some (.cells #[.int .i64 ((rd_T163 l1 x11_1).f0), .slice A599_1 ((rd_T163 l1 x11_1).f1).length c599_1, .slice A599_2 ((rd_T163 l1 x11_1).f2).length c599_2] 163 (0, 0))) := ⟨ψ87⟩
      have n1_ : Aside0 (((((w27.setCell ⟨gb11, 0, none⟩ (.int .i64 ((rd_T114 l0 ((rd_T163 l1 x11_1).f0)).f0))).setCell ⟨gb11, 1, none⟩ (.int .i64 ((rd_T114 l0 ((rd_T163 l1 x11_1).f0)).f1))).setCell ⟨gb11, 2, none⟩ (.slice A602_2 ((rd_T114 l0 ((rd_T163 l1 x11_1).f0)).f2).length c602_2)).setCell ⟨gb11, 3, none⟩ (.slice A602_3 ((rd_T114 l0 ((rd_T163 l1 x11_1).f0)).f3).length c602_3)).heap[gb11]? = some (.cells #[.int .i64 ((rd_T114 l0 ((rd_T163 l1 x11_1).f0)).f0), .int .i64 ((rd_T114 l0 ((rd_T163 l1 x11_1).f0)).f1), .slice A602_2 ((rd_T114 l0 ((rd_T163 l1 x11_1).f0)).f2).length c602_2, .slice A602_3 ((rd_T114 l0 ((rd_T163 l1 x11_1).f0)).f3).length c602_3] 114 (0, 0))) := ⟨ψ88⟩
      have n2_ : Aside0 (Below w.heap.size w ((((w27.setCell ⟨gb11, 0, none⟩ (.int .i64 ((rd_T114 l0 ((rd_T163 l1 x11_1).f0)).f0))).setCell ⟨gb11, 1, none⟩ (.int .i64 ((rd_T114 l0 ((rd_T163 l1 x11_1).f0)).f1))).setCell ⟨gb11, 2, none⟩ (.slice A602_2 ((rd_T114 l0 ((rd_T163 l1 x11_1).f0)).f2).length c602_2)).setCell ⟨gb11, 3, none⟩ (.slice A602_3 ((rd_T114 l0 ((rd_T163 l1 x11_1).f0)).f3).length c602_3))) := ⟨ψ25⟩
      (try clear BK10)
      (try clear BK11)
      (try clear HB)
      generalize ((((w27.setCell ⟨gb11, 0, none⟩ (.int .i64 ((rd_T114 l0 ((rd_T163 l1 x11_1).f0)).f0))).setCell ⟨gb11, 1, none⟩ (.int .i64 ((rd_T114 l0 ((rd_T163 l1 x11_1).f0)).f1))).setCell ⟨gb11, 2, none⟩ (.slice A602_2 ((rd_T114 l0 ((rd_T163 l1 x11_1).f0)).f2).length c602_2)).setCell ⟨gb11, 3, none⟩ (.slice A602_3 ((rd_T114 l0 ((rd_T163 l1 x11_1).f0)).f3).length c602_3)) = w30 at n0_ n1_ n2_ ⊢
      have BK10 := n0_
      have BK11 := n1_
      have HB := n2_
      clear n0_ n1_ n2_
      have q := n3_ (blk_drew BK10.out) (blk_drew BK11.out) (below_drew1 HB.out)
      clear BK10 BK11 HB
      obtain ⟨BK10, BK11, HB⟩ := q
      refine start_ (n := 12) (S := fun w' => w'.cell? ⟨gb11, 0, none⟩ = some (.int .i64 ((rd_T114 l0 ((rd_T163 l1 x11_1).f0)).f0)) ∧ w'.cell? ⟨gb11, 1, none⟩ = some (.int .i64 ((rd_T114 l0 ((rd_T163 l1 x11_1).f0)).f1)) ∧ w'.cell? ⟨gb11, 2, none⟩ = some (.slice A602_2 ((rd_T114 l0 ((rd_T163 l1 x11_1).f0)).f2).length c602_2) ∧ w'.cell? ⟨gb11, 3, none⟩ = some (.slice A602_3 ((rd_T114 l0 ((rd_T163 l1 x11_1).f0)).f3).length c602_3) ∧ w'.cell? ⟨gb10, 0, none⟩ = some (.int .i64 ((rd_T163 l1 x11_1).f0)) ∧ w'.cell? ⟨gb10, 1, none⟩ = some (.slice A599_1 ((rd_T163 l1 x11_1).f1).length c599_1) ∧ w'.cell? ⟨gb10, 2, none⟩ = some (.slice A599_2 ((rd_T163 l1 x11_1).f2).length c599_2)) (ds := []) #[false, false, false, false, false, false, false, false, false, false, false, false] ψ12 rfl rfl ⟨(blk_cell BK11.out 0).trans rfl, (blk_cell BK11.out 1).trans rfl, (blk_cell BK11.out 2).trans rfl, (blk_cell BK11.out 3).trans rfl, (blk_cell BK10.out 0).trans rfl, (blk_cell BK10.out 1).trans rfl, (blk_cell BK10.out 2).trans rfl⟩ (fun hHeld => ?_); refine with_tabW impl_stepsIn.tab11 impl_stepsIn.bits11 (fun HT_ HW_ => ?_)
      generalize w30.drew = w31 at BK10 BK11 HB hHeld ⊢
      refine rP 0 40 ?_; refine rP 1 41 ?_; refine rP 3 43 ?_; refine rP 4 44 ?_; refine rT 2 42 ?_; refine rT 5 45 ?_
      refine one_ (i := 6) (N := some 46) #[true, true, true, true, true, true, true, false, false, false, false, false] rfl rfl (one_of HT_.out ψ12) ψ13 (fun K hK => ?_)
      refine goes_ Try.func139 ψ12 rfl #[.slice (some ad602) l0.length c0, .slice A599_1 ((rd_T163 l1 x11_1).f1).length c599_1] ψ14 rfl rfl ψ15 ?_
      with_reducible refine (ih k1 ψ8 _ _ l0 _ _ ((rd_T163 l1 x11_1).f1) t611 _ ?_ ?_ ?_ ?_ A23.out).mono ?_
      exact ψ32; exact HC0.out; exact ψ89; exact HC599_1.out
      rintro e w32 ⟨rfl, hb⟩
      refine ⟨_, rfl, ?_⟩
      have q := n3_ (blk_below (g := gb10) ψ10 hb) (blk_below (g := gb11) ψ24 hb) (below_step ψ25 hb)
      clear BK10 BK11 HB
      obtain ⟨BK10, BK11, HB⟩ := q
      (try clear hb)
      refine hK.out _ _ ⟨(blk_cell BK11.out 0).trans rfl, (blk_cell BK11.out 1).trans rfl, (blk_cell BK11.out 2).trans rfl, (blk_cell BK11.out 3).trans rfl, (blk_cell BK10.out 0).trans rfl, (blk_cell BK10.out 1).trans rfl, (blk_cell BK10.out 2).trans rfl⟩ (fun hHeld => ?_)
      clear hK K
      refine rN 46 ?_; refine rP 7 47 ?_; refine rP 8 48 ?_; refine rP 9 49 ?_; refine rP 10 50 ?_; refine rP 11 5 ?_
      refine done_ (done_of HT_.out ψ12) ?_
      try go_wp2
      go_roundg k1
      case measure => have := HK1.out; omega
      case rel => exact ⟨(ji24), (wrap64 (x11_1 + 1)), (by first | rfl | (simp; done) | (simp only [← hji24] <;> (first | rfl | simp)) | (simp [*]; done)), ψ7, H', ⟨ψ8⟩, ⟨ψ25⟩⟩
     ·rw [if_neg c22] at H
      have c22b0 : (((rd_T114 l0 ((rd_T163 l1 x11_1).f0)).f0) == 5) = false := beq_eq_false_iff_ne.mpr c22
      have c22b1 : (((rd_T114 l0 ((rd_T163 l1 x11_1).f0)).f0) != 5) = true := bne_iff_ne.mpr c22
      replace H := ifF H; rcases H with ⟨c33b0, c33b1, H⟩ | ⟨c33b0, c33b1, c33, H⟩
      ·replace H := bS H; obtain ⟨t613, A34, H⟩ := H
       replace H := bS H; obtain ⟨t615, A35, H⟩ := H
       obtain ⟨ji36, hji36⟩ : ∃ j_ : Int, (mn (wrap64 (x5_1 + (wrap64 ((wrap64 (1 + t613)) + t615)))) 4000) = j_ := ⟨_, rfl⟩
       replace H : (impl_stepsIn.l0 k1 l0 ji36 l1 (l1.length : Int) (wrap64 (x11_1 + 1))) = some r := by first | (rw [hji36] at H; exact H) | (simp only [hji36] at H ⊢; exact H)
       (try rw [hji36] at A34)
       (try rw [hji36] at A35)
       have hji36_ : (if 4000 < (wrap64 (x5_1 + (wrap64 ((wrap64 (1 + t613)) + t615)))) then 4000 else (wrap64 (x5_1 + (wrap64 ((wrap64 (1 + t613)) + t615))))) = ji36 := hji36
       have H' := Aside0.mk H
       clear H
       have p599 : 0 ≤ (x11_1 : Int) := of_decide_eq_true ψ5
       have q599 : x11_1 < (l1.length : Int) := of_decide_eq_true ψ5
       obtain ⟨ad599, A599_1, c599_1, A599_2, c599_2, e599, hx599_0, hx599_1, hx599_2, hl599_1, hi599_1, hl599_2, hi599_2⟩ := at_T163 HR1.out x11_1 p599 q599
       cases e599
       replace hx599_0 := cB HB hx599_0
       replace hx599_1 := cB HB hx599_1
       replace hx599_2 := cB HB hx599_2
       have q := n4_ hi599_1 hl599_1 hi599_2 hl599_2
       clear hi599_1 hl599_1 hi599_2 hl599_2
       obtain ⟨HR599_1, HC599_1, HR599_2, HC599_2⟩ := q
       replace p599 := eq_true p599
       replace q599 := eq_true q599
       try go_wp2_with (first | ((with_reducible refine gate_dst (N := 7) rfl ?_); refine bE 7 #[.int .i64 0, .slice none 0 0, .slice none 0 0] 163 ?_; intro gb10 hg w37 hbox hb; have q := n4_ (below_step ψ25 hb) (hbox) ((ψ115 : w.heap.size ≤ gb10)) ((ψ115 : w.heap.size ≤ gb10)); clear HB; obtain ⟨HB, BK10, GW10, GE10⟩ := q; clear hb hbox hg; obtain ⟨y38_0, y38_1, y38_2, u38_0, u38_1, u38_2⟩ := cells3 BK10.out; have p602 : 0 ≤ (((rd_T163 l1 x11_1).f0) : Int) := of_decide_eq_true ψ5; have q602 : ((rd_T163 l1 x11_1).f0) < (l0.length : Int) := of_decide_eq_true ψ5; obtain ⟨ad602, A602_2, c602_2, A602_3, c602_3, e602, hx602_0, hx602_1, hx602_2, hx602_3, hl602_2, hi602_2, hl602_3, hi602_3⟩ := at_T114 HR0.out ((rd_T163 l1 x11_1).f0) p602 q602; cases e602; have hn602_0 : ad602.block ≠ gb10 := ψ137; have hn602_1 : ad602.block ≠ gb10 := ψ137; have hn602_2 : ad602.block ≠ gb10 := ψ137; replace hx602_0 := cB HB hx602_0; replace hx602_1 := cB HB hx602_1; replace hx602_2 := cB HB hx602_2; replace hx602_3 := cB HB hx602_3; have q := n4_ hi602_2 hl602_2 hi602_3 hl602_3; clear hi602_2 hl602_2 hi602_3 hl602_3; obtain ⟨HR602_2, HC602_2, HR602_3, HC602_3⟩ := q; replace hx602_0 := (cell_far (p := ⟨gb10, 0, none⟩) ψ83 (.int .i64 ((rd_T163 l1 x11_1).f0))).trans hx602_0; replace hx602_1 := (cell_far (p := ⟨gb10, 0, none⟩) ψ83 (.int .i64 ((rd_T163 l1 x11_1).f0))).trans hx602_1; replace hx602_2 := (cell_far (p := ⟨gb10, 0, none⟩) ψ83 (.int .i64 ((rd_T163 l1 x11_1).f0))).trans hx602_2; replace hx602_3 := (cell_far (p := ⟨gb10, 0, none⟩) ψ83 (.int .i64 ((rd_T163 l1 x11_1).f0))).trans hx602_3; replace hx602_0 := (cell_far (p := ⟨gb10, 1, none⟩) ψ84 (.slice A599_1 ((rd_T163 l1 x11_1).f1).length c599_1)).trans hx602_0; replace hx602_1 := (cell_far (p := ⟨gb10, 1, none⟩) ψ84 (.slice A599_1 ((rd_T163 l1 x11_1).f1).length c599_1)).trans hx602_1; replace hx602_2 := (cell_far (p := ⟨gb10, 1, none⟩) ψ84 (.slice A599_1 ((rd_T163 l1 x11_1).f1).length c599_1)).trans hx602_2; replace hx602_3 := (cell_far (p := ⟨gb10, 1, none⟩) ψ84 (.slice A599_1 ((rd_T163 l1 x11_1).f1).length c599_1)).trans hx602_3; replace hx602_0 := (cell_far (p := ⟨gb10, 2, none⟩) ψ85 (.slice A599_2 ((rd_T163 l1 x11_1).f2).length c599_2)).trans hx602_0; replace hx602_1 := (cell_far (p := ⟨gb10, 2, none⟩) ψ85 (.slice A599_2 ((rd_T163 l1 x11_1).f2).length c599_2)).trans hx602_1; replace hx602_2 := (cell_far (p := ⟨gb10, 2, none⟩) ψ85 (.slice A599_2 ((rd_T163 l1 x11_1).f2).length c599_2)).trans hx602_2; replace hx602_3 := (cell_far (p := ⟨gb10, 2, none⟩) ψ85 (.slice A599_2 ((rd_T163 l1 x11_1).f2).length c599_2)).trans hx602_3; clear hn602_0; clear hn602_1; clear hn602_2; replace p602 := eq_true p602; replace q602 := eq_true q602) | ((with_reducible refine gate_dst (N := 8) rfl ?_); refine bE 8 #[.int .i64 0, .int .i64 0, .slice none 0 0, .slice none 0 0] 114 ?_; intro gb11 hg w39 hbox hb; have q := n7_ (blk_below (g := gb10) (o := .cells #[.int .i64 ((rd_T163 l1 x11_1).f0), .slice A599_1 ((rd_T163 l1 x11_1).f1).length c599_1, .slice A599_2 ((rd_T163 l1 x11_1).f2).length c599_2] 163 (0, 0)) ψ86 hb) (below_step ψ25 hb) (hbox) ((ψ115 : w.heap.size ≤ gb11)) ((ψ115 : w.heap.size ≤ gb11)) ((ψ138 : gb10 ≠ gb11)) ((ψ139 : gb11 ≠ gb10)); clear BK10 HB; obtain ⟨BK10, HB, BK11, GW11, GE11, NB10_11, NB11_10⟩ := q; clear hb hbox hg; have hnb40 := NB11_10.out; have hnc40 := NB10_11.out; obtain ⟨y41_0, y41_1, y41_2, y41_3, u41_0, u41_1, u41_2, u41_3⟩ := cells4 BK11.out))
       have n0_ : Aside0 (((((w39.setCell ⟨gb11, 0, none⟩ (.int .i64 ((rd_T114 l0 ((rd_T163 l1 x11_1).f0)).f0))).setCell ⟨gb11, 1, none⟩ (.int .i64 ((rd_T114 l0 ((rd_T163 l1 x11_1).f0)).f1))).setCell ⟨gb11, 2, none⟩ (.slice A602_2 ((rd_T114 l0 ((rd_T163 l1 x11_1).f0)).f2).length c602_2)).setCell ⟨gb11, 3, none⟩ (.slice A602_3 ((rd_T114 l0 ((rd_T163 l1 x11_1).f0)).f3).length c602_3)).heap[gb10]? = some (.cells #[.int .i64 ((rd_T163 l1 x11_1).f0), .slice A599_1 ((rd_T163 l1 x11_1).f1).length c599_1, .slice A599_2 ((rd_T163 l1 x11_1).f2).length c599_2] 163 (0, 0))) := ⟨ψ87⟩
       have n1_ : Aside0 (((((w39.setCell ⟨gb11, 0, none⟩ (.int .i64 ((rd_T114 l0 ((rd_T163 l1 x11_1).f0)).f0))).setCell ⟨gb11, 1, none⟩ (.int .i64 ((rd_T114 l0 ((rd_T163 l1 x11_1).f0)).f1))).setCell ⟨gb11, 2, none⟩ (.slice A602_2 ((rd_T114 l0 ((rd_T163 l1 x11_1).f0)).f2).length c602_2)).setCell ⟨gb11, 3, none⟩ (.slice A602_3 ((rd_T114 l0 ((rd_T163 l1 x11_1).f0)).f3).length c602_3)).heap[gb11]? = some (.cells #[.int .i64 ((rd_T114 l0 ((rd_T163 l1 x11_1).f0)).f0), .int .i64 ((rd_T114 l0 ((rd_T163 l1 x11_1).f0)).f1), .slice A602_2 ((rd_T114 l0 ((rd_T163 l1 x11_1).f0)).f2).length c602_2, .slice A602_3 ((rd_T114 l0 ((rd_T163 l1 x11_1).f0)).f3).length c602_3] 114 (0, 0))) := ⟨ψ88⟩
       have n2_ : Aside0 (Below w.heap.size w ((((w39.setCell ⟨gb11, 0, none⟩ (.int .i64 ((rd_T114 l0 ((rd_T163 l1 x11_1).f0)).f0))).setCell ⟨gb11, 1, none⟩ (.int .i64 ((rd_T114 l0 ((rd_T163 l1 x11_1).f0)).f1))).setCell ⟨gb11, 2, none⟩ (.slice A602_2 ((rd_T114 l0 ((rd_T163 l1 x11_1).f0)).f2).length c602_2)).setCell ⟨gb11, 3, none⟩ (.slice A602_3 ((rd_T114 l0 ((rd_T163 l1 x11_1).f0)).f3).length c602_3))) := ⟨ψ25⟩
       (try clear BK10)
       (try clear BK11)
       (try clear HB)
       generalize ((((w39.setCell ⟨gb11, 0, none⟩ (.int .i64 ((rd_T114 l0 ((rd_T163 l1 x11_1).f0)).f0))).setCell ⟨gb11, 1, none⟩ (.int .i64 ((rd_T114 l0 ((rd_T163 l1 x11_1).f0)).f1))).setCell ⟨gb11, 2, none⟩ (.slice A602_2 ((rd_T114 l0 ((rd_T163 l1 x11_1).f0)).f2).length c602_2)).setCell ⟨gb11, 3, none⟩ (.slice A602_3 ((rd_T114 l0 ((rd_T163 l1 x11_1).f0)).f3).length c602_3)) = w42 at n0_ n1_ n2_ ⊢
       have BK10 := n0_
       have BK11 := n1_
       have HB := n2_
       clear n0_ n1_ n2_
       have q := n3_ (blk_drew BK10.out) (blk_drew BK11.out) (below_drew1 HB.out)
       clear BK10 BK11 HB
       obtain ⟨BK10, BK11, HB⟩ := q
       refine start_ (n := 13) (S := fun w' => w'.cell? ⟨gb10, 0, none⟩ = some (.int .i64 ((rd_T163 l1 x11_1).f0)) ∧ w'.cell? ⟨gb10, 1, none⟩ = some (.slice A599_1 ((rd_T163 l1 x11_1).f1).length c599_1) ∧ w'.cell? ⟨gb10, 2, none⟩ = some (.slice A599_2 ((rd_T163 l1 x11_1).f2).length c599_2)) (ds := []) #[false, false, false, false, false, false, false, false, false, false, false, false, false] ψ12 rfl rfl ⟨(blk_cell BK10.out 0).trans rfl, (blk_cell BK10.out 1).trans rfl, (blk_cell BK10.out 2).trans rfl⟩ (fun hHeld => ?_); refine with_tabW impl_stepsIn.tab13 impl_stepsIn.bits13 (fun HT_ HW_ => ?_)
       generalize w42.drew = w43 at BK10 BK11 HB hHeld ⊢
       refine rP 0 53 ?_; refine rP 1 54 ?_; refine rP 2 55 ?_; refine rP 6 59 ?_; refine rP 7 60 ?_; refine rT 3 56 ?_; refine rT 8 61 ?_
       refine one_ (i := 4) (N := some 57) #[true, true, true, true, true, false, true, true, true, false, false, false, false] rfl rfl (one_of HT_.out ψ12) ψ13 (fun K hK => ?_)
       refine goes_ Try.func139 ψ12 rfl #[.slice (some ad602) l0.length c0, .slice A599_1 ((rd_T163 l1 x11_1).f1).length c599_1] ψ14 rfl rfl ψ15 ?_
       with_reducible refine (ih k1 ψ8 _ _ l0 _ _ ((rd_T163 l1 x11_1).f1) t613 _ ?_ ?_ ?_ ?_ A34.out).mono ?_
       exact ψ32; exact HC0.out; exact ψ89; exact HC599_1.out
       rintro e w44 ⟨rfl, hb⟩
       refine ⟨_, rfl, ?_⟩
       have q := n3_ (blk_below (g := gb10) ψ10 hb) (blk_below (g := gb11) ψ24 hb) (below_step ψ25 hb)
       clear BK10 BK11 HB
       obtain ⟨BK10, BK11, HB⟩ := q
       (try clear hb)
       refine hK.out _ _ ⟨(blk_cell BK10.out 0).trans rfl, (blk_cell BK10.out 1).trans rfl, (blk_cell BK10.out 2).trans rfl⟩ (fun hHeld => ?_)
       clear hK K
       refine rN 57 ?_; refine rP 5 58 ?_
       refine one_ (i := 9) (N := some 62) #[true, true, true, true, true, true, true, true, true, true, false, false, false] rfl rfl (one_of HT_.out ψ12) ψ13 (fun K hK => ?_)
       refine goes_ Try.func139 ψ12 rfl #[.slice (some ad602) l0.length c0, .slice A599_2 ((rd_T163 l1 x11_1).f2).length c599_2] ψ14 rfl rfl ψ15 ?_
       with_reducible refine (ih k1 ψ8 _ _ l0 _ _ ((rd_T163 l1 x11_1).f2) t615 _ ?_ ?_ ?_ ?_ A35.out).mono ?_
       exact ψ32; exact HC0.out; exact ψ90; exact HC599_2.out
       rintro e w45 ⟨rfl, hb⟩
       refine ⟨_, rfl, ?_⟩
       have q := n3_ (blk_below (g := gb10) ψ10 hb) (blk_below (g := gb11) ψ24 hb) (below_step ψ25 hb)
       clear BK10 BK11 HB
       obtain ⟨BK10, BK11, HB⟩ := q
       (try clear hb)
       refine hK.out _ _ ⟨(blk_cell BK10.out 0).trans rfl, (blk_cell BK10.out 1).trans rfl, (blk_cell BK10.out 2).trans rfl⟩ (fun hHeld => ?_)
       clear hK K
       refine rN 62 ?_; refine rP 10 63 ?_; refine rP 11 64 ?_; refine rP 12 5 ?_
       refine done_ (done_of HT_.out ψ12) ?_
       try go_wp2
       go_roundg k1
       case measure => have := HK1.out; omega
       case rel => exact ⟨(ji36), (wrap64 (x11_1 + 1)), (by first | rfl | (simp; done) | (simp only [← hji36] <;> (first | rfl | simp)) | (simp [*]; done)), ψ7, H', ⟨ψ8⟩, ⟨ψ25⟩⟩
      ·obtain ⟨ji46, hji46⟩ : ∃ j_ : Int, (mn (wrap64 (x5_1 + 1)) 4000) = j_ := ⟨_, rfl⟩
       replace H : (impl_stepsIn.l0 k1 l0 ji46 l1 (l1.length : Int) (wrap64 (x11_1 + 1))) = some r := by first | (rw [hji46] at H; exact H) | (simp only [hji46] at H ⊢; exact H)
       have hji46_ : (if 4000 < (wrap64 (x5_1 + 1)) then 4000 else (wrap64 (x5_1 + 1))) = ji46 := hji46
       have H' := Aside0.mk H
       clear H
       have p599 : 0 ≤ (x11_1 : Int) := of_decide_eq_true ψ5
       have q599 : x11_1 < (l1.length : Int) := of_decide_eq_true ψ5
       obtain ⟨ad599, A599_1, c599_1, A599_2, c599_2, e599, hx599_0, hx599_1, hx599_2, hl599_1, hi599_1, hl599_2, hi599_2⟩ := at_T163 HR1.out x11_1 p599 q599
       cases e599
       replace hx599_0 := cB HB hx599_0
       replace hx599_1 := cB HB hx599_1
       replace hx599_2 := cB HB hx599_2
       have q := n4_ hi599_1 hl599_1 hi599_2 hl599_2
       clear hi599_1 hl599_1 hi599_2 hl599_2
       obtain ⟨HR599_1, HC599_1, HR599_2, HC599_2⟩ := q
       replace p599 := eq_true p599
       replace q599 := eq_true q599
       go_wp2_with (first | ((with_reducible refine gate_dst (N := 7) rfl ?_); refine bE 7 #[.int .i64 0, .slice none 0 0, .slice none 0 0] 163 ?_; intro gb10 hg w47 hbox hb; have q := n4_ (below_step ψ25 hb) (hbox) ((ψ115 : w.heap.size ≤ gb10)) ((ψ115 : w.heap.size ≤ gb10)); clear HB; obtain ⟨HB, BK10, GW10, GE10⟩ := q; clear hb hbox hg; obtain ⟨y48_0, y48_1, y48_2, u48_0, u48_1, u48_2⟩ := cells3 BK10.out; have p602 : 0 ≤ (((rd_T163 l1 x11_1).f0) : Int) := of_decide_eq_true ψ5; have q602 : ((rd_T163 l1 x11_1).f0) < (l0.length : Int) := of_decide_eq_true ψ5; obtain ⟨ad602, A602_2, c602_2, A602_3, c602_3, e602, hx602_0, hx602_1, hx602_2, hx602_3, hl602_2, hi602_2, hl602_3, hi602_3⟩ := at_T114 HR0.out ((rd_T163 l1 x11_1).f0) p602 q602; cases e602; have hn602_0 : ad602.block ≠ gb10 := ψ137; have hn602_1 : ad602.block ≠ gb10 := ψ137; have hn602_2 : ad602.block ≠ gb10 := ψ137; replace hx602_0 := cB HB hx602_0; replace hx602_1 := cB HB hx602_1; replace hx602_2 := cB HB hx602_2; replace hx602_3 := cB HB hx602_3; have q := n4_ hi602_2 hl602_2 hi602_3 hl602_3; clear hi602_2 hl602_2 hi602_3 hl602_3; obtain ⟨HR602_2, HC602_2, HR602_3, HC602_3⟩ := q; replace hx602_0 := (cell_far (p := ⟨gb10, 0, none⟩) ψ83 (.int .i64 ((rd_T163 l1 x11_1).f0))).trans hx602_0; replace hx602_1 := (cell_far (p := ⟨gb10, 0, none⟩) ψ83 (.int .i64 ((rd_T163 l1 x11_1).f0))).trans hx602_1; replace hx602_2 := (cell_far (p := ⟨gb10, 0, none⟩) ψ83 (.int .i64 ((rd_T163 l1 x11_1).f0))).trans hx602_2; replace hx602_3 := (cell_far (p := ⟨gb10, 0, none⟩) ψ83 (.int .i64 ((rd_T163 l1 x11_1).f0))).trans hx602_3; replace hx602_0 := (cell_far (p := ⟨gb10, 1, none⟩) ψ84 (.slice A599_1 ((rd_T163 l1 x11_1).f1).length c599_1)).trans hx602_0; replace hx602_1 := (cell_far (p := ⟨gb10, 1, none⟩) ψ84 (.slice A599_1 ((rd_T163 l1 x11_1).f1).length c599_1)).trans hx602_1; replace hx602_2 := (cell_far (p := ⟨gb10, 1, none⟩) ψ84 (.slice A599_1 ((rd_T163 l1 x11_1).f1).length c599_1)).trans hx602_2; replace hx602_3 := (cell_far (p := ⟨gb10, 1, none⟩) ψ84 (.slice A599_1 ((rd_T163 l1 x11_1).f1).length c599_1)).trans hx602_3; replace hx602_0 := (cell_far (p := ⟨gb10, 2, none⟩) ψ85 (.slice A599_2 ((rd_T163 l1 x11_1).f2).length c599_2)).trans hx602_0; replace hx602_1 := (cell_far (p := ⟨gb10, 2, none⟩) ψ85 (.slice A599_2 ((rd_T163 l1 x11_1).f2).length c599_2)).trans hx602_1; replace hx602_2 := (cell_far (p := ⟨gb10, 2, none⟩) ψ85 (.slice A599_2 ((rd_T163 l1 x11_1).f2).length c599_2)).trans hx602_2; replace hx602_3 := (cell_far (p := ⟨gb10, 2, none⟩) ψ85 (.slice A599_2 ((rd_T163 l1 x11_1).f2).length c599_2)).trans hx602_3; clear hn602_0; clear hn602_1; clear hn602_2; replace p602 := eq_true p602; replace q602 := eq_true q602) | ((with_reducible refine gate_dst (N := 8) rfl ?_); refine bE 8 #[.int .i64 0, .int .i64 0, .slice none 0 0, .slice none 0 0] 114 ?_; intro gb11 hg w49 hbox hb; have q := n7_ (blk_below (g := gb10) (o := .cells #[.int .i64 ((rd_T163 l1 x11_1).f0), .slice A599_1 ((rd_T163 l1 x11_1).f1).length c599_1, .slice A599_2 ((rd_T163 l1 x11_1).f2).length c599_2] 163 (0, 0)) ψ86 hb) (below_step ψ25 hb) (hbox) ((ψ115 : w.heap.size ≤ gb11)) ((ψ115 : w.heap.size ≤ gb11)) ((ψ138 : gb10 ≠ gb11)) ((ψ139 : gb11 ≠ gb10)); clear BK10 HB; obtain ⟨BK10, HB, BK11, GW11, GE11, NB10_11, NB11_10⟩ := q; clear hb hbox hg; have hnb50 := NB11_10.out; have hnc50 := NB10_11.out; obtain ⟨y51_0, y51_1, y51_2, y51_3, u51_0, u51_1, u51_2, u51_3⟩ := cells4 BK11.out))
       go_roundg k1
       case measure => have := HK1.out; omega
       case rel => exact ⟨(ji46), (wrap64 (x11_1 + 1)), (by first | rfl | (simp; done) | (simp only [← hji46] <;> (first | rfl | simp)) | (simp [*]; done)), ψ7, H', ⟨ψ8⟩, ⟨ψ25⟩⟩
   ·obtain rfl := Option.some.inj H
    go_wp2
    go_ret
    exact ⟨ψ4, ψ25⟩

end Go.Proofs.Ytakmkdlkipfnhaa.PCore

/- The walks of the functions that the laws come to, part 8: turned out of the kit's print, and mended where that fell. -/
import Derived.Test.YtbjmhdoagjmmcaaPCoreg
import Derived.Test.YtbjmhdoagjmmcaaPCoreg7
namespace Go.Proofs.Ytbjmhdoagjmmcaa.PCore
open Go.RowKit Go.Proofs.YtbjmhdoagjmmcaaW.PrintWords Go.Proofs.YtbjmhdoagjmmcaaW.PrintLast Go.Proofs.YtbjmhdoagjmmcaaW.PrintMore
attribute [local go_sem] max2_int min2_int max_two min_two max_three min_three max_four min_four   -- for this text's walks alone
set_option linter.unusedVariables false
set_option linter.unusedSimpArgs false

/-! ### laws_eqStmtS: function 16 -/
def laws_eqStmtS.l0 : Nat → List (S42) → List (S42) → Int → Option (Bool)
 | 0, _, _, _ => none
 | k + 1, x0, x1, x5 => if x5 < (x0.length : Int) then (if 0 ≤ x5 then (if x5 < (x1.length : Int) then ((laws_eqStmt.f k ((rd_T42 x0 x5).f0) ((rd_T42 x0 x5).f1) ((rd_T42 x0 x5).f2) ((rd_T42 x0 x5).f3) ((rd_T42 x1 x5).f0) ((rd_T42 x1 x5).f1) ((rd_T42 x1 x5).f2) ((rd_T42 x1 x5).f3)).bind fun t960 => (if t960 = true then (laws_eqStmtS.l0 k x0 x1 (wrap64 (x5 + 1))) else (some false))) else (none)) else (none)) else (some true)
def laws_eqStmtS.f (k : Nat) (l0 : List (S42)) (l1 : List (S42)) : Option (Bool) := if (l0.length : Int) = (l1.length : Int) then (laws_eqStmtS.l0 k l0 l1 0) else (some false)
def laws_eqStmtS.T6 : Bool × List (List Nat × List Nat) := (true, [([], []), ([], []), ([0, 1], [0, 1]), ([2], [2]), ([], []), ([], []), ([4, 5], [4, 5]), ([6], [6]), ([3, 7], [3, 7]), ([8], [8])])
def laws_eqStmtS.B6 : List Nat := [0, 0, 3, 7, 0, 0, 48, 112, 255, 511]
theorem laws_eqStmtS.tab6 : rtab .any (opsOf Try.f16 6) = laws_eqStmtS.T6 := by kernel_rfl
theorem laws_eqStmtS.bits6 : waitsOk laws_eqStmtS.T6.2 laws_eqStmtS.B6 = true := by kernel_rfl
set_option maxRecDepth 100000 in
theorem τ70 {P : Prop} (h : P := by
 first | obtain rfl := Option.some.inj H | (have H' := Aside0.mk H; clear H)
 try go_wp2
 replace HB := Aside0.mk (below_drew1 HB.out)
 have p958 : 0 ≤ (x5_1 : Int) := of_decide_eq_true ψ2
 have q958 : x5_1 < (l0.length : Int) := of_decide_eq_true ψ2
 obtain ⟨ad958, A958_2, c958_2, A958_3, c958_3, e958, hx958_0, hx958_1, hx958_2, hx958_3, hl958_2, hi958_2, hl958_3, hi958_3⟩ := at_T42 HR0.out x5_1 p958 q958
 have hw958_3 := hx958_3
 have hw958_2 := hx958_2
 have hw958_1 := hx958_1
 have hw958_0 := hx958_0
 cases e958
 replace hx958_0 := (HB.out.cell (World.block_lt_of_cell? w _ hx958_0)).trans hx958_0
 replace hx958_1 := (HB.out.cell (World.block_lt_of_cell? w _ hx958_1)).trans hx958_1
 replace hx958_2 := (HB.out.cell (World.block_lt_of_cell? w _ hx958_2)).trans hx958_2
 replace hx958_3 := (HB.out.cell (World.block_lt_of_cell? w _ hx958_3)).trans hx958_3
 have HR958_2 := Aside0.mk hi958_2
 have HC958_2 := Aside0.mk hl958_2
 clear hi958_2 hl958_2
 have HR958_3 := Aside0.mk hi958_3
 have HC958_3 := Aside0.mk hl958_3
 clear hi958_3 hl958_3
 replace p958 := eq_true p958
 replace q958 := eq_true q958
 have p959 : 0 ≤ (x5_1 : Int) := of_decide_eq_true ψ2
 have q959 : x5_1 < (l1.length : Int) := of_decide_eq_true ψ2
 obtain ⟨ad959, A959_2, c959_2, A959_3, c959_3, e959, hx959_0, hx959_1, hx959_2, hx959_3, hl959_2, hi959_2, hl959_3, hi959_3⟩ := at_T42 HR1.out x5_1 p959 q959
 have hw959_3 := hx959_3
 have hw959_2 := hx959_2
 have hw959_1 := hx959_1
 have hw959_0 := hx959_0
 cases e959
 replace hx959_0 := (HB.out.cell (World.block_lt_of_cell? w _ hx959_0)).trans hx959_0
 replace hx959_1 := (HB.out.cell (World.block_lt_of_cell? w _ hx959_1)).trans hx959_1
 replace hx959_2 := (HB.out.cell (World.block_lt_of_cell? w _ hx959_2)).trans hx959_2
 replace hx959_3 := (HB.out.cell (World.block_lt_of_cell? w _ hx959_3)).trans hx959_3
 have HR959_2 := Aside0.mk hi959_2
 have HC959_2 := Aside0.mk hl959_2
 clear hi959_2 hl959_2
 have HR959_3 := Aside0.mk hi959_3
 have HC959_3 := Aside0.mk hl959_3
 clear hi959_3 hl959_3
 replace p959 := eq_true p959
 replace q959 := eq_true q959
 refine start_ (n := 10) (S := fun w' => w'.cell? (ad958.add ((x5_1).toNat * 4)) = some (.int .i64 ((rd_T42 l0 x5_1).f0)) ∧ w'.cell? ⟨(ad958.add ((x5_1).toNat * 4)).block, (ad958.add ((x5_1).toNat * 4)).off + 1, none⟩ = some (.int .i64 ((rd_T42 l0 x5_1).f1)) ∧ w'.cell? ⟨(ad958.add ((x5_1).toNat * 4)).block, (ad958.add ((x5_1).toNat * 4)).off + 2, none⟩ = some (.slice A958_2 ((rd_T42 l0 x5_1).f2).length c958_2) ∧ w'.cell? ⟨(ad958.add ((x5_1).toNat * 4)).block, (ad958.add ((x5_1).toNat * 4)).off + 3, none⟩ = some (.slice A958_3 ((rd_T42 l0 x5_1).f3).length c958_3) ∧ w'.cell? (ad959.add ((x5_1).toNat * 4)) = some (.int .i64 ((rd_T42 l1 x5_1).f0)) ∧ w'.cell? ⟨(ad959.add ((x5_1).toNat * 4)).block, (ad959.add ((x5_1).toNat * 4)).off + 1, none⟩ = some (.int .i64 ((rd_T42 l1 x5_1).f1)) ∧ w'.cell? ⟨(ad959.add ((x5_1).toNat * 4)).block, (ad959.add ((x5_1).toNat * 4)).off + 2, none⟩ = some (.slice A959_2 ((rd_T42 l1 x5_1).f2).length c959_2) ∧ w'.cell? ⟨(ad959.add ((x5_1).toNat * 4)).block, (ad959.add ((x5_1).toNat * 4)).off + 3, none⟩ = some (.slice A959_3 ((rd_T42 l1 x5_1).f3).length c959_3)) (ds := []) #[false, false, false, false, false, false, false, false, false, false] ψ14 rfl rfl ⟨((HB.out.cell (World.block_lt_of_cell? w _ hw958_0)).trans hw958_0), ((HB.out.cell (World.block_lt_of_cell? w _ hw958_1)).trans hw958_1), ((HB.out.cell (World.block_lt_of_cell? w _ hw958_2)).trans hw958_2), ((HB.out.cell (World.block_lt_of_cell? w _ hw958_3)).trans hw958_3), ((HB.out.cell (World.block_lt_of_cell? w _ hw959_0)).trans hw959_0), ((HB.out.cell (World.block_lt_of_cell? w _ hw959_1)).trans hw959_1), ((HB.out.cell (World.block_lt_of_cell? w _ hw959_2)).trans hw959_2), ((HB.out.cell (World.block_lt_of_cell? w _ hw959_3)).trans hw959_3)⟩ (fun hHeld => ?_); refine with_tabW laws_eqStmtS.tab6 laws_eqStmtS.bits6 (fun HT_ HW_ => ?_)
 generalize wr.drew = w1_ at HB HR958_2 HR958_3 HR959_2 HR959_3 hx958_0 hx958_1 hx958_2 hx958_3 hx959_0 hx959_1 hx959_2 hx959_3 hHeld ⊢
 refine rP 0 17 ?_; refine rP 1 18 ?_; refine rP 2 19 ?_; refine rP 4 21 ?_; refine rP 5 22 ?_; refine rP 6 23 ?_; refine rT 3 20 ?_; refine rT 7 24 ?_
 refine one_ (i := 8) (N := some 25) #[true, true, true, true, true, true, true, true, true, false] rfl rfl (one_of HT_.out ψ14) ψ15 (fun K hK => ?_)
 refine goes_ Try.func47 ψ14 rfl #[.agg #[.int .i64 ((rd_T42 l0 x5_1).f0), .int .i64 ((rd_T42 l0 x5_1).f1), .slice A958_2 ((rd_T42 l0 x5_1).f2).length c958_2, .slice A958_3 ((rd_T42 l0 x5_1).f3).length c958_3], .agg #[.int .i64 ((rd_T42 l1 x5_1).f0), .int .i64 ((rd_T42 l1 x5_1).f1), .slice A959_2 ((rd_T42 l1 x5_1).f2).length c959_2, .slice A959_3 ((rd_T42 l1 x5_1).f3).length c959_3]] ψ16 rfl rfl ψ17 ?_
 with_reducible refine (laws_eqStmt.calls k1 ((rd_T42 l0 x5_1).f0) ((rd_T42 l0 x5_1).f1) _ _ ((rd_T42 l0 x5_1).f2) _ _ ((rd_T42 l0 x5_1).f3) ((rd_T42 l1 x5_1).f0) ((rd_T42 l1 x5_1).f1) _ _ ((rd_T42 l1 x5_1).f2) _ _ ((rd_T42 l1 x5_1).f3) _ _ ?_ ?_ ?_ ?_ ?_ ?_ ?_ ?_ A7.out).mono ?_
 exact (by repeat (first | exact (Kd.C_below HR958_2.out HB.out) | (with_reducible refine Kd.C_alloc ?_ _) | (with_reducible refine Kd.C_drewN ?_ _) | (with_reducible refine Kd.C_drew ?_))); exact HC958_2.out; exact (by repeat (first | exact (Kd.C_below HR958_3.out HB.out) | (with_reducible refine Kd.C_alloc ?_ _) | (with_reducible refine Kd.C_drewN ?_ _) | (with_reducible refine Kd.C_drew ?_))); exact HC958_3.out; exact (by repeat (first | exact (Kd.C_below HR959_2.out HB.out) | (with_reducible refine Kd.C_alloc ?_ _) | (with_reducible refine Kd.C_drewN ?_ _) | (with_reducible refine Kd.C_drew ?_))); exact HC959_2.out; exact (by repeat (first | exact (Kd.C_below HR959_3.out HB.out) | (with_reducible refine Kd.C_alloc ?_ _) | (with_reducible refine Kd.C_drewN ?_ _) | (with_reducible refine Kd.C_drew ?_))); exact HC959_3.out
 rintro e w2_ ⟨rfl, hb⟩
 refine ⟨_, rfl, ?_⟩
 replace HB := Aside0.mk (below_step ψ59 hb)
 (try clear hb)
 refine hK.out _ _ ⟨((HB.out.cell (World.block_lt_of_cell? w _ hw958_0)).trans hw958_0), ((HB.out.cell (World.block_lt_of_cell? w _ hw958_1)).trans hw958_1), ((HB.out.cell (World.block_lt_of_cell? w _ hw958_2)).trans hw958_2), ((HB.out.cell (World.block_lt_of_cell? w _ hw958_3)).trans hw958_3), ((HB.out.cell (World.block_lt_of_cell? w _ hw959_0)).trans hw959_0), ((HB.out.cell (World.block_lt_of_cell? w _ hw959_1)).trans hw959_1), ((HB.out.cell (World.block_lt_of_cell? w _ hw959_2)).trans hw959_2), ((HB.out.cell (World.block_lt_of_cell? w _ hw959_3)).trans hw959_3)⟩ (fun hHeld => ?_)
 clear hK K
 refine rN 25 ?_; refine rP 9 26 ?_
 refine done_ (done_of HT_.out ψ14) ?_
 try go_wp2
 first | (go_roundg k1; (case measure => have := HK1.out; omega); (case rel => exact ⟨(wrap64 (x5_1 + 1)), ψ0, H', ⟨ψ53⟩, ⟨ψ59⟩⟩)) | (go_ret; exact ⟨ψ9, ψ59⟩)) : P := h
set_option maxHeartbeats 8000000 in
set_option maxRecDepth 100000 in
theorem laws_eqStmtS.calls (k : Nat) (A0 : Option Addr) (c0 : Nat) (l0 : List (S42)) (A1 : Option Addr) (c1 : Nat) (l1 : List (S42)) (r : Bool) (w : World) (hr0 : Kd.C k42 w A0 l0.length l0) (hc0 : l0.length ≤ c0) (hr1 : Kd.C k42 w A1 l1.length l1) (hc1 : l1.length ≤ c1) (h : laws_eqStmtS.f k l0 l1 = some r) :
 Calls Try.prog 16 #[.slice A0 l0.length c0, .slice A1 l1.length c1] w fun e w' => e = .returned (.bool r) ∧ Below w.heap.size w w' := by
 have hu42 := Try.underlying42
 have HR0 := Aside0.mk hr0
 have HC0 := Aside0.mk hc0
 clear hr0 hc0
 have HR1 := Aside0.mk hr1
 have HC1 := Aside0.mk hc1
 clear hr1 hc1
 have HB := Aside0.mk (Below.refl w.heap.size w)
 have H : (if (l0.length : Int) = (l1.length : Int) then (laws_eqStmtS.l0 k l0 l1 0) else (some false)) = some r := h
 clear h
 by_cases c3 : (l0.length : Int) = (l1.length : Int)
 ·rw [if_pos c3] at H
  have c3b0 : ((l0.length : Int) == (l1.length : Int)) = true := beq_iff_eq.mpr c3
  have c3b1 : ((l0.length : Int) != (l1.length : Int)) = false := bne_eq_false_iff_eq.mpr c3
  have c3b2 : (l0.length == l1.length) = true := by first | simpa using c3 | (simp at c3 ⊢; omega)
  clear c3
  have H' := Aside0.mk H
  clear H
  go_enter Try.func16, Try.ntmps16
  go_wp2
  go_loopg [5] k (fun kq v5 w' => ∃ (x5_1 : Int), v5 = .int .i64 x5_1 ∧ Aside0 (laws_eqStmtS.l0 kq l0 l1 x5_1 = some r) ∧ Aside0 (kq ≤ k) ∧ Aside0 (Below w.heap.size w w'))
  case atStart => exact ⟨(0), ψ0, H', ⟨Nat.le_refl _⟩, ⟨ψ59⟩⟩
  case round =>
   clear H'
   try clear c1
   try clear p2
   try clear c3
   try clear c3b0
   try clear c3b1
   try clear c3b2
   obtain ⟨x5_1, rfl, HA, HK1, HB⟩ := hrel
   cases gk with
   | zero => exact absurd HA.out (by simp [laws_eqStmtS.l0])
   | succ k1 =>
    have H := HA.out
    clear HA
    simp only [laws_eqStmtS.l0] at H
    replace H := ifD H; rcases H with ⟨c4b0, H⟩ | ⟨c4b0, H⟩
    ·replace H := ifN H; obtain ⟨c5b0, H⟩ := H
     replace H := ifN H; obtain ⟨c6b0, H⟩ := H
     replace H := Option.bind_eq_some_iff.mp H
     obtain ⟨t960, A70, H⟩ := H
     have A7 := Aside0.mk A70
     clear A70
     replace H := ifB H; rcases H with ⟨rfl, H⟩ | ⟨rfl, H⟩
     ·exact τ70
     ·exact τ70
    ·obtain rfl := Option.some.inj H
     go_wp2
     go_ret
     exact ⟨ψ9, ψ59⟩
 ·rw [if_neg c3] at H
  have c3b0 : ((l0.length : Int) == (l1.length : Int)) = false := beq_eq_false_iff_ne.mpr c3
  have c3b1 : ((l0.length : Int) != (l1.length : Int)) = true := bne_iff_ne.mpr c3
  have c3b2 : (l0.length == l1.length) = false := by first | simpa using c3 | (simp at c3 ⊢; omega)
  obtain rfl := Option.some.inj H
  go_enter Try.func16, Try.ntmps16
  go_wp2
  go_ret
  exact ⟨ψ9, ψ59⟩

/-! ### laws_eqInt64S: function 41 -/
def laws_eqInt64S.l0 : Nat → List Int → List Int → Int → Option (Bool)
 | 0, _, _, _ => none
 | k + 1, x0, x1, x5 => if x5 < (x0.length : Int) then (if 0 ≤ x5 then (if x5 < (x1.length : Int) then (if (rd x0 x5) = (rd x1 x5) then (laws_eqInt64S.l0 k x0 x1 (wrap64 (x5 + 1))) else (some false)) else (none)) else (none)) else (some true)
def laws_eqInt64S.f (k : Nat) (l0 : List Int) (l1 : List Int) : Option (Bool) := if (l0.length : Int) = (l1.length : Int) then (laws_eqInt64S.l0 k l0 l1 0) else (some false)
set_option maxRecDepth 100000 in
theorem τ71 {P : Prop} (h : P := by
 first | obtain rfl := Option.some.inj H | (have H' := Aside0.mk H; clear H)
 try (have p961 : 0 ≤ (x5_1 : Int) := of_decide_eq_true ψ2; have q961 : x5_1 < (l0.length : Int) := of_decide_eq_true ψ2; obtain ⟨ad961, e961, hx961_0⟩ := Kd.at_int HR0.out x5_1 p961 q961; cases e961; replace p961 := eq_true p961; replace q961 := eq_true q961)
 try (have p962 : 0 ≤ (x5_1 : Int) := of_decide_eq_true ψ2; have q962 : x5_1 < (l1.length : Int) := of_decide_eq_true ψ2; obtain ⟨ad962, e962, hx962_0⟩ := Kd.at_int HR1.out x5_1 p962 q962; cases e962; replace p962 := eq_true p962; replace q962 := eq_true q962)
 go_wp2_with (first | ((with_reducible refine qR_ ?_)) | ((with_reducible refine wpQuiet_step (fun K hK => ?_)); go_simp; first | (refine hK _ ?_; clear hK K) | (apply Exists.intro; refine ⟨fun _ => ?_, hK _ ?_⟩)) | ((with_reducible refine wpQuiet_nil ?_); rintro _ ⟨nq, rfl⟩))
 first | (go_roundg k1; (case measure => have := HK1.out; omega); (case rel => exact ⟨(wrap64 (x5_1 + 1)), ψ0, H', ⟨ψ53⟩, ψ1⟩)) | (go_ret; exact ⟨ψ0, ψ1⟩)) : P := h
set_option maxHeartbeats 8000000 in
set_option maxRecDepth 100000 in
theorem laws_eqInt64S.calls (k : Nat) (A0 : Option Addr) (c0 : Nat) (l0 : List Int) (A1 : Option Addr) (c1 : Nat) (l1 : List Int) (r : Bool) (w : World) (hr0 : Kd.C (Kd.int .i64) w A0 l0.length l0) (hc0 : l0.length ≤ c0) (hr1 : Kd.C (Kd.int .i64) w A1 l1.length l1) (hc1 : l1.length ≤ c1) (h : laws_eqInt64S.f k l0 l1 = some r) :
 Calls Try.prog 41 #[.slice A0 l0.length c0, .slice A1 l1.length c1] w fun e w' => e = .returned (.bool r) ∧ Drawn0 w w' := by
 have HR0 := Aside0.mk hr0
 have HC0 := Aside0.mk hc0
 clear hr0 hc0
 have HR1 := Aside0.mk hr1
 have HC1 := Aside0.mk hc1
 clear hr1 hc1
 have H : (if (l0.length : Int) = (l1.length : Int) then (laws_eqInt64S.l0 k l0 l1 0) else (some false)) = some r := h
 clear h
 by_cases c3 : (l0.length : Int) = (l1.length : Int)
 ·rw [if_pos c3] at H
  have c3b0 : ((l0.length : Int) == (l1.length : Int)) = true := beq_iff_eq.mpr c3
  have c3b1 : ((l0.length : Int) != (l1.length : Int)) = false := bne_eq_false_iff_eq.mpr c3
  have c3b2 : (l0.length == l1.length) = true := by first | simpa using c3 | (simp at c3 ⊢; omega)
  clear c3
  have H' := Aside0.mk H
  clear H
  go_enter Try.func41, Try.ntmps41
  go_wp2_with (first | ((with_reducible refine qR_ ?_)) | ((with_reducible refine wpQuiet_step (fun K hK => ?_)); go_simp; first | (refine hK _ ?_; clear hK K) | (apply Exists.intro; refine ⟨fun _ => ?_, hK _ ?_⟩)) | ((with_reducible refine wpQuiet_nil ?_); rintro _ ⟨nq, rfl⟩))
  go_loopg [5] k (fun kq v5 w' => ∃ (x5_1 : Int), v5 = .int .i64 x5_1 ∧ Aside0 (laws_eqInt64S.l0 kq l0 l1 x5_1 = some r) ∧ Aside0 (kq ≤ k) ∧ Drawn0 w w')
  case atStart => exact ⟨(0), ψ0, H', ⟨Nat.le_refl _⟩, ψ1⟩
  case round =>
   clear H'
   try clear c1
   try clear p2
   try clear c3
   try clear c3b0
   try clear c3b1
   try clear c3b2
   obtain ⟨x5_1, rfl, HA, HK1, ⟨m1, rfl⟩⟩ := hrel
   cases gk with
   | zero => exact absurd HA.out (by simp [laws_eqInt64S.l0])
   | succ k1 =>
    have H := HA.out
    clear HA
    simp only [laws_eqInt64S.l0] at H
    replace H := ifD H; rcases H with ⟨c4b0, H⟩ | ⟨c4b0, H⟩
    ·replace H := ifN H; obtain ⟨c5b0, H⟩ := H
     replace H := ifN H; obtain ⟨c6b0, H⟩ := H
     replace H := ifF H; rcases H with ⟨c7b0, c7b1, H⟩ | ⟨c7b0, c7b1, c7, H⟩
     ·exact τ71
     ·exact τ71
    ·exact τ71
 ·rw [if_neg c3] at H
  have c3b0 : ((l0.length : Int) == (l1.length : Int)) = false := beq_eq_false_iff_ne.mpr c3
  have c3b1 : ((l0.length : Int) != (l1.length : Int)) = true := bne_iff_ne.mpr c3
  have c3b2 : (l0.length == l1.length) = false := by first | simpa using c3 | (simp at c3 ⊢; omega)
  obtain rfl := Option.some.inj H
  go_enter Try.func41, Try.ntmps41
  go_wp2_with (first | ((with_reducible refine qR_ ?_)) | ((with_reducible refine wpQuiet_step (fun K hK => ?_)); go_simp; first | (refine hK _ ?_; clear hK K) | (apply Exists.intro; refine ⟨fun _ => ?_, hK _ ?_⟩)) | ((with_reducible refine wpQuiet_nil ?_); rintro _ ⟨nq, rfl⟩))
  go_ret
  exact ⟨ψ0, ψ1⟩

/-! ### laws_eqInput: function 93 -/
def laws_eqInput.f (a0_0 : Int) (a0_1 : Int) (a1_0 : Int) (a1_1 : Int) : Option (Bool) := if a0_0 = a1_0 then (if a0_1 = a1_1 then (some true) else (some false)) else (some false)
set_option maxRecDepth 100000 in
theorem τ72 {P : Prop} (h : P := by
 obtain rfl := Option.some.inj H
 go_enter Try.func93, Try.ntmps93
 go_wp2_with (first | ((with_reducible refine gate_dst (N := 2) rfl ?_); refine bE 2 #[.int .i64 a0_0, .int .i64 a0_1] 77 ?_; intro gb10 hg w1_ hbox hb; have q := n4_ (below_step ψ61 hb) (hbox) ((ψ312 : w.heap.size ≤ gb10)) ((ψ312 : w.heap.size ≤ gb10)); clear HB; obtain ⟨HB, BK10, GW10, GE10⟩ := q; clear hb hbox hg) | ((with_reducible refine gate_dst (N := 3) rfl ?_); refine bE 3 #[.int .i64 a1_0, .int .i64 a1_1] 77 ?_; intro gb11 hg w2_ hbox hb; have q := n7_ (blk_below (g := gb10) ψ23 hb) (below_step ψ61 hb) (hbox) ((ψ312 : w.heap.size ≤ gb11)) ((ψ312 : w.heap.size ≤ gb11)) ((ψ304 : gb10 ≠ gb11)) ((ψ305 : gb11 ≠ gb10)); clear BK10 HB; obtain ⟨BK10, HB, BK11, GW11, GE11, NB10_11, NB11_10⟩ := q; clear hb hbox hg; have hnb1_ := NB10_11.out; have hnc1_ := NB11_10.out; obtain ⟨hczB10_0, hczB10_1, hfzB10_0, hfzB10_1⟩ := cells2 BK10.out; obtain ⟨hczB11_0, hczB11_1, hfzB11_0, hfzB11_1⟩ := cells2 BK11.out))
 go_ret
 exact ⟨ψ9, ψ61⟩) : P := h
set_option maxHeartbeats 8000000 in
set_option maxRecDepth 100000 in
theorem laws_eqInput.calls (a0_0 : Int) (a0_1 : Int) (a1_0 : Int) (a1_1 : Int) (r : Bool) (w : World) (h : laws_eqInput.f a0_0 a0_1 a1_0 a1_1 = some r) :
 Calls Try.prog 93 #[.agg #[.int .i64 a0_0, .int .i64 a0_1], .agg #[.int .i64 a1_0, .int .i64 a1_1]] w fun e w' => e = .returned (.bool r) ∧ Below w.heap.size w w' := by
 have hu77 := Try.underlying77
 have HB := Aside0.mk (Below.refl w.heap.size w)
 have H : (if a0_0 = a1_0 then (if a0_1 = a1_1 then (some true) else (some false)) else (some false)) = some r := h
 clear h
 replace H := ifF H; rcases H with ⟨c3b0, c3b1, H⟩ | ⟨c3b0, c3b1, c3, H⟩
 ·by_cases c4 : a0_1 = a1_1
  ·rw [if_pos c4] at H
   have c4b0 : (a0_1 == a1_1) = true := beq_iff_eq.mpr c4
   have c4b1 : (a0_1 != a1_1) = false := bne_eq_false_iff_eq.mpr c4
   clear c4
   exact τ72
  ·rw [if_neg c4] at H
   have c4b0 : (a0_1 == a1_1) = false := beq_eq_false_iff_ne.mpr c4
   have c4b1 : (a0_1 != a1_1) = true := bne_iff_ne.mpr c4
   exact τ72
 ·exact τ72

/-! ### laws_eqInputS: function 65 -/
def laws_eqInputS.l0 : Nat → List (S77) → List (S77) → Int → Option (Bool)
 | 0, _, _, _ => none
 | k + 1, x0, x1, x5 => if x5 < (x0.length : Int) then (if 0 ≤ x5 then (if x5 < (x1.length : Int) then ((laws_eqInput.f ((rd_T77 x0 x5).f0) ((rd_T77 x0 x5).f1) ((rd_T77 x1 x5).f0) ((rd_T77 x1 x5).f1)).bind fun t971 => (if t971 = true then (laws_eqInputS.l0 k x0 x1 (wrap64 (x5 + 1))) else (some false))) else (none)) else (none)) else (some true)
def laws_eqInputS.f (k : Nat) (l0 : List (S77)) (l1 : List (S77)) : Option (Bool) := if (l0.length : Int) = (l1.length : Int) then (laws_eqInputS.l0 k l0 l1 0) else (some false)
def laws_eqInputS.T6 : Bool × List (List Nat × List Nat) := (true, [([], []), ([], []), ([0, 1], [0, 1]), ([2], [2]), ([], []), ([], []), ([4, 5], [4, 5]), ([6], [6]), ([3, 7], [3, 7]), ([8], [8])])
def laws_eqInputS.B6 : List Nat := [0, 0, 3, 7, 0, 0, 48, 112, 255, 511]
theorem laws_eqInputS.tab6 : rtab .any (opsOf Try.f65 6) = laws_eqInputS.T6 := by kernel_rfl
theorem laws_eqInputS.bits6 : waitsOk laws_eqInputS.T6.2 laws_eqInputS.B6 = true := by kernel_rfl
set_option maxRecDepth 100000 in
theorem τ73 {P : Prop} (h : P := by
 first | obtain rfl := Option.some.inj H | (have H' := Aside0.mk H; clear H)
 try go_wp2
 replace HB := Aside0.mk (below_drew1 HB.out)
 have p969 : 0 ≤ (x5_1 : Int) := of_decide_eq_true ψ2
 have q969 : x5_1 < (l0.length : Int) := of_decide_eq_true ψ2
 obtain ⟨ad969, e969, hx969_0, hx969_1⟩ := at_T77 HR0.out x5_1 p969 q969
 have hw969_1 := hx969_1
 have hw969_0 := hx969_0
 cases e969
 replace hx969_0 := (HB.out.cell (World.block_lt_of_cell? w _ hx969_0)).trans hx969_0
 replace hx969_1 := (HB.out.cell (World.block_lt_of_cell? w _ hx969_1)).trans hx969_1
 replace p969 := eq_true p969
 replace q969 := eq_true q969
 have p970 : 0 ≤ (x5_1 : Int) := of_decide_eq_true ψ2
 have q970 : x5_1 < (l1.length : Int) := of_decide_eq_true ψ2
 obtain ⟨ad970, e970, hx970_0, hx970_1⟩ := at_T77 HR1.out x5_1 p970 q970
 have hw970_1 := hx970_1
 have hw970_0 := hx970_0
 cases e970
 replace hx970_0 := (HB.out.cell (World.block_lt_of_cell? w _ hx970_0)).trans hx970_0
 replace hx970_1 := (HB.out.cell (World.block_lt_of_cell? w _ hx970_1)).trans hx970_1
 replace p970 := eq_true p970
 replace q970 := eq_true q970
 refine start_ (n := 10) (S := fun w' => w'.cell? (ad969.add ((x5_1).toNat * 2)) = some (.int .i64 ((rd_T77 l0 x5_1).f0)) ∧ w'.cell? ⟨(ad969.add ((x5_1).toNat * 2)).block, (ad969.add ((x5_1).toNat * 2)).off + 1, none⟩ = some (.int .i64 ((rd_T77 l0 x5_1).f1)) ∧ w'.cell? (ad970.add ((x5_1).toNat * 2)) = some (.int .i64 ((rd_T77 l1 x5_1).f0)) ∧ w'.cell? ⟨(ad970.add ((x5_1).toNat * 2)).block, (ad970.add ((x5_1).toNat * 2)).off + 1, none⟩ = some (.int .i64 ((rd_T77 l1 x5_1).f1))) (ds := []) #[false, false, false, false, false, false, false, false, false, false] ψ14 rfl rfl ⟨((HB.out.cell (World.block_lt_of_cell? w _ hw969_0)).trans hw969_0), ((HB.out.cell (World.block_lt_of_cell? w _ hw969_1)).trans hw969_1), ((HB.out.cell (World.block_lt_of_cell? w _ hw970_0)).trans hw970_0), ((HB.out.cell (World.block_lt_of_cell? w _ hw970_1)).trans hw970_1)⟩ (fun hHeld => ?_); refine with_tabW laws_eqInputS.tab6 laws_eqInputS.bits6 (fun HT_ HW_ => ?_)
 generalize wr.drew = w1_ at HB hx969_0 hx969_1 hx970_0 hx970_1 hHeld ⊢
 refine rP 0 17 ?_; refine rP 1 18 ?_; refine rP 2 19 ?_; refine rP 4 21 ?_; refine rP 5 22 ?_; refine rP 6 23 ?_; refine rT 3 20 ?_; refine rT 7 24 ?_
 refine one_ (i := 8) (N := some 25) #[true, true, true, true, true, true, true, true, true, false] rfl rfl (one_of HT_.out ψ14) ψ15 (fun K hK => ?_)
 refine goes_ Try.func93 ψ14 rfl #[.agg #[.int .i64 ((rd_T77 l0 x5_1).f0), .int .i64 ((rd_T77 l0 x5_1).f1)], .agg #[.int .i64 ((rd_T77 l1 x5_1).f0), .int .i64 ((rd_T77 l1 x5_1).f1)]] ψ16 rfl rfl ψ17 ?_
 with_reducible refine (laws_eqInput.calls ((rd_T77 l0 x5_1).f0) ((rd_T77 l0 x5_1).f1) ((rd_T77 l1 x5_1).f0) ((rd_T77 l1 x5_1).f1) _ _ A7.out).mono ?_
 rintro e w2_ ⟨rfl, hb⟩
 refine ⟨_, rfl, ?_⟩
 replace HB := Aside0.mk (below_step ψ59 hb)
 (try clear hb)
 refine hK.out _ _ ⟨((HB.out.cell (World.block_lt_of_cell? w _ hw969_0)).trans hw969_0), ((HB.out.cell (World.block_lt_of_cell? w _ hw969_1)).trans hw969_1), ((HB.out.cell (World.block_lt_of_cell? w _ hw970_0)).trans hw970_0), ((HB.out.cell (World.block_lt_of_cell? w _ hw970_1)).trans hw970_1)⟩ (fun hHeld => ?_)
 clear hK K
 refine rN 25 ?_; refine rP 9 26 ?_
 refine done_ (done_of HT_.out ψ14) ?_
 try go_wp2
 first | (go_roundg k1; (case measure => have := HK1.out; omega); (case rel => exact ⟨(wrap64 (x5_1 + 1)), ψ0, H', ⟨ψ53⟩, ⟨ψ59⟩⟩)) | (go_ret; exact ⟨ψ9, ψ59⟩)) : P := h
set_option maxHeartbeats 8000000 in
set_option maxRecDepth 100000 in
theorem laws_eqInputS.calls (k : Nat) (A0 : Option Addr) (c0 : Nat) (l0 : List (S77)) (A1 : Option Addr) (c1 : Nat) (l1 : List (S77)) (r : Bool) (w : World) (hr0 : Kd.C k77 w A0 l0.length l0) (hc0 : l0.length ≤ c0) (hr1 : Kd.C k77 w A1 l1.length l1) (hc1 : l1.length ≤ c1) (h : laws_eqInputS.f k l0 l1 = some r) :
 Calls Try.prog 65 #[.slice A0 l0.length c0, .slice A1 l1.length c1] w fun e w' => e = .returned (.bool r) ∧ Below w.heap.size w w' := by
 have hu77 := Try.underlying77
 have HR0 := Aside0.mk hr0
 have HC0 := Aside0.mk hc0
 clear hr0 hc0
 have HR1 := Aside0.mk hr1
 have HC1 := Aside0.mk hc1
 clear hr1 hc1
 have HB := Aside0.mk (Below.refl w.heap.size w)
 have H : (if (l0.length : Int) = (l1.length : Int) then (laws_eqInputS.l0 k l0 l1 0) else (some false)) = some r := h
 clear h
 by_cases c3 : (l0.length : Int) = (l1.length : Int)
 ·rw [if_pos c3] at H
  have c3b0 : ((l0.length : Int) == (l1.length : Int)) = true := beq_iff_eq.mpr c3
  have c3b1 : ((l0.length : Int) != (l1.length : Int)) = false := bne_eq_false_iff_eq.mpr c3
  have c3b2 : (l0.length == l1.length) = true := by first | simpa using c3 | (simp at c3 ⊢; omega)
  clear c3
  have H' := Aside0.mk H
  clear H
  go_enter Try.func65, Try.ntmps65
  go_wp2
  go_loopg [5] k (fun kq v5 w' => ∃ (x5_1 : Int), v5 = .int .i64 x5_1 ∧ Aside0 (laws_eqInputS.l0 kq l0 l1 x5_1 = some r) ∧ Aside0 (kq ≤ k) ∧ Aside0 (Below w.heap.size w w'))
  case atStart => exact ⟨(0), ψ0, H', ⟨Nat.le_refl _⟩, ⟨ψ59⟩⟩
  case round =>
   clear H'
   try clear c1
   try clear p2
   try clear c3
   try clear c3b0
   try clear c3b1
   try clear c3b2
   obtain ⟨x5_1, rfl, HA, HK1, HB⟩ := hrel
   cases gk with
   | zero => exact absurd HA.out (by simp [laws_eqInputS.l0])
   | succ k1 =>
    have H := HA.out
    clear HA
    simp only [laws_eqInputS.l0] at H
    replace H := ifD H; rcases H with ⟨c4b0, H⟩ | ⟨c4b0, H⟩
    ·replace H := ifN H; obtain ⟨c5b0, H⟩ := H
     replace H := ifN H; obtain ⟨c6b0, H⟩ := H
     replace H := Option.bind_eq_some_iff.mp H
     obtain ⟨t971, A70, H⟩ := H
     have A7 := Aside0.mk A70
     clear A70
     replace H := ifB H; rcases H with ⟨rfl, H⟩ | ⟨rfl, H⟩
     ·exact τ73
     ·exact τ73
    ·obtain rfl := Option.some.inj H
     go_wp2
     go_ret
     exact ⟨ψ9, ψ59⟩
 ·rw [if_neg c3] at H
  have c3b0 : ((l0.length : Int) == (l1.length : Int)) = false := beq_eq_false_iff_ne.mpr c3
  have c3b1 : ((l0.length : Int) != (l1.length : Int)) = true := bne_iff_ne.mpr c3
  have c3b2 : (l0.length == l1.length) = false := by first | simpa using c3 | (simp at c3 ⊢; omega)
  obtain rfl := Option.some.inj H
  go_enter Try.func65, Try.ntmps65
  go_wp2
  go_ret
  exact ⟨ψ9, ψ59⟩

/-! ### laws_eqProg: function 24 -/
def laws_eqProg.f (k : Nat) (a0_0 : Int) (l0_1 : List (S77)) (l0_2 : List (S77)) (a0_3 : Int) (l0_4 : List Int) (l0_5 : List (S42)) (a1_0 : Int) (l1_1 : List (S77)) (l1_2 : List (S77)) (a1_3 : Int) (l1_4 : List Int) (l1_5 : List (S42)) : Option (Bool) := if a0_0 = a1_0 then ((laws_eqInputS.f k l0_1 l1_1).bind fun t978 => (if t978 = true then ((laws_eqInputS.f k l0_2 l1_2).bind fun t981 => (if t981 = true then (if a0_3 = a1_3 then ((laws_eqInt64S.f k l0_4 l1_4).bind fun t986 => (if t986 = true then ((laws_eqStmtS.f k l0_5 l1_5).bind fun t989 => (if t989 = true then (some true) else (some false))) else (some false))) else (some false)) else (some false))) else (some false))) else (some false)
set_option maxRecDepth 100000 in
theorem τ74 {P : Prop} (h : P := by
 obtain rfl := Option.some.inj H
 go_enter Try.func24, Try.ntmps24
 go_wp2_with (first | ((with_reducible refine gate_dst (N := 2) rfl ?_); refine bE 2 #[.int .i64 a0_0, .slice A0_1 l0_1.length c0_1, .slice A0_2 l0_2.length c0_2, .int .i64 a0_3, .slice A0_4 l0_4.length c0_4, .slice A0_5 l0_5.length c0_5] 35 ?_; intro gb10 hg w1_ hbox hb; have q := n4_ (below_step ψ61 hb) (hbox) ((ψ312 : w.heap.size ≤ gb10)) ((ψ312 : w.heap.size ≤ gb10)); clear HB; obtain ⟨HB, BK10, GW10, GE10⟩ := q; clear hb hbox hg) | ((with_reducible refine gate_dst (N := 3) rfl ?_); refine bE 3 #[.int .i64 a1_0, .slice A1_1 l1_1.length c1_1, .slice A1_2 l1_2.length c1_2, .int .i64 a1_3, .slice A1_4 l1_4.length c1_4, .slice A1_5 l1_5.length c1_5] 35 ?_; intro gb11 hg w2_ hbox hb; have q := n7_ (blk_below (g := gb10) ψ23 hb) (below_step ψ61 hb) (hbox) ((ψ312 : w.heap.size ≤ gb11)) ((ψ312 : w.heap.size ≤ gb11)) ((ψ304 : gb10 ≠ gb11)) ((ψ305 : gb11 ≠ gb10)); clear BK10 HB; obtain ⟨BK10, HB, BK11, GW11, GE11, NB10_11, NB11_10⟩ := q; clear hb hbox hg; have hnb1_ := NB10_11.out; have hnc1_ := NB11_10.out; obtain ⟨hczB10_0, hczB10_1, hczB10_2, hczB10_3, hczB10_4, hczB10_5, hfzB10_0, hfzB10_1, hfzB10_2, hfzB10_3, hfzB10_4, hfzB10_5⟩ := cells6 BK10.out; obtain ⟨hczB11_0, hczB11_1, hczB11_2, hczB11_3, hczB11_4, hczB11_5, hfzB11_0, hfzB11_1, hfzB11_2, hfzB11_3, hfzB11_4, hfzB11_5⟩ := cells6 BK11.out) | ((with_reducible refine gate_callee (f := 65) rfl ?_); refine gL 14 Try.func65 #[.slice A0_1 l0_1.length c0_1, .slice A1_1 l1_1.length c1_1] ?_; (with_reducible refine (laws_eqInputS.calls k _ _ l0_1 _ _ l1_1 _ _ ?_ ?_ ?_ ?_ A4.out).mono ?_); exact ψ54; exact HC0_1.out; exact (by repeat (first | exact (Kd.C_below HR1_1.out HB.out) | (with_reducible refine Kd.C_alloc ?_ _) | (with_reducible refine Kd.C_drewN ?_ _) | (with_reducible refine Kd.C_drew ?_))); exact HC1_1.out; rintro e w3_ ⟨rfl, hb⟩; refine ⟨_, rfl, ?_⟩; have q := n3_ (blk_below (g := gb10) ψ23 hb) (blk_below (g := gb11) ψ34 hb) (below_step ψ61 hb); clear BK10 BK11 HB; obtain ⟨BK10, BK11, HB⟩ := q; (try clear hb); (try (obtain ⟨hczB10_0, hczB10_1, hczB10_2, hczB10_3, hczB10_4, hczB10_5, hfzB10_0, hfzB10_1, hfzB10_2, hfzB10_3, hfzB10_4, hfzB10_5⟩ := cells6 BK10.out)); (try (obtain ⟨hczB11_0, hczB11_1, hczB11_2, hczB11_3, hczB11_4, hczB11_5, hfzB11_0, hfzB11_1, hfzB11_2, hfzB11_3, hfzB11_4, hfzB11_5⟩ := cells6 BK11.out))) | ((with_reducible refine gate_callee (f := 65) rfl ?_); refine gL 20 Try.func65 #[.slice A0_2 l0_2.length c0_2, .slice A1_2 l1_2.length c1_2] ?_; (with_reducible refine (laws_eqInputS.calls k _ _ l0_2 _ _ l1_2 _ _ ?_ ?_ ?_ ?_ A6.out).mono ?_); exact ψ55; exact HC0_2.out; exact ψ63; exact HC1_2.out; rintro e w4_ ⟨rfl, hb⟩; refine ⟨_, rfl, ?_⟩; have q := n3_ (blk_below (g := gb10) ψ23 hb) (blk_below (g := gb11) ψ34 hb) (below_step ψ61 hb); clear BK10 BK11 HB; obtain ⟨BK10, BK11, HB⟩ := q; (try clear hb); (try (obtain ⟨hczB10_0, hczB10_1, hczB10_2, hczB10_3, hczB10_4, hczB10_5, hfzB10_0, hfzB10_1, hfzB10_2, hfzB10_3, hfzB10_4, hfzB10_5⟩ := cells6 BK10.out)); (try (obtain ⟨hczB11_0, hczB11_1, hczB11_2, hczB11_3, hczB11_4, hczB11_5, hfzB11_0, hfzB11_1, hfzB11_2, hfzB11_3, hfzB11_4, hfzB11_5⟩ := cells6 BK11.out))) | ((with_reducible refine gate_callee (f := 41) rfl ?_); refine gL 31 Try.func41 #[.slice A0_4 l0_4.length c0_4, .slice A1_4 l1_4.length c1_4] ?_; (with_reducible refine (laws_eqInt64S.calls k _ _ l0_4 _ _ l1_4 _ _ ?_ ?_ ?_ ?_ A9.out).mono ?_); exact ψ56; exact HC0_4.out; exact (by repeat (first | exact (Kd.C_below HR1_4.out HB.out) | (with_reducible refine Kd.C_alloc ?_ _) | (with_reducible refine Kd.C_drewN ?_ _) | (with_reducible refine Kd.C_drew ?_))); exact HC1_4.out; rintro e w' ⟨rfl, ⟨nd, rfl⟩⟩; refine ⟨_, rfl, ?_⟩) | ((with_reducible refine gate_callee (f := 16) rfl ?_); refine gL 37 Try.func16 #[.slice A0_5 l0_5.length c0_5, .slice A1_5 l1_5.length c1_5] ?_; (with_reducible refine (laws_eqStmtS.calls k _ _ l0_5 _ _ l1_5 _ _ ?_ ?_ ?_ ?_ A11.out).mono ?_); exact (by repeat (first | exact (Kd.C_below HR0_5.out ψ61) | (with_reducible refine Kd.C_alloc ?_ _) | (with_reducible refine Kd.C_drewN ?_ _) | (with_reducible refine Kd.C_drew ?_))); exact HC0_5.out; exact (by repeat (first | exact (Kd.C_below HR1_5.out ψ61) | (with_reducible refine Kd.C_alloc ?_ _) | (with_reducible refine Kd.C_drewN ?_ _) | (with_reducible refine Kd.C_drew ?_))); exact HC1_5.out; rintro e w5_ ⟨rfl, hb⟩; refine ⟨_, rfl, ?_⟩; have q := n3_ (blk_below (g := gb10) ψ23 hb) (blk_below (g := gb11) ψ34 hb) (below_step ψ61 hb); clear BK10 BK11 HB; obtain ⟨BK10, BK11, HB⟩ := q; (try clear hb)))
 go_ret
 exact ⟨ψ9, ψ61⟩) : P := h
set_option maxHeartbeats 8000000 in
set_option maxRecDepth 100000 in
theorem laws_eqProg.calls (k : Nat) (a0_0 : Int) (A0_1 : Option Addr) (c0_1 : Nat) (l0_1 : List (S77)) (A0_2 : Option Addr) (c0_2 : Nat) (l0_2 : List (S77)) (a0_3 : Int) (A0_4 : Option Addr) (c0_4 : Nat) (l0_4 : List Int) (A0_5 : Option Addr) (c0_5 : Nat) (l0_5 : List (S42)) (a1_0 : Int) (A1_1 : Option Addr) (c1_1 : Nat) (l1_1 : List (S77)) (A1_2 : Option Addr) (c1_2 : Nat) (l1_2 : List (S77)) (a1_3 : Int) (A1_4 : Option Addr) (c1_4 : Nat) (l1_4 : List Int) (A1_5 : Option Addr) (c1_5 : Nat) (l1_5 : List (S42)) (r : Bool) (w : World) (hr0_1 : Kd.C k77 w A0_1 l0_1.length l0_1) (hc0_1 : l0_1.length ≤ c0_1) (hr0_2 : Kd.C k77 w A0_2 l0_2.length l0_2) (hc0_2 : l0_2.length ≤ c0_2) (hr0_4 : Kd.C (Kd.int .i64) w A0_4 l0_4.length l0_4) (hc0_4 : l0_4.length ≤ c0_4) (hr0_5 : Kd.C k42 w A0_5 l0_5.length l0_5) (hc0_5 : l0_5.length ≤ c0_5) (hr1_1 : Kd.C k77 w A1_1 l1_1.length l1_1) (hc1_1 : l1_1.length ≤ c1_1) (hr1_2 : Kd.C k77 w A1_2 l1_2.length l1_2) (hc1_2 : l1_2.length ≤ c1_2) (hr1_4 : Kd.C (Kd.int .i64) w A1_4 l1_4.length l1_4) (hc1_4 : l1_4.length ≤ c1_4) (hr1_5 : Kd.C k42 w A1_5 l1_5.length l1_5) (hc1_5 : l1_5.length ≤ c1_5) (h : laws_eqProg.f k a0_0 l0_1 l0_2 a0_3 l0_4 l0_5 a1_0 l1_1 l1_2 a1_3 l1_4 l1_5 = some r) :
 Calls Try.prog 24 #[.agg #[.int .i64 a0_0, .slice A0_1 l0_1.length c0_1, .slice A0_2 l0_2.length c0_2, .int .i64 a0_3, .slice A0_4 l0_4.length c0_4, .slice A0_5 l0_5.length c0_5], .agg #[.int .i64 a1_0, .slice A1_1 l1_1.length c1_1, .slice A1_2 l1_2.length c1_2, .int .i64 a1_3, .slice A1_4 l1_4.length c1_4, .slice A1_5 l1_5.length c1_5]] w fun e w' => e = .returned (.bool r) ∧ Below w.heap.size w w' := by
 have hu35 := Try.underlying35
 have HR0_1 := Aside0.mk hr0_1
 have HC0_1 := Aside0.mk hc0_1
 clear hr0_1 hc0_1
 have HR0_2 := Aside0.mk hr0_2
 have HC0_2 := Aside0.mk hc0_2
 clear hr0_2 hc0_2
 have HR0_4 := Aside0.mk hr0_4
 have HC0_4 := Aside0.mk hc0_4
 clear hr0_4 hc0_4
 have HR0_5 := Aside0.mk hr0_5
 have HC0_5 := Aside0.mk hc0_5
 clear hr0_5 hc0_5
 have HR1_1 := Aside0.mk hr1_1
 have HC1_1 := Aside0.mk hc1_1
 clear hr1_1 hc1_1
 have HR1_2 := Aside0.mk hr1_2
 have HC1_2 := Aside0.mk hc1_2
 clear hr1_2 hc1_2
 have HR1_4 := Aside0.mk hr1_4
 have HC1_4 := Aside0.mk hc1_4
 clear hr1_4 hc1_4
 have HR1_5 := Aside0.mk hr1_5
 have HC1_5 := Aside0.mk hc1_5
 clear hr1_5 hc1_5
 have HB := Aside0.mk (Below.refl w.heap.size w)
 have H : (if a0_0 = a1_0 then ((laws_eqInputS.f k l0_1 l1_1).bind fun t978 => (if t978 = true then ((laws_eqInputS.f k l0_2 l1_2).bind fun t981 => (if t981 = true then (if a0_3 = a1_3 then ((laws_eqInt64S.f k l0_4 l1_4).bind fun t986 => (if t986 = true then ((laws_eqStmtS.f k l0_5 l1_5).bind fun t989 => (if t989 = true then (some true) else (some false))) else (some false))) else (some false)) else (some false))) else (some false))) else (some false)) = some r := h
 clear h
 replace H := ifF H; rcases H with ⟨c3b0, c3b1, H⟩ | ⟨c3b0, c3b1, c3, H⟩
 ·replace H := Option.bind_eq_some_iff.mp H
  obtain ⟨t978, A40, H⟩ := H
  have A4 := Aside0.mk A40
  clear A40
  replace H := ifB H; rcases H with ⟨rfl, H⟩ | ⟨rfl, H⟩
  ·replace H := Option.bind_eq_some_iff.mp H
   obtain ⟨t981, A60, H⟩ := H
   have A6 := Aside0.mk A60
   clear A60
   replace H := ifB H; rcases H with ⟨rfl, H⟩ | ⟨rfl, H⟩
   ·by_cases c8 : a0_3 = a1_3
    ·rw [if_pos c8] at H
     have c8b0 : (a0_3 == a1_3) = true := beq_iff_eq.mpr c8
     have c8b1 : (a0_3 != a1_3) = false := bne_eq_false_iff_eq.mpr c8
     clear c8
     replace H := Option.bind_eq_some_iff.mp H
     obtain ⟨t986, A90, H⟩ := H
     have A9 := Aside0.mk A90
     clear A90
     replace H := ifB H; rcases H with ⟨rfl, H⟩ | ⟨rfl, H⟩
     ·replace H := Option.bind_eq_some_iff.mp H
      obtain ⟨t989, A110, H⟩ := H
      have A11 := Aside0.mk A110
      clear A110
      replace H := ifB H; rcases H with ⟨rfl, H⟩ | ⟨rfl, H⟩
      ·exact τ74
      ·exact τ74
     ·exact τ74
    ·rw [if_neg c8] at H
     have c8b0 : (a0_3 == a1_3) = false := beq_eq_false_iff_ne.mpr c8
     have c8b1 : (a0_3 != a1_3) = true := bne_iff_ne.mpr c8
     exact τ74
   ·exact τ74
  ·exact τ74
 ·exact τ74

end Go.Proofs.Ytbjmhdoagjmmcaa.PCore

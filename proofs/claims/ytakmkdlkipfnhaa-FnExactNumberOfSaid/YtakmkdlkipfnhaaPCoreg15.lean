/- The walks of the functions that the laws come to, part 15: turned out of the kit's print, and mended where that fell. -/
import Derived.Test.YtakmkdlkipfnhaaPCoreg
import Derived.Test.YtakmkdlkipfnhaaPCoreg10
namespace Go.Proofs.Ytakmkdlkipfnhaa.PCore
open Go.RowKit Go.Proofs.YtakmkdlkipfnhaaW.PrintWords Go.Proofs.YtakmkdlkipfnhaaW.PrintLast Go.Proofs.YtakmkdlkipfnhaaW.PrintMore
attribute [local go_sem] max2_int min2_int max_two min_two max_three min_three max_four min_four   -- for this text's walks alone
set_option linter.unusedVariables false
set_option maxHeartbeats 8000000
set_option maxRecDepth 100000
set_option linter.unusedSimpArgs false

theorem ψ100 {P : Prop} (h : P := by have := World.block_lt_of_cell? _ _ hx817_0; first | rwa [add_block] at this | exact this) : P := h
theorem ψ101 {P : Prop} (h : P := by first | (rw [add_block]; exact hn817_0) | (show (Addr.add _ _).block ≠ _; rw [add_block]; exact hn817_0) | exact hn817_0) : P := h
/-! ### impl_within: function 85 -/
def impl_within.l0 : Nat → List (S106) → List Int → Int → Int → Option (Bool)
 | 0, _, _, _, _ => none
 | k + 1, x1, x12, x13, x14 => if x14 < x13 then (if 0 ≤ x14 then (if x14 < (x12.length : Int) then (if (rd x12 x14) < 0 then (some false) else (if x14 < (x1.length : Int) then (if (rd x12 x14) > ((rd_T106 x1 x14).f0) then (some false) else (impl_within.l0 k x1 x12 x13 (wrap64 (x14 + 1)))) else (none))) else (none)) else (none)) else (some true)
def impl_within.f (k : Nat) (l0 : List Int) (l1 : List (S106)) : Option (Bool) := if (l0.length : Int) = (l1.length : Int) then (impl_within.l0 k l1 l0 (l0.length : Int) 0) else (some false)
theorem τ74 {P : Prop} (h : P := by
 first | obtain rfl := Option.some.inj H | (have H' := Aside0.mk H; clear H)
 try (have p799 : 0 ≤ (x14_1 : Int) := of_decide_eq_true ψ5; have q799 : x14_1 < (l0.length : Int) := of_decide_eq_true ψ5; obtain ⟨ad799, e799, hx799_0⟩ := Kd.at_int HR0.out x14_1 p799 q799; cases e799; replace p799 := eq_true p799; replace q799 := eq_true q799)
 try (have p800 : 0 ≤ (x14_1 : Int) := of_decide_eq_true ψ5; have q800 : x14_1 < (l1.length : Int) := of_decide_eq_true ψ5; obtain ⟨ad800, e800, hx800_0, hx800_1⟩ := at_T106 HR1.out x14_1 p800 q800; cases e800; replace p800 := eq_true p800; replace q800 := eq_true q800)
 go_wp2
 first | (go_ret; exact ⟨ψ0, ψ1⟩) | (go_roundg k1; (case measure => have := HK1.out; omega); (case rel => exact ⟨(wrap64 (x14_1 + 1)), ψ7, H', ⟨ψ8⟩, ψ1⟩))) : P := h
theorem impl_within.calls (k : Nat) (A0 : Option Addr) (c0 : Nat) (l0 : List Int) (A1 : Option Addr) (c1 : Nat) (l1 : List (S106)) (r : Bool) (w : World) (hr0 : Kd.C (Kd.int .i64) w A0 l0.length l0) (hc0 : l0.length ≤ c0) (hr1 : Kd.C k106 w A1 l1.length l1) (hc1 : l1.length ≤ c1) (h : impl_within.f k l0 l1 = some r) :
 Calls Try.prog 85 #[.slice A0 l0.length c0, .slice A1 l1.length c1] w fun e w' => e = .returned (.bool r) ∧ Drawn0 w w' := by
 have q := n4_ hr0 hc0 hr1 hc1
 clear hr0 hc0 hr1 hc1
 obtain ⟨HR0, HC0, HR1, HC1⟩ := q
 unfold impl_within.f at h
 have H := h
 clear h
 by_cases c3 : (l0.length : Int) = (l1.length : Int)
 ·rw [if_pos c3] at H
  have c3b0 : ((l0.length : Int) == (l1.length : Int)) = true := beq_iff_eq.mpr c3
  have c3b1 : ((l0.length : Int) != (l1.length : Int)) = false := bne_eq_false_iff_eq.mpr c3
  have c3b2 : (l0.length == l1.length) = true := by first | simpa using c3 | (simp at c3 ⊢; omega)
  clear c3
  have H' := Aside0.mk H
  clear H
  go_enter Try.func85, Try.ntmps85
  go_wp2
  go_loopg [14] k (fun kq v14 w' => ∃ (x14_1 : Int), v14 = .int .i64 x14_1 ∧ Aside0 (impl_within.l0 kq l1 l0 (l0.length : Int) x14_1 = some r) ∧ Aside0 (kq ≤ k) ∧ Drawn0 w w')
  case atStart => exact ⟨(0), ψ7, H', ⟨Nat.le_refl _⟩, ψ1⟩
  case round =>
   clear H'
   try clear c1
   try clear c3
   try clear c3b0
   try clear c3b1
   try clear c3b2
   obtain ⟨x14_1, rfl, HA, HK1, ⟨m1, rfl⟩⟩ := hrel
   cases gk with
   | zero => exact absurd HA.out (by simp [impl_within.l0])
   | succ k1 =>
    have H := HA.out
    clear HA
    simp only [impl_within.l0] at H
    replace H := ifD H; rcases H with ⟨c4b0, H⟩ | ⟨c4b0, H⟩
    ·replace H := ifN H; obtain ⟨c5b0, H⟩ := H
     replace H := ifN H; obtain ⟨c6b0, H⟩ := H
     replace H := ifD H; rcases H with ⟨c7b0, H⟩ | ⟨c7b0, H⟩
     ·exact τ74
     ·replace H := ifN H; obtain ⟨c8b0, H⟩ := H
      replace H := ifG H; rcases H with ⟨c9b0, H⟩ | ⟨c9b0, H⟩
      ·exact τ74
      ·exact τ74
    ·exact τ74
 ·rw [if_neg c3] at H
  have c3b0 : ((l0.length : Int) == (l1.length : Int)) = false := beq_eq_false_iff_ne.mpr c3
  have c3b1 : ((l0.length : Int) != (l1.length : Int)) = true := bne_iff_ne.mpr c3
  have c3b2 : (l0.length == l1.length) = false := by first | simpa using c3 | (simp at c3 ⊢; omega)
  obtain rfl := Option.some.inj H
  go_enter Try.func85, Try.ntmps85
  go_wp2
  go_ret
  exact ⟨ψ0, ψ1⟩

/-! ### impl_startAt: function 86 -/
def impl_startAt.l0 : Nat → List Int → Int → Int → List Int → List (List Int) → Option (List Int × (List (List Int)))
 | 0, _, _, _, _, _ => none
 | k + 1, x27, x28, x29, x812000, x812001 => if x29 < x28 then (if 0 ≤ x29 then (if x29 < (x27.length : Int) then (if 0 ≤ (rd x27 x29) then (if (rd x27 x29 : Int).toNat ≤ 35184372088832 then (if x812001.length < 5864062014805 then (impl_startAt.l0 k x27 x28 (wrap64 (x29 + 1)) x812000 (x812001 ++ [(List.replicate (rd x27 x29 : Int).toNat 0)])) else (none)) else (none)) else (none)) else (none)) else (none)) else (some (x812000, x812001))
def impl_startAt.f (k : Nat) (l0 : List (S36)) (l1 : List Int) (l2 : List Int) : Option (List Int × (List (List Int))) := (some (([] : List Int) : List Int)).bind fun y802 => (if y802.length + l1.length < 17592186044416 then ((some (y802 ++ l1 : List Int)).bind fun y805 => (if y805.length + l2.length < 17592186044416 then ((some (y805 ++ l2 : List Int)).bind fun y808 => (if 0 ≤ ((rd_T36 l0 0).f3) then (if y808.length + ((rd_T36 l0 0).f3 : Int).toNat < 17592186044416 then (impl_startAt.l0 k ((rd_T36 l0 0).f4) (((rd_T36 l0 0).f4).length : Int) 0 (y808 ++ List.replicate ((rd_T36 l0 0).f3 : Int).toNat 0) ([] : List (List Int))) else (none)) else (none))) else (none))) else (none))
def impl_startAt.T2 : Bool × List (List Nat × List Nat) := (true, [([], []), ([0], [0]), ([], []), ([2], [2]), ([3], [3]), ([4], [4]), ([1, 5], [1, 5]), ([0, 1, 2, 3, 4, 5, 6], []), ([7, 6, 6, 0, 1, 2, 3, 4, 5, 6], [6, 7])])
def impl_startAt.B2 : List Nat := [0, 1, 0, 4, 12, 28, 63, 127, 255]
theorem impl_startAt.tab2 : rtab .any (opsOf Try.f86 2) = impl_startAt.T2 := by kernel_rfl
theorem impl_startAt.bits2 : waitsOk impl_startAt.T2.2 impl_startAt.B2 = true := by kernel_rfl
def impl_startAt.T6 : Bool × List (List Nat × List Nat) := (true, [([], []), ([0], [0]), ([], []), ([2, 2], [2]), ([3], [3]), ([1, 4], [1, 4]), ([0, 1, 2, 3, 4, 5], []), ([6, 5, 5, 0, 1, 2, 3, 4, 5], [5, 6])])
def impl_startAt.B6 : List Nat := [0, 1, 0, 4, 12, 31, 63, 127]
theorem impl_startAt.tab6 : rtab .any (opsOf Try.f86 6) = impl_startAt.T6 := by kernel_rfl
theorem impl_startAt.bits6 : waitsOk impl_startAt.T6.2 impl_startAt.B6 = true := by kernel_rfl
theorem impl_startAt.calls (k : Nat) (A0 : Option Addr) (c0 : Nat) (l0 : List (S36)) (A1 : Option Addr) (c1 : Nat) (l1 : List Int) (A2 : Option Addr) (c2 : Nat) (l2 : List Int) (r1 : List Int) (r2 : List (List Int)) (w : World) (hn0 : l0.length = 1) (hr0 : Kd.C k36 w A0 l0.length l0) (hc0 : l0.length ≤ c0) (hr1 : Kd.C (Kd.int .i64) w A1 l1.length l1) (hc1 : l1.length ≤ c1) (hr2 : Kd.C (Kd.int .i64) w A2 l2.length l2) (hc2 : l2.length ≤ c2) (h : impl_startAt.f k l0 l1 l2 = some (r1, r2)) :
 Calls Try.prog 86 #[.pointer A0, .slice A1 l1.length c1, .slice A2 l2.length c2] w fun e w' => ∃ v0_ v1_ : Value, e = .returned (.agg #[v0_, v1_]) ∧ Kd.R (Kd.int .i64) 2 w' w.heap.size (fun _ => True) v0_ r1 ∧ Kd.S (Kd.slice 2 (Kd.int .i64)) 23 w' w.heap.size (fun k_ => some k_ ≠ (v0_ : Value).ownBlock) v1_ r2 ∧ Below w.heap.size w w' := by
 have hu38 := Try.underlying38
 have q := n6_ hr0 hc0 hr1 hc1 hr2 hc2
 clear hr0 hc0 hr1 hc1 hr2 hc2
 obtain ⟨HR0, HC0, HR1, HC1, HR2, HC2⟩ := q
 have HB := Aside0.mk (Below.refl w.heap.size w)
 unfold impl_startAt.f at h
 have H := h
 clear h
 obtain ⟨y802, hy802⟩ : ∃ y_ : List Int, y_ = (([] : List Int)) := ⟨_, rfl⟩
 replace H : (if y802.length + l1.length < 17592186044416 then ((some (y802 ++ l1 : List Int)).bind fun y805 => (if y805.length + l2.length < 17592186044416 then ((some (y805 ++ l2 : List Int)).bind fun y808 => (if 0 ≤ ((rd_T36 l0 0).f3) then (if y808.length + ((rd_T36 l0 0).f3 : Int).toNat < 17592186044416 then (impl_startAt.l0 k ((rd_T36 l0 0).f4) (((rd_T36 l0 0).f4).length : Int) 0 (y808 ++ List.replicate ((rd_T36 l0 0).f3 : Int).toNat 0) ([] : List (List Int))) else (none)) else (none))) else (none))) else (none)) = some (r1, r2) := by first | (rw [hy802]; with_reducible exact H) | (have H2_ := (Option.bind_some _ _).symm.trans H; rw [hy802]; with_reducible exact H2_) | (have H2_ := (Option.bind_some _ _).symm.trans H; with_reducible exact H2_) | with_reducible exact H | (rw [hy802]; exact H) | exact H
 have Ny802 := Aside0.mk hy802
 clear hy802
 by_cases c4 : y802.length + l1.length < 17592186044416
 ·rw [if_pos c4] at H
  have LMc4 := Aside0.mk c4
  clear c4
  obtain ⟨y805, hy805⟩ : ∃ y_ : List Int, y_ = (y802 ++ l1) := ⟨_, rfl⟩
  replace H : (if y805.length + l2.length < 17592186044416 then ((some (y805 ++ l2 : List Int)).bind fun y808 => (if 0 ≤ ((rd_T36 l0 0).f3) then (if y808.length + ((rd_T36 l0 0).f3 : Int).toNat < 17592186044416 then (impl_startAt.l0 k ((rd_T36 l0 0).f4) (((rd_T36 l0 0).f4).length : Int) 0 (y808 ++ List.replicate ((rd_T36 l0 0).f3 : Int).toNat 0) ([] : List (List Int))) else (none)) else (none))) else (none)) = some (r1, r2) := by first | (rw [hy805]; with_reducible exact H) | (have H2_ := (Option.bind_some _ _).symm.trans H; rw [hy805]; with_reducible exact H2_) | (have H2_ := (Option.bind_some _ _).symm.trans H; with_reducible exact H2_) | with_reducible exact H | (rw [hy805]; exact H) | exact H
  have Ny805 := Aside0.mk hy805
  clear hy805
  by_cases c5 : y805.length + l2.length < 17592186044416
  ·rw [if_pos c5] at H
   have LMc5 := Aside0.mk c5
   clear c5
   obtain ⟨y808, hy808⟩ : ∃ y_ : List Int, y_ = (y805 ++ l2) := ⟨_, rfl⟩
   replace H : (if 0 ≤ ((rd_T36 l0 0).f3) then (if y808.length + ((rd_T36 l0 0).f3 : Int).toNat < 17592186044416 then (impl_startAt.l0 k ((rd_T36 l0 0).f4) (((rd_T36 l0 0).f4).length : Int) 0 (y808 ++ List.replicate ((rd_T36 l0 0).f3 : Int).toNat 0) ([] : List (List Int))) else (none)) else (none)) = some (r1, r2) := by first | (rw [hy808]; with_reducible exact H) | (have H2_ := (Option.bind_some _ _).symm.trans H; rw [hy808]; with_reducible exact H2_) | (have H2_ := (Option.bind_some _ _).symm.trans H; with_reducible exact H2_) | with_reducible exact H | (rw [hy808]; exact H) | exact H
   have Ny808 := Aside0.mk hy808
   clear hy808
   by_cases c6 : 0 ≤ ((rd_T36 l0 0).f3)
   ·rw [if_pos c6] at H
    have c6b0 := eq_true c6
    have c6b1 : decide (0 ≤ ((rd_T36 l0 0).f3)) = true := decide_eq_true c6
    clear c6
    by_cases c7 : y808.length + ((rd_T36 l0 0).f3 : Int).toNat < 17592186044416
    ·rw [if_pos c7] at H
     have LMc7 := Aside0.mk c7
     clear c7
     obtain ⟨y814, hy814⟩ : ∃ y_ : List Int, y_ = (y808 ++ List.replicate ((rd_T36 l0 0).f3 : Int).toNat 0) := ⟨_, rfl⟩
     replace H : (impl_startAt.l0 k ((rd_T36 l0 0).f4) (((rd_T36 l0 0).f4).length : Int) 0 y814 ([] : List (List Int))) = some (r1, r2) := by first | (rw [hy814]; with_reducible exact H) | (have H2_ := (Option.bind_some _ _).symm.trans H; rw [hy814]; with_reducible exact H2_) | (have H2_ := (Option.bind_some _ _).symm.trans H; with_reducible exact H2_) | with_reducible exact H | (rw [hy814]; exact H) | exact H
     have Ny814 := Aside0.mk hy814
     clear hy814
     have H' := Aside0.mk H
     clear H
     go_enter Try.func86, Try.ntmps86
     try go_wp2_with (first | ((with_reducible refine gate_dst (N := 6) rfl ?_); refine bE 6 #[.slice none 0 0, .slice none 0 0] 38 ?_; intro gb10 hg w8 hbox hb; have q := n4_ (below_step ψ25 hb) (hbox) ((ψ115 : w.heap.size ≤ gb10)) ((ψ115 : w.heap.size ≤ gb10)); clear HB; obtain ⟨HB, BK10, GW10, GE10⟩ := q; clear hb hbox hg) | ((with_reducible refine gate_dst (N := 10) rfl ?_); refine Kd.R_lit (Kd.int .i64) _ 2 ?hg (N := 10) ?hd (xs := ([] : List Int)) (inner := []) (ok := fun _ => True) (okp := fun _ => True) ?hr ?hp (fun _ hk => hk) trivial (Below.refl _ _) (Nat.le_refl _) ψ22 ?_; (case hd => rfl); (case hg => rfl); (case hr => first | (go_simp; done) | (go_simp; rfl)); (case hp => exact (Reps.none _ _)); intro v803 w9 ho10 hb hg_ hnew_; clear hg_ hnew_; (first | rw [← Ny802.out] at ho10 | (simp only [Int.reduceToNat] at ho10; rw [← Ny802.out] at ho10)); have q := n3_ (Kd.R_lower ho10 (below_size ψ25)) (blk_below (g := gb10) ψ10 hb) (below_step ψ25 hb); clear BK10 HB; obtain ⟨HO804, BK10, HB⟩ := q; clear hb ho10) | ((with_reducible refine gate_builtin (b := .append) (xs := #[.tmp 10, .tmp 11]) rfl ?_); at_builtin; refine Kd.R_append_rows (Kd.int .i64) (w0 := w) w.heap.size rfl (.tmp 10) (.tmp 11) 23 2 (.int .i64 0) 8 rfl Try.underlying23 info2 rfl ψ13 ψ21 v803 y802 l1 _ _ _ (fun _ => True) (fun _ => False) rfl rfl ?aO ?aR (fun _ _ h => h) (fun _ h => h.elim) ?aF ?aB ?aS ?aL ?_; (case aR => repeat (first | exact (Kd.C_below HR1.out HB.out) | (with_reducible refine Kd.C_alloc ?_ _) | (with_reducible refine Kd.C_drewN ?_ _) | (with_reducible refine Kd.C_drew ?_))); (case aB => exact ψ25); (case aF => exact (fun _ _ => trivial)); (case aO => exact (have hZ := HO804; kR_)); (case aS => exact (below_size ψ25)); (case aL => have := LMc4.out; omega); intro v806 w11 ho hb hg hat; rw [← Ny805.out] at ho; have q := n3_ (blk_grown (g := gb10) ψ10 hg (Kd.R_ne HO804.out BK10.out ψ13)) (hb) (ho); clear BK10 HB HO804; obtain ⟨BK10, HB, HO807⟩ := q; clear ho hb hg hat) | ((with_reducible refine gate_builtin (b := .append) (xs := #[.tmp 12, .tmp 13]) rfl ?_); at_builtin; refine Kd.R_append_rows (Kd.int .i64) (w0 := w) w.heap.size rfl (.tmp 12) (.tmp 13) 23 2 (.int .i64 0) 8 rfl Try.underlying23 info2 rfl ψ13 ψ21 v806 y805 l2 _ _ _ (fun _ => True) (fun _ => False) rfl rfl ?aO ?aR (fun _ _ h => h) (fun _ h => h.elim) ?aF ?aB ?aS ?aL ?_; (case aR => repeat (first | exact (Kd.C_below HR2.out HB.out) | (with_reducible refine Kd.C_alloc ?_ _) | (with_reducible refine Kd.C_drewN ?_ _) | (with_reducible refine Kd.C_drew ?_))); (case aB => exact ψ25); (case aF => exact (fun _ _ => trivial)); (case aO => exact (have hZ := HO807; kR_)); (case aS => exact (below_size ψ25)); (case aL => have := LMc5.out; omega); intro v809 w12 ho hb hg hat; rw [← Ny808.out] at ho; have q := n3_ (blk_grown (g := gb10) ψ10 hg (Kd.R_ne HO807.out BK10.out ψ13)) (hb) (ho); clear BK10 HB HO807; obtain ⟨BK10, HB, HO810⟩ := q; clear ho hb hg hat; obtain ⟨Ao13, co13, eo13⟩ := Kd.R_slice HO810.out; subst eo13) | ((with_reducible refine gate_dst (N := 7) rfl ?_); refine bE 7 #[.slice none 0 0, .slice none 0 0] 38 ?_; intro gb11 hg w14 hbox hb; have q := n8_ (Kd.R_below (have hZ := HO810; kR_) hb) (blk_below (g := gb10) ψ10 hb) (below_step ψ25 hb) (hbox) ((ψ115 : w.heap.size ≤ gb11)) ((ψ115 : w.heap.size ≤ gb11)) ((ψ116 : gb10 ≠ gb11)) ((ψ117 : gb11 ≠ gb10)); clear HO810 BK10 HB; obtain ⟨HO810, BK10, HB, BK11, GW11, GE11, NB10_11, NB11_10⟩ := q; clear hb hbox hg; have hnb15 := NB11_10.out; have hnc15 := NB10_11.out; obtain ⟨y16_0, y16_1, u16_0, u16_1⟩ := cells2 BK11.out))
     have n0_ : Aside0 (Kd.R (Kd.int .i64) 2 ((w14.setCell ⟨gb11, 0, none⟩ (.slice Ao13 y808.length co13)).setCell ⟨gb11, 1, none⟩ (.slice none 0 0)) w.heap.size (fun _ => True) (.slice Ao13 y808.length co13) y808) := ⟨by (with_reducible repeat (first | apply Kd.R_alloc | apply Kd.R_drewN | apply Kd.R_drew)); exact Kd.R_mono (Kd.R_far (p := ⟨gb11, 1, none⟩) (Kd.R_far (p := ⟨gb11, 0, none⟩) (Kd.R_types HO810.out BK11.out ψ13) (fun _ hk => hk.2) (.slice Ao13 y808.length co13)) (fun _ hk => hk.2) (.slice none 0 0)) (fun _ hk => trivial)⟩
     have n1_ : Aside0 (((w14.setCell ⟨gb11, 0, none⟩ (.slice Ao13 y808.length co13)).setCell ⟨gb11, 1, none⟩ (.slice none 0 0)).heap[gb10]? = some (.cells #[.slice none 0 0, .slice none 0 0] 38 (0, 0))) := ⟨ψ99⟩
     have n2_ : Aside0 (((w14.setCell ⟨gb11, 0, none⟩ (.slice Ao13 y808.length co13)).setCell ⟨gb11, 1, none⟩ (.slice none 0 0)).heap[gb11]? = some (.cells #[.slice Ao13 y808.length co13, .slice none 0 0] 38 (0, 0))) := ⟨by (with_reducible repeat (first | refine blk_drewN ?_ _ | refine blk_drew ?_ | refine blk_alloc ?_ _)); refine blk_put (cs := #[.slice Ao13 y808.length co13, .slice none 0 0]) ?_ 1 _ rfl; (with_reducible repeat (first | refine blk_drewN ?_ _ | refine blk_drew ?_ | refine blk_alloc ?_ _)); refine blk_put (cs := #[.slice none 0 0, .slice none 0 0]) ?_ 0 _ rfl; (with_reducible repeat (first | refine blk_drewN ?_ _ | refine blk_drew ?_ | refine blk_alloc ?_ _)); exact BK11.out⟩
     have n3_ : Aside0 (Below w.heap.size w ((w14.setCell ⟨gb11, 0, none⟩ (.slice Ao13 y808.length co13)).setCell ⟨gb11, 1, none⟩ (.slice none 0 0))) := ⟨ψ25⟩
     (try clear HO810)
     (try clear BK10)
     (try clear BK11)
     (try clear HB)
     generalize ((w14.setCell ⟨gb11, 0, none⟩ (.slice Ao13 y808.length co13)).setCell ⟨gb11, 1, none⟩ (.slice none 0 0)) = w17 at n0_ n1_ n2_ n3_ ⊢
     have HO810 := n0_
     have BK10 := n1_
     have BK11 := n2_
     have HB := n3_
     clear n0_ n1_ n2_ n3_
     have q := n4_ (Kd.R_drew HO810.out) (blk_drew BK10.out) (blk_drew BK11.out) (below_drew1 HB.out)
     clear HO810 BK10 BK11 HB
     obtain ⟨HO810, BK10, BK11, HB⟩ := q
     have p813 : 0 ≤ (0 : Int) := ψ21
     have q813 : 0 < (l0.length : Int) := ψ125
     obtain ⟨ad813, A813_1, c813_1, A813_2, c813_2, A813_4, c813_4, A813_5, c813_5, e813, hx813_0, hx813_1, hx813_2, hx813_3, hx813_4, hx813_5, hl813_1, hi813_1, hl813_2, hi813_2, hl813_4, hi813_4, hl813_5, hi813_5⟩ := at_T36 HR0.out 0 p813 q813
     have hw813_5 := hx813_5
     (try rw [show ((0 : Int)).toNat = 0 from rfl] at hw813_5)
     (try rw [show 0 * 6 = 0 from rfl] at hw813_5)
     (try rw [Addr.add_zero'] at hw813_5)
     have hw813_4 := hx813_4
     (try rw [show ((0 : Int)).toNat = 0 from rfl] at hw813_4)
     (try rw [show 0 * 6 = 0 from rfl] at hw813_4)
     (try rw [Addr.add_zero'] at hw813_4)
     have hw813_3 := hx813_3
     (try rw [show ((0 : Int)).toNat = 0 from rfl] at hw813_3)
     (try rw [show 0 * 6 = 0 from rfl] at hw813_3)
     (try rw [Addr.add_zero'] at hw813_3)
     have hw813_2 := hx813_2
     (try rw [show ((0 : Int)).toNat = 0 from rfl] at hw813_2)
     (try rw [show 0 * 6 = 0 from rfl] at hw813_2)
     (try rw [Addr.add_zero'] at hw813_2)
     have hw813_1 := hx813_1
     (try rw [show ((0 : Int)).toNat = 0 from rfl] at hw813_1)
     (try rw [show 0 * 6 = 0 from rfl] at hw813_1)
     (try rw [Addr.add_zero'] at hw813_1)
     have hw813_0 := hx813_0
     (try rw [show ((0 : Int)).toNat = 0 from rfl] at hw813_0)
     (try rw [show 0 * 6 = 0 from rfl] at hw813_0)
     (try rw [Addr.add_zero'] at hw813_0)
     cases e813
     have qi813 : (0 < l0.length) = True := eq_true ψ21
     (try rw [show ((0 : Int)).toNat = 0 from rfl] at hx813_0)
     (try rw [show 0 * 6 = 0 from rfl] at hx813_0)
     (try rw [Addr.add_zero'] at hx813_0)
     (try rw [show ((0 : Int)).toNat = 0 from rfl] at hx813_1)
     (try rw [show 0 * 6 = 0 from rfl] at hx813_1)
     (try rw [Addr.add_zero'] at hx813_1)
     (try rw [show ((0 : Int)).toNat = 0 from rfl] at hx813_2)
     (try rw [show 0 * 6 = 0 from rfl] at hx813_2)
     (try rw [Addr.add_zero'] at hx813_2)
     (try rw [show ((0 : Int)).toNat = 0 from rfl] at hx813_3)
     (try rw [show 0 * 6 = 0 from rfl] at hx813_3)
     (try rw [Addr.add_zero'] at hx813_3)
     (try rw [show ((0 : Int)).toNat = 0 from rfl] at hx813_4)
     (try rw [show 0 * 6 = 0 from rfl] at hx813_4)
     (try rw [Addr.add_zero'] at hx813_4)
     (try rw [show ((0 : Int)).toNat = 0 from rfl] at hx813_5)
     (try rw [show 0 * 6 = 0 from rfl] at hx813_5)
     (try rw [Addr.add_zero'] at hx813_5)
     replace hx813_0 := cB HB hx813_0
     replace hx813_1 := cB HB hx813_1
     replace hx813_2 := cB HB hx813_2
     replace hx813_3 := cB HB hx813_3
     replace hx813_4 := cB HB hx813_4
     replace hx813_5 := cB HB hx813_5
     have q := n8_ hi813_1 hl813_1 hi813_2 hl813_2 hi813_4 hl813_4 hi813_5 hl813_5
     clear hi813_1 hl813_1 hi813_2 hl813_2 hi813_4 hl813_4 hi813_5 hl813_5
     obtain ⟨HR813_1, HC813_1, HR813_2, HC813_2, HR813_4, HC813_4, HR813_5, HC813_5⟩ := q
     replace p813 := eq_true p813
     replace q813 := eq_true q813
     refine start_ (n := 9) (S := fun w' => w'.cell? ⟨gb11, 0, none⟩ = some (.slice Ao13 y808.length co13) ∧ w'.cell? ⟨gb11, 1, none⟩ = some (.slice none 0 0) ∧ w'.cell? ad813 = some (.int .i64 ((rd_T36 l0 0).f0)) ∧ w'.cell? ⟨ad813.block, ad813.off + 1, none⟩ = some (.slice A813_1 ((rd_T36 l0 0).f1).length c813_1) ∧ w'.cell? ⟨ad813.block, ad813.off + 2, none⟩ = some (.slice A813_2 ((rd_T36 l0 0).f2).length c813_2) ∧ w'.cell? ⟨ad813.block, ad813.off + 3, none⟩ = some (.int .i64 ((rd_T36 l0 0).f3)) ∧ w'.cell? ⟨ad813.block, ad813.off + 4, none⟩ = some (.slice A813_4 ((rd_T36 l0 0).f4).length c813_4) ∧ w'.cell? ⟨ad813.block, ad813.off + 5, none⟩ = some (.slice A813_5 ((rd_T36 l0 0).f5).length c813_5)) (ds := [8]) #[false, false, false, false, false, false, false, false, false] ψ12 rfl rfl ⟨(blk_cell BK11.out 0).trans rfl, (blk_cell BK11.out 1).trans rfl, ((HB.out.cell (World.block_lt_of_cell? w _ hw813_0)).trans hw813_0), ((HB.out.cell (World.block_lt_of_cell? w _ hw813_1)).trans hw813_1), ((HB.out.cell (World.block_lt_of_cell? w _ hw813_2)).trans hw813_2), ((HB.out.cell (World.block_lt_of_cell? w _ hw813_3)).trans hw813_3), ((HB.out.cell (World.block_lt_of_cell? w _ hw813_4)).trans hw813_4), ((HB.out.cell (World.block_lt_of_cell? w _ hw813_5)).trans hw813_5)⟩ (fun hHeld => ?_); refine with_tabW impl_startAt.tab2 impl_startAt.bits2 (fun HT_ HW_ => ?_)
     generalize w17.drew = w18 at HO810 BK10 BK11 HB HR813_1 HR813_2 HR813_4 HR813_5 hx813_0 hx813_1 hx813_2 hx813_3 hx813_4 hx813_5 hHeld ⊢
     refine rP 0 16 ?_; refine rP 2 18 ?_; refine rP 3 19 ?_; refine rP 4 20 ?_; refine rT 1 17 ?_; refine rT 5 21 ?_
     refine one_ (i := 6) (N := some 22) #[true, true, true, true, true, true, true, false, false] rfl rfl (one_of HT_.out ψ12) ψ13 (fun K hK => ?_)
     refine Kd.R_append_zeros_step (Kd.int .i64) (w0 := w) w.heap.size ψ14 (.tmp 17) (.tmp 21) 23 2 2 (.int .i64 0) 8 rfl Try.underlying23 Try.underlying2 info2 rfl ψ13 ψ21 (.slice Ao13 y808.length co13) y808 0 ((rd_T36 l0 0).f3 : Int) (fun _ => True) rfl rfl rfl ?aF ?aO (of_decide_eq_true ψ5) ?aB ?aS ?aL ?_
     (case aB => exact ψ25)
     (case aF => exact (fun _ _ => trivial))
     (case aO => exact (have hZ := HO810; kR_))
     (case aS => exact (below_size ψ25))
     (case aL => have := LMc7.out; omega)
     intro v815 w19 ho hb hg hat
     rw [← Ny814.out] at ho
     have q := n4_ (blk_grown (g := gb10) ψ10 hg (Kd.R_ne HO810.out BK10.out ψ13)) (blk_grown (g := gb11) ψ24 hg (Kd.R_ne HO810.out BK11.out ψ13)) (hb) (ho)
     clear BK10 BK11 HB HO810
     obtain ⟨BK10, BK11, HB, HO816⟩ := q
     clear ho hb hg hat
     obtain ⟨Ao20, co20, eo20⟩ := Kd.R_slice HO816.out
     (first | subst eo20 | (injection eo20 with f1_ f2_ f3_; have f4_ := f1_.symm; have f5_ := f3_.symm; clear f1_ f2_ f3_; subst f4_; subst f5_))
     refine hK.out _ _ ⟨(blk_cell BK11.out 0).trans rfl, (blk_cell BK11.out 1).trans rfl, ((HB.out.cell (World.block_lt_of_cell? w _ hw813_0)).trans hw813_0), ((HB.out.cell (World.block_lt_of_cell? w _ hw813_1)).trans hw813_1), ((HB.out.cell (World.block_lt_of_cell? w _ hw813_2)).trans hw813_2), ((HB.out.cell (World.block_lt_of_cell? w _ hw813_3)).trans hw813_3), ((HB.out.cell (World.block_lt_of_cell? w _ hw813_4)).trans hw813_4), ((HB.out.cell (World.block_lt_of_cell? w _ hw813_5)).trans hw813_5)⟩ (fun hHeld => ?_)
     clear hK K
     refine rN 22 ?_; refine rP 7 23 ?_
     refine last_ (i := 8) (N := none) #[true, true, true, true, true, true, true, true, true] rfl rfl (one_of HT_.out ψ12) ψ13 (fun K hK => ?_)
     have hs21 : w19.cell? ⟨gb11, 0, none⟩ = some (.slice Ao13 y808.length co13) := (blk_cell BK11.out 0).trans rfl
     have hfs21 := blk_frozen BK11.out 0
     have hns21_0 := NB10_11.out
     have hms21_0 := NB11_10.out
     refine skip_ (w1 := ?_) ψ14 rfl ?_ ?_
     rotate_left
     ·go_simp
      rfl
     refine hK.out _ _ ?_
     clear hK K
     refine done_ (done_of HT_.out ψ12) ?_
     have p817 : 0 ≤ (0 : Int) := ψ21
     have q817 : 0 < (l0.length : Int) := ψ125
     obtain ⟨ad817, A817_1, c817_1, A817_2, c817_2, A817_4, c817_4, A817_5, c817_5, e817, hx817_0, hx817_1, hx817_2, hx817_3, hx817_4, hx817_5, hl817_1, hi817_1, hl817_2, hi817_2, hl817_4, hi817_4, hl817_5, hi817_5⟩ := at_T36 HR0.out 0 p817 q817
     obtain rfl : ad813 = ad817 := (by injection e817)
     have qi817 : (0 < l0.length) = True := eq_true ψ21
     (try rw [show ((0 : Int)).toNat = 0 from rfl] at hx817_0)
     (try rw [show 0 * 6 = 0 from rfl] at hx817_0)
     (try rw [Addr.add_zero'] at hx817_0)
     (try rw [show ((0 : Int)).toNat = 0 from rfl] at hx817_1)
     (try rw [show 0 * 6 = 0 from rfl] at hx817_1)
     (try rw [Addr.add_zero'] at hx817_1)
     (try rw [show ((0 : Int)).toNat = 0 from rfl] at hx817_2)
     (try rw [show 0 * 6 = 0 from rfl] at hx817_2)
     (try rw [Addr.add_zero'] at hx817_2)
     (try rw [show ((0 : Int)).toNat = 0 from rfl] at hx817_3)
     (try rw [show 0 * 6 = 0 from rfl] at hx817_3)
     (try rw [Addr.add_zero'] at hx817_3)
     (try rw [show ((0 : Int)).toNat = 0 from rfl] at hx817_4)
     (try rw [show 0 * 6 = 0 from rfl] at hx817_4)
     (try rw [Addr.add_zero'] at hx817_4)
     (try rw [show ((0 : Int)).toNat = 0 from rfl] at hx817_5)
     (try rw [show 0 * 6 = 0 from rfl] at hx817_5)
     (try rw [Addr.add_zero'] at hx817_5)
     have hn817_0 : ad813.block ≠ gb11 := (by first | exact Nat.ne_of_lt (Nat.lt_of_lt_of_le ψ100 GW11.out) | exact Nat.ne_of_lt (Nat.lt_of_lt_of_le ψ100 GE11.out))
     replace hx817_0 := cB HB hx817_0
     replace hx817_1 := cB HB hx817_1
     replace hx817_2 := cB HB hx817_2
     replace hx817_3 := cB HB hx817_3
     replace hx817_4 := cB HB hx817_4
     replace hx817_5 := cB HB hx817_5
     have q := n8_ hi817_1 hl817_1 hi817_2 hl817_2 hi817_4 hl817_4 hi817_5 hl817_5
     clear hi817_1 hl817_1 hi817_2 hl817_2 hi817_4 hl817_4 hi817_5 hl817_5
     obtain ⟨HR817_1, HC817_1, HR817_2, HC817_2, HR817_4, HC817_4, HR817_5, HC817_5⟩ := q
     replace hx817_0 := (cell_far (p := ⟨gb11, 0, none⟩) ψ101 (.slice Ao20 y814.length co20)).trans hx817_0
     replace hx817_1 := (cell_far (p := ⟨gb11, 0, none⟩) ψ101 (.slice Ao20 y814.length co20)).trans hx817_1
     replace hx817_2 := (cell_far (p := ⟨gb11, 0, none⟩) ψ101 (.slice Ao20 y814.length co20)).trans hx817_2
     replace hx817_3 := (cell_far (p := ⟨gb11, 0, none⟩) ψ101 (.slice Ao20 y814.length co20)).trans hx817_3
     replace hx817_4 := (cell_far (p := ⟨gb11, 0, none⟩) ψ101 (.slice Ao20 y814.length co20)).trans hx817_4
     replace hx817_5 := (cell_far (p := ⟨gb11, 0, none⟩) ψ101 (.slice Ao20 y814.length co20)).trans hx817_5
     clear hn817_0
     replace p817 := eq_true p817
     replace q817 := eq_true q817
     try go_wp2
     go_loopg [29] k (fun kq v29 w' => ∃ (x29_1 : Int) (x812001_1 : List (List Int)) (u812001 : Value), v29 = .int .i64 x29_1 ∧ Aside0 (impl_startAt.l0 kq ((rd_T36 l0 0).f4) (((rd_T36 l0 0).f4).length : Int) x29_1 y814 x812001_1 = some (r1, r2)) ∧ Aside0 (kq ≤ k) ∧ Aside0 (Kd.R (Kd.int .i64) 2 w' w.heap.size (fun _ => True) (.slice Ao20 y814.length co20) y814) ∧ Aside0 (Kd.S (Kd.slice 2 (Kd.int .i64)) 23 w' w.heap.size (fun k_ => some k_ ≠ ((.slice Ao20 y814.length co20) : Value).ownBlock) u812001 x812001_1) ∧ Aside0 (w'.heap[gb10]? = some (.cells #[(.slice none 0 0), (.slice none 0 0)] 38 (0, 0))) ∧ Aside0 (w'.heap[gb11]? = some (.cells #[(.slice Ao20 y814.length co20), u812001] 38 (0, 0))) ∧ Aside0 (Below w.heap.size w w'))
     case atStart => exact ⟨(0), (([] : List (List Int))), (.slice none 0 0), ψ7, H', ⟨Nat.le_refl _⟩, ⟨by (with_reducible repeat (first | apply Kd.R_alloc | apply Kd.R_drewN | apply Kd.R_drew)); exact Kd.R_mono (Kd.R_far (p := ⟨gb11, 0, none⟩) (Kd.R_types HO816.out BK11.out ψ13) (fun _ hk => hk.2) (.slice Ao20 y814.length co20)) (fun _ hk => trivial)⟩, ⟨ψ102⟩, ⟨ψ63⟩, ⟨by (with_reducible repeat (first | refine blk_drewN ?_ _ | refine blk_drew ?_ | refine blk_alloc ?_ _)); refine blk_put (cs := #[.slice Ao13 y808.length co13, .slice none 0 0]) ?_ 0 _ rfl; (with_reducible repeat (first | refine blk_drewN ?_ _ | refine blk_drew ?_ | refine blk_alloc ?_ _)); exact BK11.out⟩, ⟨ψ25⟩⟩
     case round =>
      clear H'
      try clear c1
      try clear c2
      try clear c4
      try clear c5
      try clear c6
      try clear c6b0
      try clear c6b1
      try clear c7
      try clear y16_0 y16_1 u16_0 u16_1
      try clear hx813_0
      try clear hx813_1
      try clear hx813_2
      try clear hx813_3
      try clear hx813_4
      try clear hx813_5
      try clear hx817_0
      try clear hx817_1
      try clear hx817_2
      try clear hx817_3
      try clear hx817_4
      try clear hx817_5
      try clear p813
      try clear p817
      try clear q813
      try clear q817
      obtain ⟨x29_1, x812001_1, u812001, rfl, HA, HK1, HO_812000, HO_812001, BK10, BK11, HB⟩ := hrel
      cases gk with
      | zero => exact absurd HA.out (by simp [impl_startAt.l0])
      | succ k1 =>
       have H := HA.out
       clear HA
       simp only [impl_startAt.l0] at H
       replace H := ifD H; rcases H with ⟨c22b0, H⟩ | ⟨c22b0, H⟩
       ·replace H := ifN H; obtain ⟨c23b0, H⟩ := H
        replace H := ifN H; obtain ⟨c24b0, H⟩ := H
        by_cases c25 : 0 ≤ (rd ((rd_T36 l0 0).f4) x29_1)
        ·rw [if_pos c25] at H
         have c25b0 := eq_true c25
         have c25b1 : decide (0 ≤ (rd ((rd_T36 l0 0).f4) x29_1)) = true := decide_eq_true c25
         clear c25
         by_cases c26 : (rd ((rd_T36 l0 0).f4) x29_1 : Int).toNat ≤ 35184372088832
         ·rw [if_pos c26] at H
          have c26b0 := eq_true c26
          have c26b1 : decide ((rd ((rd_T36 l0 0).f4) x29_1 : Int).toNat ≤ 35184372088832) = true := decide_eq_true c26
          clear c26
          obtain ⟨y820, hy820⟩ : ∃ y_ : List Int, y_ = (List.replicate (rd ((rd_T36 l0 0).f4) x29_1 : Int).toNat 0) := ⟨_, rfl⟩
          replace H : (if x812001_1.length < 5864062014805 then (impl_startAt.l0 k1 ((rd_T36 l0 0).f4) (((rd_T36 l0 0).f4).length : Int) (wrap64 (x29_1 + 1)) y814 (x812001_1 ++ [y820])) else (none)) = some (r1, r2) := by first | (rw [hy820]; with_reducible exact H) | (have H2_ := (Option.bind_some _ _).symm.trans H; rw [hy820]; with_reducible exact H2_) | (have H2_ := (Option.bind_some _ _).symm.trans H; with_reducible exact H2_) | with_reducible exact H | (rw [hy820]; exact H) | exact H
          have Ny820 := Aside0.mk hy820
          clear hy820
          by_cases c27 : x812001_1.length < 5864062014805
          ·rw [if_pos c27] at H
           have LMc27 := Aside0.mk c27
           clear c27
           obtain ⟨y823, hy823⟩ : ∃ y_ : List (List Int), y_ = (x812001_1 ++ [y820]) := ⟨_, rfl⟩
           replace H : (impl_startAt.l0 k1 ((rd_T36 l0 0).f4) (((rd_T36 l0 0).f4).length : Int) (wrap64 (x29_1 + 1)) y814 y823) = some (r1, r2) := by first | (rw [hy823]; with_reducible exact H) | (have H2_ := (Option.bind_some _ _).symm.trans H; rw [hy823]; with_reducible exact H2_) | (have H2_ := (Option.bind_some _ _).symm.trans H; with_reducible exact H2_) | with_reducible exact H | (rw [hy823]; exact H) | exact H
           have Ny823 := Aside0.mk hy823
           clear hy823
           have H' := Aside0.mk H
           clear H
           have p818 : 0 ≤ (x29_1 : Int) := of_decide_eq_true ψ5
           have q818 : x29_1 < (((rd_T36 l0 0).f4).length : Int) := of_decide_eq_true ψ5
           obtain ⟨ad818, e818, hx818_0⟩ := Kd.at_int HR817_4.out x29_1 p818 q818
           cases e818
           replace hx818_0 := cB HB hx818_0
           replace p818 := eq_true p818
           replace q818 := eq_true q818
           try go_wp2
           have q := n5_ (Kd.R_drew HO_812000.out) (Kd.S_drew HO_812001.out) (blk_drew BK10.out) (blk_drew BK11.out) (below_drew1 HB.out)
           clear HO_812000 HO_812001 BK10 BK11 HB
           obtain ⟨HO_812000, HO_812001, BK10, BK11, HB⟩ := q
           refine start_ (n := 8) (S := fun w' => w'.cell? ⟨gb11, 0, none⟩ = some (.slice Ao20 y814.length co20) ∧ w'.cell? ⟨gb11, 1, none⟩ = some (u812001)) (ds := [7]) #[false, false, false, false, false, false, false, false] ψ12 rfl rfl ⟨(blk_cell BK11.out 0).trans rfl, (blk_cell BK11.out 1).trans rfl⟩ (fun hHeld => ?_); refine with_tabW impl_startAt.tab6 impl_startAt.bits6 (fun HT_ HW_ => ?_)
           generalize wr.drew = w28 at HO_812000 HO_812001 BK10 BK11 HB hHeld ⊢
           refine rP 0 33 ?_; refine rP 2 35 ?_; refine rT 1 34 ?_
           refine one_ (i := 3) (N := some 36) #[true, true, true, true, false, false, false, false] rfl rfl (one_of HT_.out ψ12) ψ13 (fun K hK => ?_)
           refine Kd.R_make_step (Kd.int .i64) _ 2 ψ14 (N := 36) rfl 23 _ _ rfl (rd ((rd_T36 l0 0).f4) x29_1) rfl rfl Try.underlying23 (.int .i64 0) 8 info2 rfl ψ13 ψ21 0 (ok := fun _ => True) (okp := fun _ => True) rfl (fun _ hk => hk) trivial (of_decide_eq_true ψ5) (Nat.le_trans (Nat.mul_le_mul_right _ (of_decide_eq_true ψ5 : (rd ((rd_T36 l0 0).f4) x29_1).toNat ≤ 35184372088832)) ψ21) (Below.refl _ _) (Nat.le_refl _) ?_
           intro v821 w29 ho30 hb hg_ hnew_
           clear hg_ hnew_
           (first | rw [← Ny820.out] at ho30 | (simp only [Int.reduceToNat] at ho30; rw [← Ny820.out] at ho30))
           have q := n6_ (Kd.R_elder' (have hZ := HO_812000; kR_) (Kd.R_base ho30) hb) (Kd.S_elder' (have hZ := HO_812001; kS_) (Kd.R_base ho30) hb) (Kd.R_lower (Kd.R_new' ho30 (Kd.R_lt (have hZ := HO_812000; kR_))) (below_size ψ25)) (blk_below (g := gb10) ψ10 hb) (blk_below (g := gb11) ψ24 hb) (below_step ψ25 hb)
           clear HO_812000 HO_812001 BK10 BK11 HB
           obtain ⟨HO_812000, HO_812001, HO822, BK10, BK11, HB⟩ := q
           clear hb ho30
           obtain ⟨Ao32, co32, eo32⟩ := Kd.R_slice HO822.out
           (first | subst eo32 | (injection eo32 with f1_ f2_ f3_; have f4_ := f1_.symm; have f5_ := f3_.symm; clear f1_ f2_ f3_; subst f4_; subst f5_))
           refine hK.out _ _ ⟨(blk_cell BK11.out 0).trans rfl, (blk_cell BK11.out 1).trans rfl⟩ (fun hHeld => ?_)
           clear hK K
           refine rN 36 ?_
           refine one_ (i := 4) (N := some 37) #[true, true, true, true, true, false, false, false] rfl rfl (one_of HT_.out ψ12) ψ13 (fun K hK => ?_)
           refine value_ (w1 := ?_) (v := ?_) ψ14 rfl ?_ ?_
           rotate_left 2
           ·go_simp
            constructor
            ·rfl
            ·rfl
           refine hK.out _ _ ⟨(blk_cell (blk_alloc BK11.out _) 0).trans rfl, (blk_cell (blk_alloc BK11.out _) 1).trans rfl⟩ (fun hHeld => ?_)
           clear hK K
           refine rN 37 ?_
           refine one_ (i := 5) (N := some 38) #[true, true, true, true, true, true, false, false] rfl rfl (one_of HT_.out ψ12) ψ13 (fun K hK => ?_)
           refine Kd.S_append_step (Kd.slice 2 (Kd.int .i64)) (w0 := w) w.heap.size ψ14 (.tmp 34) (.tmp 37) 27 23 (.slice none 0 0) 24 rfl Try.underlying27 info23 rfl ψ13 ψ21 u812001 x812001_1 y820 [.slice Ao32 y820.length co32] (fun k_ => some k_ ≠ (.slice Ao20 y814.length co20 : Value).ownBlock) (fun k_ => some k_ = (.slice Ao32 y820.length co32 : Value).ownBlock) rfl rfl ?aP (fun k_ hk_ => ((Kd.R_mono (ok' := fun k_ => ((fun k_ => some k_ ≠ (.slice Ao20 y814.length co20 : Value).ownBlock)) k_ ∧ some k_ ≠ (u812001 : Value).ownBlock) (Kd.R_apart' (HO822.out) (Kd.S_typed HO_812001.out) ψ13) (fun k_ hk => ⟨hk.1.2, hk.2⟩))).1 k_ hk_.symm) ?aF ?aO ?aB ?aS ?aL ?_
           (case aP => exact Kd.M_row (Kd.R_mono (Kd.R_tight rfl (Kd.R_mono (ok' := fun k_ => ((fun k_ => some k_ ≠ (.slice Ao20 y814.length co20 : Value).ownBlock)) k_ ∧ some k_ ≠ (u812001 : Value).ownBlock) (Kd.R_apart' (HO822.out) (Kd.S_typed HO_812001.out) ψ13) (fun k_ hk => ⟨hk.1.2, hk.2⟩))) (fun _ h_ => h_)))
           (case aB => exact ψ25)
           (case aF => exact (fun k_ hk => Kd.fresh' (Kd.R_lt (have hZ := HO_812000; kR_)) k_ hk))
           (case aO => exact (by (with_reducible repeat (first | apply Kd.S_alloc | apply Kd.S_drewN | apply Kd.S_drew)); exact Kd.S_mono HO_812001.out (fun k_ hk => ⟨hk.1, fun e_ => hk.2 e_⟩)))
           (case aS => exact (below_size ψ25))
           (case aL => have := LMc27.out; omega)
           intro v824 w31 ho hb hg hat
           rw [← Ny823.out] at ho
           have q := n5_ (Kd.R_over' (have hZ := HO_812000; kR_) (Kd.S_typed (have hZ := HO_812001; kS_)) ψ13 hg) (blk_grown (g := gb10) ψ10 hg (Kd.S_ne HO_812001.out BK10.out ψ13)) (blk_grown (g := gb11) ψ24 hg (Kd.S_ne HO_812001.out BK11.out ψ13)) (hb) (ho)
           clear HO_812000 BK10 BK11 HB HO_812001 HO822
           obtain ⟨HO_812000, BK10, BK11, HB, HO825⟩ := q
           clear ho hb hg hat
           obtain ⟨Ao33, co33, eo33⟩ := Kd.S_slice HO825.out
           (first | subst eo33 | (injection eo33 with f1_ f2_ f3_; have f4_ := f1_.symm; have f5_ := f3_.symm; clear f1_ f2_ f3_; subst f4_; subst f5_))
           refine hK.out _ _ ⟨(blk_cell BK11.out 0).trans rfl, (blk_cell BK11.out 1).trans rfl⟩ (fun hHeld => ?_)
           clear hK K
           refine rN 38 ?_; refine rP 6 39 ?_
           refine last_ (i := 7) (N := none) #[true, true, true, true, true, true, true, true] rfl rfl (one_of HT_.out ψ12) ψ13 (fun K hK => ?_)
           have hs34 : w31.cell? ⟨gb11, 1, none⟩ = some (u812001) := (blk_cell BK11.out 1).trans rfl
           have hfs34 := blk_frozen BK11.out 1
           have hns34_0 := NB10_11.out
           have hms34_0 := NB11_10.out
           refine skip_ (w1 := ?_) ψ14 rfl ?_ ?_
           rotate_left
           ·go_simp
            rfl
           refine hK.out _ _ ?_
           clear hK K
           refine done_ (done_of HT_.out ψ12) ?_
           try go_wp2
           go_roundg k1
           case measure => have := HK1.out; omega
           case rel => exact ⟨(wrap64 (x29_1 + 1)), (y823), (.slice Ao33 y823.length co33), ψ7, H', ⟨ψ8⟩, ⟨by (with_reducible repeat (first | apply Kd.R_alloc | apply Kd.R_drewN | apply Kd.R_drew)); exact Kd.R_mono (Kd.R_far (p := ⟨gb11, 1, none⟩) (Kd.R_types HO_812000.out BK11.out ψ13) (fun _ hk => hk.2) (.slice Ao33 y823.length co33)) (fun _ hk => trivial)⟩, ⟨by (with_reducible repeat (first | apply Kd.S_alloc | apply Kd.S_drewN | apply Kd.S_drew)); exact Kd.S_mono (Kd.S_far (p := ⟨gb11, 1, none⟩) (Kd.S_types HO825.out BK11.out ψ13) (fun _ hk => hk.2) (.slice Ao33 y823.length co33)) (fun _ hk => hk.1)⟩, ⟨ψ63⟩, ⟨by (with_reducible repeat (first | refine blk_drewN ?_ _ | refine blk_drew ?_ | refine blk_alloc ?_ _)); refine blk_put (cs := #[.slice Ao20 y814.length co20, u812001]) ?_ 1 _ rfl; (with_reducible repeat (first | refine blk_drewN ?_ _ | refine blk_drew ?_ | refine blk_alloc ?_ _)); exact BK11.out⟩, ⟨ψ25⟩⟩
          ·rw [if_neg c27] at H
           exact absurd H ψ22
         ·rw [if_neg c26] at H
          exact absurd H ψ22
        ·rw [if_neg c25] at H
         exact absurd H ψ22
       ·simp only [Option.some.injEq, Prod.mk.injEq] at H
        obtain ⟨rfl, rfl⟩ := H
        have hnb35 := NB11_10.out
        have hnc35 := NB10_11.out
        obtain ⟨y36_0, y36_1, u36_0, u36_1⟩ := cells2 BK11.out
        obtain ⟨y37_0, y37_1, u37_0, u37_1⟩ := cells2 BK10.out
        obtain ⟨Ao38, co38, eo38⟩ := Kd.S_slice HO_812001.out
        subst eo38
        go_wp2
        refine bodyPost_ret (results_cell_row rfl _ _ gb10 38 #[.slice Ao20 y814.length co20, .slice Ao38 x812001_1.length co38] (0, 0) _ rfl (by (with_reducible repeat (first | refine blk_drewN ?_ _ | refine blk_drew ?_ | refine blk_alloc ?_ _)); refine blk_put (cs := #[.slice Ao20 y814.length co20, .slice none 0 0]) ?_ 1 _ rfl; (with_reducible repeat (first | refine blk_drewN ?_ _ | refine blk_drew ?_ | refine blk_alloc ?_ _)); refine blk_put (cs := #[.slice none 0 0, .slice none 0 0]) ?_ 0 _ rfl; (with_reducible repeat (first | refine blk_drewN ?_ _ | refine blk_drew ?_ | refine blk_alloc ?_ _)); exact BK10.out) Try.underlying38 rfl ψ12) rfl ?_
        exact ⟨_, _, ψ4, by (with_reducible repeat (first | apply Kd.R_alloc | apply Kd.R_drewN | apply Kd.R_drew)); exact Kd.R_mono (Kd.R_far (p := ⟨gb10, 1, none⟩) (Kd.R_far (p := ⟨gb10, 0, none⟩) (Kd.R_types HO_812000.out BK10.out ψ13) (fun _ hk => hk.2) (.slice Ao20 y814.length co20)) (fun _ hk => hk.2) (.slice Ao38 x812001_1.length co38)) (fun _ hk => trivial), by (with_reducible repeat (first | apply Kd.S_alloc | apply Kd.S_drewN | apply Kd.S_drew)); exact Kd.S_mono (Kd.S_far (p := ⟨gb10, 1, none⟩) (Kd.S_far (p := ⟨gb10, 0, none⟩) (Kd.S_types HO_812001.out BK10.out ψ13) (fun _ hk => hk.2) (.slice Ao20 y814.length co20)) (fun _ hk => hk.2) (.slice Ao38 x812001_1.length co38)) (fun _ hk => hk.1), ψ25⟩
    ·rw [if_neg c7] at H
     exact absurd H ψ22
   ·rw [if_neg c6] at H
    exact absurd H ψ22
  ·rw [if_neg c5] at H
   exact absurd H ψ22
 ·rw [if_neg c4] at H
  exact absurd H ψ22

/-! ### impl_StartOf: function 31 -/
theorem impl_StartOf.box_T36 {w : World} {g : Nat} {x : S36} {A1 : Option Addr} {c1 : Nat} {A2 : Option Addr} {c2 : Nat} {A4 : Option Addr} {c4 : Nat} {A5 : Option Addr} {c5 : Nat} (hb : w.heap[g]? = some (.cells #[.int .i64 x.f0, .slice A1 x.f1.length c1, .slice A2 x.f2.length c2, .int .i64 x.f3, .slice A4 x.f4.length c4, .slice A5 x.f5.length c5] 36 (0, 0))) (l1 : x.f1.length ≤ c1) (g1 : Kd.C k106 w A1 x.f1.length x.f1) (l2 : x.f2.length ≤ c2) (g2 : Kd.C k106 w A2 x.f2.length x.f2) (l4 : x.f4.length ≤ c4) (g4 : Kd.C (Kd.int .i64) w A4 x.f4.length x.f4) (l5 : x.f5.length ≤ c5) (g5 : Kd.C k114 w A5 x.f5.length x.f5) : Kd.C k36 w (some ⟨g, 0, none⟩) ([x] : List S36).length [x] := by
 refine ⟨rfl, show (1 : Nat) ≤ 9223372036854775807 from ψ13, fun _ => ⟨_, rfl, fun j p hj => ?_⟩⟩
 match j, hj with
 | 0, hj =>
  cases hj
  refine ⟨_, rfl, k36_mk w x l1 g1 l2 g2 l4 g4 l5 g5, fun i u hu => ?_⟩
  match i, hu with
  | 0, hu => cases hu; exact (blk_cell hb 0).trans rfl
  | 1, hu => cases hu; exact (blk_cell hb 1).trans rfl
  | 2, hu => cases hu; exact (blk_cell hb 2).trans rfl
  | 3, hu => cases hu; exact (blk_cell hb 3).trans rfl
  | 4, hu => cases hu; exact (blk_cell hb 4).trans rfl
  | 5, hu => cases hu; exact (blk_cell hb 5).trans rfl
  | i + 6, hu => simp at hu
 | j + 1, hj => simp at hj
def impl_StartOf.f (k : Nat) (a0_0 : Int) (l0_1 : List (S106)) (l0_2 : List (S106)) (a0_3 : Int) (l0_4 : List Int) (l0_5 : List (S114)) (l1 : List Int) (l2 : List Int) : Option (List Int × (List (List Int)) × Bool) := (impl_ProgOk.f k a0_0 l0_1 l0_2 a0_3 l0_4 l0_5).bind fun t830 => (if t830 = true then ((impl_within.f k l1 l0_1).bind fun t832 => (if t832 = true then ((impl_within.f k l2 l0_2).bind fun t834 => (if t834 = true then ((impl_startAt.f k [(⟨a0_0, l0_1, l0_2, a0_3, l0_4, l0_5⟩ : S36)] l1 l2).bind fun bt835 => (some (bt835.1, bt835.2, true))) else (some (([] : List Int), ([] : List (List Int)), false)))) else (some (([] : List Int), ([] : List (List Int)), false)))) else (some (([] : List Int), ([] : List (List Int)), false)))
theorem τ75 {P : Prop} (h : P := by
 obtain ⟨rfl, rfl, rfl⟩ := H
 go_enter Try.func31, Try.ntmps31
 go_wp2_with (first | ((with_reducible refine gate_dst (N := 3) rfl ?_); refine bE 3 #[.int .i64 a0_0, .slice A0_1 l0_1.length c0_1, .slice A0_2 l0_2.length c0_2, .int .i64 a0_3, .slice A0_4 l0_4.length c0_4, .slice A0_5 l0_5.length c0_5] 36 ?_; intro gb10 hg w1_ hbox hb; have q := n4_ (below_step ψ25 hb) (hbox) ((ψ115 : w.heap.size ≤ gb10)) ((ψ115 : w.heap.size ≤ gb10)); clear HB; obtain ⟨HB, BK10, GW10, GE10⟩ := q; clear hb hbox hg) | ((with_reducible refine gate_dst (N := 6) rfl ?_); refine bE 6 #[.slice none 0 0, .slice none 0 0] 38 ?_; intro gb11 hg w2_ hbox hb; have q := n7_ (blk_below (g := gb10) ψ10 hb) (below_step ψ25 hb) (hbox) ((ψ115 : w.heap.size ≤ gb11)) ((ψ115 : w.heap.size ≤ gb11)) ((ψ116 : gb10 ≠ gb11)) ((ψ117 : gb11 ≠ gb10)); clear BK10 HB; obtain ⟨BK10, HB, BK11, GW11, GE11, NB10_11, NB11_10⟩ := q; clear hb hbox hg; have hnb1_ := NB10_11.out; have hnc1_ := NB11_10.out; obtain ⟨hczB10_0, hczB10_1, hczB10_2, hczB10_3, hczB10_4, hczB10_5, hfzB10_0, hfzB10_1, hfzB10_2, hfzB10_3, hfzB10_4, hfzB10_5⟩ := cells6 BK10.out) | ((with_reducible refine gate_callee (f := 74) rfl ?_); refine gL 9 Try.func74 #[.agg #[.int .i64 a0_0, .slice A0_1 l0_1.length c0_1, .slice A0_2 l0_2.length c0_2, .int .i64 a0_3, .slice A0_4 l0_4.length c0_4, .slice A0_5 l0_5.length c0_5]] ?_; (with_reducible refine (impl_ProgOk.calls k a0_0 _ _ l0_1 _ _ l0_2 a0_3 _ _ l0_4 _ _ l0_5 _ _ ?_ ?_ ?_ ?_ ?_ ?_ ?_ ?_ A4.out).mono ?_); exact ψ9; exact HC0_1.out; exact ψ3; exact HC0_2.out; exact ψ16; exact HC0_4.out; exact ψ17; exact HC0_5.out; rintro e w3_ ⟨rfl, hb⟩; refine ⟨_, rfl, ?_⟩; have q := n3_ (blk_below (g := gb10) ψ10 hb) (blk_below (g := gb11) ψ24 hb) (below_step ψ25 hb); clear BK10 BK11 HB; obtain ⟨BK10, BK11, HB⟩ := q; (try clear hb); (try (obtain ⟨hczB11_0, hczB11_1, hfzB11_0, hfzB11_1⟩ := cells2 BK11.out)); (try (obtain ⟨hczB10_0, hczB10_1, hczB10_2, hczB10_3, hczB10_4, hczB10_5, hfzB10_0, hfzB10_1, hfzB10_2, hfzB10_3, hfzB10_4, hfzB10_5⟩ := cells6 BK10.out))) | (go_at_call 85; (with_reducible refine (impl_within.calls k _ _ l1 _ _ l0_1 _ _ ?_ ?_ ?_ ?_ A6.out).mono ?_); exact ψ23; exact HC1.out; exact ψ9; exact HC0_1.out; rintro e w' ⟨rfl, ⟨nd, rfl⟩⟩; (try (rw [drewN_self w3_]; generalize hq_ : World.drewN w3_ _ = w3_; have n0_ : Aside0 (w3_.heap[gb10]? = some (.cells #[.int .i64 a0_0, .slice A0_1 l0_1.length c0_1, .slice A0_2 l0_2.length c0_2, .int .i64 a0_3, .slice A0_4 l0_4.length c0_4, .slice A0_5 l0_5.length c0_5] 36 (0, 0))) := ⟨ψ175⟩; have n1_ : Aside0 (w3_.heap[gb11]? = some (.cells #[.slice none 0 0, .slice none 0 0] 38 (0, 0))) := ⟨ψ176⟩; have n2_ : Aside0 (Below w.heap.size w w3_) := ⟨ψ177⟩; clear BK10 BK11 HB hq_; have BK10 := n0_; have BK11 := n1_; have HB := n2_; clear n0_ n1_ n2_; obtain ⟨hczB10_0, hczB10_1, hczB10_2, hczB10_3, hczB10_4, hczB10_5, hfzB10_0, hfzB10_1, hfzB10_2, hfzB10_3, hfzB10_4, hfzB10_5⟩ := cells6 BK10.out; obtain ⟨hczB11_0, hczB11_1, hfzB11_0, hfzB11_1⟩ := cells2 BK11.out)); (try (obtain ⟨hczB11_0, hczB11_1, hfzB11_0, hfzB11_1⟩ := cells2 BK11.out))) | (go_at_call 85; (with_reducible refine (impl_within.calls k _ _ l2 _ _ l0_2 _ _ ?_ ?_ ?_ ?_ A8.out).mono ?_); exact ψ103; exact HC2.out; exact ψ3; exact HC0_2.out; rintro e w' ⟨rfl, ⟨nd, rfl⟩⟩; (try (rw [drewN_self w3_]; generalize hq_ : World.drewN w3_ _ = w3_; have n0_ : Aside0 (w3_.heap[gb10]? = some (.cells #[.int .i64 a0_0, .slice A0_1 l0_1.length c0_1, .slice A0_2 l0_2.length c0_2, .int .i64 a0_3, .slice A0_4 l0_4.length c0_4, .slice A0_5 l0_5.length c0_5] 36 (0, 0))) := ⟨ψ175⟩; have n1_ : Aside0 (w3_.heap[gb11]? = some (.cells #[.slice none 0 0, .slice none 0 0] 38 (0, 0))) := ⟨ψ176⟩; have n2_ : Aside0 (Below w.heap.size w w3_) := ⟨ψ177⟩; clear BK10 BK11 HB hq_; have BK10 := n0_; have BK11 := n1_; have HB := n2_; clear n0_ n1_ n2_; obtain ⟨hczB10_0, hczB10_1, hczB10_2, hczB10_3, hczB10_4, hczB10_5, hfzB10_0, hfzB10_1, hfzB10_2, hfzB10_3, hfzB10_4, hfzB10_5⟩ := cells6 BK10.out; obtain ⟨hczB11_0, hczB11_1, hfzB11_0, hfzB11_1⟩ := cells2 BK11.out)); (try (obtain ⟨hczB11_0, hczB11_1, hfzB11_0, hfzB11_1⟩ := cells2 BK11.out))) | ((with_reducible refine gate_callee (f := 86) rfl ?_); refine gL 28 Try.func86 #[.pointer (some ⟨gb10, 0, none⟩), .slice A1 l1.length c1, .slice A2 l2.length c2] ?_; (with_reducible refine (impl_startAt.calls k _ 1 [(⟨a0_0, l0_1, l0_2, a0_3, l0_4, l0_5⟩ : S36)] _ _ l1 _ _ l2 _ _ _ ?_ ?_ ?_ ?_ ?_ ?_ ?_ A10.out).mono ?_); exact rfl; exact (by refine impl_StartOf.box_T36 ψ10 ?_ ?_ ?_ ?_ ?_ ?_ ?_ ?_; exact HC0_1.out; repeat (first | exact (Kd.C_below HR0_1.out HB.out) | (with_reducible refine Kd.C_alloc ?_ _) | (with_reducible refine Kd.C_drewN ?_ _) | (with_reducible refine Kd.C_drew ?_)); exact HC0_2.out; repeat (first | exact (Kd.C_below HR0_2.out HB.out) | (with_reducible refine Kd.C_alloc ?_ _) | (with_reducible refine Kd.C_drewN ?_ _) | (with_reducible refine Kd.C_drew ?_)); exact HC0_4.out; repeat (first | exact (Kd.C_below HR0_4.out HB.out) | (with_reducible refine Kd.C_alloc ?_ _) | (with_reducible refine Kd.C_drewN ?_ _) | (with_reducible refine Kd.C_drew ?_)); exact HC0_5.out; repeat (first | exact (Kd.C_below HR0_5.out HB.out) | (with_reducible refine Kd.C_alloc ?_ _) | (with_reducible refine Kd.C_drewN ?_ _) | (with_reducible refine Kd.C_drew ?_))); exact Nat.le_refl 1; exact ψ23; exact HC1.out; exact ψ103; exact HC2.out; rintro e w4_ ⟨v836, v839, rfl, ho0, ho1, hb⟩; refine ⟨_, rfl, ?_⟩; have q := n5_ (Kd.R_lower ho0 (below_size ψ25)) (Kd.S_lower ho1 (below_size ψ25)) (blk_below (g := gb10) ψ10 hb) (blk_below (g := gb11) ψ24 hb) (below_step ψ25 hb); clear BK10 BK11 HB; obtain ⟨HO837, HO840, BK10, BK11, HB⟩ := q; (try clear hb); (try clear ho0); (try clear ho1); obtain ⟨Ao1_, co1_, eo1_⟩ := Kd.R_slice HO837.out; subst eo1_; obtain ⟨hczB11_0, hczB11_1, hfzB11_0, hfzB11_1⟩ := cells2 BK11.out; obtain ⟨Ao2_, co2_, eo2_⟩ := Kd.S_slice HO840.out; subst eo2_))
 first | (refine bodyPost_ret (results_ct rfl _ _ gb11 38 #[.slice Ao1_ t835.length co1_, .slice Ao2_ t838.length co2_] (0, 0) _ rfl (by (with_reducible repeat (first | refine blk_drewN ?_ _ | refine blk_drew ?_ | refine blk_alloc ?_ _)); refine blk_put (cs := #[.slice Ao1_ t835.length co1_, .slice none 0 0]) ?_ 1 _ rfl; (with_reducible repeat (first | refine blk_drewN ?_ _ | refine blk_drew ?_ | refine blk_alloc ?_ _)); refine blk_put (cs := #[.slice none 0 0, .slice none 0 0]) ?_ 0 _ rfl; (with_reducible repeat (first | refine blk_drewN ?_ _ | refine blk_drew ?_ | refine blk_alloc ?_ _)); exact BK11.out) Try.underlying38 rfl ψ12) rfl ?_; exact ⟨_, _, ψ4, by (with_reducible repeat (first | apply Kd.R_alloc | apply Kd.R_drewN | apply Kd.R_drew)); exact Kd.R_mono (Kd.R_far (p := ⟨gb11, 1, none⟩) (Kd.R_far (p := ⟨gb11, 0, none⟩) (Kd.R_types HO837.out BK11.out ψ13) (fun _ hk => hk.2) (.slice Ao1_ t835.length co1_)) (fun _ hk => hk.2) (.slice Ao2_ t838.length co2_)) (fun _ hk => trivial), by (with_reducible repeat (first | apply Kd.S_alloc | apply Kd.S_drewN | apply Kd.S_drew)); exact Kd.S_mono (Kd.S_far (p := ⟨gb11, 1, none⟩) (Kd.S_far (p := ⟨gb11, 0, none⟩) (Kd.S_types HO840.out BK11.out ψ13) (fun _ hk => hk.2) (.slice Ao1_ t835.length co1_)) (fun _ hk => hk.2) (.slice Ao2_ t838.length co2_)) (fun _ hk => hk.1), ψ25⟩) | (refine bodyPost_ret (results_ct rfl _ _ gb11 38 #[.slice none 0 0, .slice none 0 0] (0, 0) _ rfl ψ104 Try.underlying38 rfl ψ12) rfl ?_; exact ⟨_, _, ψ4, ψ69, ψ102, ψ25⟩)) : P := h
theorem impl_StartOf.calls (k : Nat) (a0_0 : Int) (A0_1 : Option Addr) (c0_1 : Nat) (l0_1 : List (S106)) (A0_2 : Option Addr) (c0_2 : Nat) (l0_2 : List (S106)) (a0_3 : Int) (A0_4 : Option Addr) (c0_4 : Nat) (l0_4 : List Int) (A0_5 : Option Addr) (c0_5 : Nat) (l0_5 : List (S114)) (A1 : Option Addr) (c1 : Nat) (l1 : List Int) (A2 : Option Addr) (c2 : Nat) (l2 : List Int) (r1 : List Int) (r2 : List (List Int)) (r3 : Bool) (w : World) (hr0_1 : Kd.C k106 w A0_1 l0_1.length l0_1) (hc0_1 : l0_1.length ≤ c0_1) (hr0_2 : Kd.C k106 w A0_2 l0_2.length l0_2) (hc0_2 : l0_2.length ≤ c0_2) (hr0_4 : Kd.C (Kd.int .i64) w A0_4 l0_4.length l0_4) (hc0_4 : l0_4.length ≤ c0_4) (hr0_5 : Kd.C k114 w A0_5 l0_5.length l0_5) (hc0_5 : l0_5.length ≤ c0_5) (hr1 : Kd.C (Kd.int .i64) w A1 l1.length l1) (hc1 : l1.length ≤ c1) (hr2 : Kd.C (Kd.int .i64) w A2 l2.length l2) (hc2 : l2.length ≤ c2) (h : impl_StartOf.f k a0_0 l0_1 l0_2 a0_3 l0_4 l0_5 l1 l2 = some (r1, r2, r3)) :
 Calls Try.prog 31 #[.agg #[.int .i64 a0_0, .slice A0_1 l0_1.length c0_1, .slice A0_2 l0_2.length c0_2, .int .i64 a0_3, .slice A0_4 l0_4.length c0_4, .slice A0_5 l0_5.length c0_5], .slice A1 l1.length c1, .slice A2 l2.length c2] w fun e w' => ∃ v0_ v1_ : Value, e = .returned (.tuple #[.agg #[v0_, v1_], .bool r3]) ∧ Kd.R (Kd.int .i64) 2 w' w.heap.size (fun _ => True) v0_ r1 ∧ Kd.S (Kd.slice 2 (Kd.int .i64)) 23 w' w.heap.size (fun k_ => some k_ ≠ (v0_ : Value).ownBlock) v1_ r2 ∧ Below w.heap.size w w' := by
 have hu36 := Try.underlying36
 have hu38 := Try.underlying38
 have q := n12_ hr0_1 hc0_1 hr0_2 hc0_2 hr0_4 hc0_4 hr0_5 hc0_5 hr1 hc1 hr2 hc2
 clear hr0_1 hc0_1 hr0_2 hc0_2 hr0_4 hc0_4 hr0_5 hc0_5 hr1 hc1 hr2 hc2
 obtain ⟨HR0_1, HC0_1, HR0_2, HC0_2, HR0_4, HC0_4, HR0_5, HC0_5, HR1, HC1, HR2, HC2⟩ := q
 have HB := Aside0.mk (Below.refl w.heap.size w)
 unfold impl_StartOf.f at h
 have H := h
 clear h
 replace H := bS H; obtain ⟨t830, A4, H⟩ := H
 replace H := ifB H; rcases H with ⟨rfl, H⟩ | ⟨rfl, H⟩
 ·replace H := bS H; obtain ⟨t832, A6, H⟩ := H
  replace H := ifB H; rcases H with ⟨rfl, H⟩ | ⟨rfl, H⟩
  ·replace H := bS H; obtain ⟨t834, A8, H⟩ := H
   replace H := ifB H; rcases H with ⟨rfl, H⟩ | ⟨rfl, H⟩
   ·replace H := bS H; obtain ⟨⟨t835, t838⟩, A10, H⟩ := H
    simp only [Option.some.injEq, Prod.mk.injEq] at H
    exact τ75
   ·simp only [Option.some.injEq, Prod.mk.injEq] at H
    exact τ75
  ·simp only [Option.some.injEq, Prod.mk.injEq] at H
   exact τ75
 ·simp only [Option.some.injEq, Prod.mk.injEq] at H
  exact τ75

end Go.Proofs.Ytakmkdlkipfnhaa.PCore

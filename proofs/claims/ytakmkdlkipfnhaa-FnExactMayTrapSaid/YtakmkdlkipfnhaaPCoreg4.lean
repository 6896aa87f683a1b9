/- The walks of the functions that the laws come to, part 4: turned out of the kit's print, and mended where that fell. -/
import Derived.Test.YtakmkdlkipfnhaaPCoreg
import Derived.Test.YtakmkdlkipfnhaaPCoreg3
namespace Go.Proofs.Ytakmkdlkipfnhaa.PCore
open Go.RowKit Go.Proofs.YtakmkdlkipfnhaaW.PrintWords Go.Proofs.YtakmkdlkipfnhaaW.PrintLast Go.Proofs.YtakmkdlkipfnhaaW.PrintMore
attribute [local go_sem] max2_int min2_int max_two min_two max_three min_three max_four min_four   -- for this text's walks alone
set_option linter.unusedVariables false
set_option maxHeartbeats 8000000
set_option maxRecDepth 100000
set_option linter.unusedSimpArgs false

theorem ψ37 {P : Prop} (h : P := by (with_reducible repeat (first | refine blk_drewN ?_ _ | refine blk_drew ?_ | refine blk_alloc ?_ _)); refine blk_put (cs := #[.int .i64 a0_0, .int .i64 0]) ?_ 1 _ rfl; (with_reducible repeat (first | refine blk_drewN ?_ _ | refine blk_drew ?_ | refine blk_alloc ?_ _)); refine blk_put (cs := #[.int .i64 0, .int .i64 0]) ?_ 0 _ rfl; (with_reducible repeat (first | refine blk_drewN ?_ _ | refine blk_drew ?_ | refine blk_alloc ?_ _)); refine blk_far ?_ NB11_12.out _; (with_reducible repeat (first | refine blk_drewN ?_ _ | refine blk_drew ?_ | refine blk_alloc ?_ _)); refine blk_far ?_ NB11_12.out _; (with_reducible repeat (first | refine blk_drewN ?_ _ | refine blk_drew ?_ | refine blk_alloc ?_ _)); exact BK11.out) : P := h
theorem ψ38 {P : Prop} (h : P := by rw [hw]; exact below_set (below_set (HB.out) GB10.out) GB10.out) : P := h
theorem ψ43 {P : Prop} (h : P := by first | exact ⟨_, _, _, (Kd.R_slice HO363.out).choose_spec.choose_spec⟩ | exact ⟨_, _, _, (Kd.R_slice (Kd.S_R HO363.out)).choose_spec.choose_spec⟩ | exact ⟨_, _, _, (Kd.R_slice HO366.out).choose_spec.choose_spec⟩ | exact ⟨_, _, _, (Kd.R_slice (Kd.S_R HO366.out)).choose_spec.choose_spec⟩) : P := h
theorem ψ122 {P : Prop} (h : P := by (with_reducible repeat (first | apply Kd.R_alloc | apply Kd.R_drewN | apply Kd.R_drew)); exact (Kd.R_mono (Kd.R_far (p := ⟨gb12, 2, none⟩) (Kd.R_types HO349.out BK12.out (ψ13)) (fun _ hk => hk.2) (.slice Ao13 t347.length co13)) (fun _ h_ => h_.1))) : P := h
/-! ### spec_ProgOk: function 67 -/
def spec_ProgOk.f (k : Nat) (a0_0 : Int) (l0_1 : List (S106)) (l0_2 : List (S106)) (a0_3 : Int) (l0_4 : List Int) (l0_5 : List (S114)) : Option (Bool) := (spec_CodeOf.f k a0_0 l0_1 l0_2 a0_3 l0_4 l0_5).bind fun t287 => (some (t287 == 0))
theorem spec_ProgOk.calls (k : Nat) (a0_0 : Int) (A0_1 : Option Addr) (c0_1 : Nat) (l0_1 : List (S106)) (A0_2 : Option Addr) (c0_2 : Nat) (l0_2 : List (S106)) (a0_3 : Int) (A0_4 : Option Addr) (c0_4 : Nat) (l0_4 : List Int) (A0_5 : Option Addr) (c0_5 : Nat) (l0_5 : List (S114)) (r : Bool) (w : World) (hr0_1 : Kd.C k106 w A0_1 l0_1.length l0_1) (hc0_1 : l0_1.length ≤ c0_1) (hr0_2 : Kd.C k106 w A0_2 l0_2.length l0_2) (hc0_2 : l0_2.length ≤ c0_2) (hr0_4 : Kd.C (Kd.int .i64) w A0_4 l0_4.length l0_4) (hc0_4 : l0_4.length ≤ c0_4) (hr0_5 : Kd.C k114 w A0_5 l0_5.length l0_5) (hc0_5 : l0_5.length ≤ c0_5) (h : spec_ProgOk.f k a0_0 l0_1 l0_2 a0_3 l0_4 l0_5 = some r) :
 Calls Try.prog 67 #[.agg #[.int .i64 a0_0, .slice A0_1 l0_1.length c0_1, .slice A0_2 l0_2.length c0_2, .int .i64 a0_3, .slice A0_4 l0_4.length c0_4, .slice A0_5 l0_5.length c0_5]] w fun e w' => e = .returned (.bool r) ∧ Below w.heap.size w w' := by
 have hu36 := Try.underlying36
 have q := n8_ hr0_1 hc0_1 hr0_2 hc0_2 hr0_4 hc0_4 hr0_5 hc0_5
 clear hr0_1 hc0_1 hr0_2 hc0_2 hr0_4 hc0_4 hr0_5 hc0_5
 obtain ⟨HR0_1, HC0_1, HR0_2, HC0_2, HR0_4, HC0_4, HR0_5, HC0_5⟩ := q
 have HB := Aside0.mk (Below.refl w.heap.size w)
 unfold spec_ProgOk.f at h
 have H := h
 clear h
 replace H := bS H; obtain ⟨t287, A2, H⟩ := H
 obtain rfl := Option.some.inj H
 go_enter Try.func67, Try.ntmps67
 go_wp2_with (first | ((with_reducible refine gate_dst (N := 1) rfl ?_); refine bE 1 #[.int .i64 a0_0, .slice A0_1 l0_1.length c0_1, .slice A0_2 l0_2.length c0_2, .int .i64 a0_3, .slice A0_4 l0_4.length c0_4, .slice A0_5 l0_5.length c0_5] 36 ?_; intro gb10 hg w3 hbox hb; have q := n4_ (below_step ψ2 hb) (hbox) ((ψ113 : w.heap.size ≤ gb10)) ((ψ113 : w.heap.size ≤ gb10)); clear HB; obtain ⟨HB, BK10, GW10, GE10⟩ := q; clear hb hbox hg; obtain ⟨y4_0, y4_1, y4_2, y4_3, y4_4, y4_5, u4_0, u4_1, u4_2, u4_3, u4_4, u4_5⟩ := cells6 BK10.out) | ((with_reducible refine gate_callee (f := 108) rfl ?_); refine gL 4 Try.func108 #[.agg #[.int .i64 a0_0, .slice A0_1 l0_1.length c0_1, .slice A0_2 l0_2.length c0_2, .int .i64 a0_3, .slice A0_4 l0_4.length c0_4, .slice A0_5 l0_5.length c0_5]] ?_; (with_reducible refine (spec_CodeOf.calls k a0_0 _ _ l0_1 _ _ l0_2 a0_3 _ _ l0_4 _ _ l0_5 _ _ ?_ ?_ ?_ ?_ ?_ ?_ ?_ ?_ A2.out).mono ?_); exact ψ9; exact HC0_1.out; exact ψ3; exact HC0_2.out; exact ψ16; exact HC0_4.out; exact ψ17; exact HC0_5.out; rintro e w5 ⟨rfl, hb⟩; refine ⟨_, rfl, ?_⟩; have q := n2_ (blk_below (g := gb10) ψ10 hb) (below_step ψ2 hb); clear BK10 HB; obtain ⟨BK10, HB⟩ := q; (try clear hb)))
 go_ret
 exact ⟨ψ4, ψ2⟩

/-! ### laws_toInt64S: function 30 -/
def laws_toInt64S.l0 : Nat → List Int → List Int → Int → Option (List Int)
 | 0, _, _, _ => none
 | k + 1, x0, x3, x4 => if x4 < (x0.length : Int) then (if 0 ≤ x4 then (if x4 < (x3.length : Int) then (laws_toInt64S.l0 k x0 (x3.set (x4 : Int).toNat (rd x0 x4)) (wrap64 (x4 + 1))) else (none)) else (none)) else (some x3)
def laws_toInt64S.f (k : Nat) (l0 : List Int) : Option (List Int) := if 0 ≤ (l0.length : Int) then (if ((l0.length : Int) : Int).toNat ≤ 35184372088832 then (laws_toInt64S.l0 k l0 (List.replicate ((l0.length : Int) : Int).toNat 0) 0) else (none)) else (none)
theorem laws_toInt64S.calls (k : Nat) (A0 : Option Addr) (c0 : Nat) (l0 : List Int) (r : List Int) (w : World) (hr0 : Kd.C (Kd.int .i64) w A0 l0.length l0) (hc0 : l0.length ≤ c0) (h : laws_toInt64S.f k l0 = some r) :
 Calls Try.prog 30 #[.slice A0 l0.length c0] w fun e w' => ∃ v0_ : Value, e = .returned (v0_) ∧ Kd.R (Kd.int .i64) 2 w' w.heap.size (fun _ => True) v0_ r ∧ Below w.heap.size w w' := by
 have q := n2_ hr0 hc0
 clear hr0 hc0
 obtain ⟨HR0, HC0⟩ := q
 have HB := Aside0.mk (Below.refl w.heap.size w)
 unfold laws_toInt64S.f at h
 have H := h
 clear h
 by_cases c2 : 0 ≤ (l0.length : Int)
 ·rw [if_pos c2] at H
  have c2b0 := eq_true c2
  have c2b1 : decide (0 ≤ (l0.length : Int)) = true := decide_eq_true c2
  clear c2
  by_cases c3 : ((l0.length : Int) : Int).toNat ≤ 35184372088832
  ·rw [if_pos c3] at H
   have c3b0 := eq_true c3
   have c3b1 : decide (((l0.length : Int) : Int).toNat ≤ 35184372088832) = true := decide_eq_true c3
   clear c3
   obtain ⟨y310, hy310⟩ : ∃ y_ : List Int, y_ = (List.replicate ((l0.length : Int) : Int).toNat 0) := ⟨_, rfl⟩
   replace H : (laws_toInt64S.l0 k l0 y310 0) = some r := by first | (rw [hy310]; with_reducible exact H) | (have H2_ := (Option.bind_some _ _).symm.trans H; rw [hy310]; with_reducible exact H2_) | (have H2_ := (Option.bind_some _ _).symm.trans H; with_reducible exact H2_) | with_reducible exact H | (rw [hy310]; exact H) | exact H
   have Ny310 := Aside0.mk hy310
   clear hy310
   have H' := Aside0.mk H
   clear H
   go_enter Try.func30, Try.ntmps30
   go_wp2_with (first | ((with_reducible refine gate_dst (N := 7) rfl ?_); refine Kd.R_make (Kd.int .i64) _ 2 rfl (N := 7) rfl 23 _ _ rfl (l0.length : Int) rfl rfl Try.underlying23 (.int .i64 0) 8 info2 rfl ψ13 ψ21 0 (ok := fun _ => True) (okp := fun _ => True) rfl (fun _ hk => hk) trivial (of_decide_eq_true ψ5) (Nat.le_trans (Nat.mul_le_mul_right _ (of_decide_eq_true ψ5 : (l0.length : Int).toNat ≤ 35184372088832)) ψ21) (Below.refl _ _) (Nat.le_refl _) ?_; intro v311 w4 ho5 hb hg_ hnew_; clear hg_ hnew_; (first | rw [← Ny310.out] at ho5 | (simp only [Int.reduceToNat] at ho5; rw [← Ny310.out] at ho5)); have q := n2_ (Kd.R_lower ho5 (below_size ψ6)) (below_step ψ6 hb); clear HB; obtain ⟨HO312, HB⟩ := q; clear hb ho5))
   go_loopg [4] k (fun kq v4 w' => ∃ (x3_1 : List Int) (x4_1 : Int), v4 = .int .i64 x4_1 ∧ Aside0 (laws_toInt64S.l0 kq l0 x3_1 x4_1 = some r) ∧ Aside0 (kq ≤ k) ∧ Aside0 (Kd.R (Kd.int .i64) 2 w' w.heap.size (fun _ => True) v311 x3_1) ∧ Aside0 (Below w.heap.size w w'))
   case atStart => exact ⟨(y310), (0), ψ7, H', ⟨Nat.le_refl _⟩, ⟨have hZ := HO312; kR_⟩, ⟨ψ6⟩⟩
   case round =>
    clear H'
    try clear c2
    try clear c2b0
    try clear c2b1
    try clear c3
    try clear c3b0
    try clear c3b1
    obtain ⟨x3_1, x4_1, rfl, HA, HK1, HO_3, HB⟩ := hrel
    cases gk with
    | zero => exact absurd HA.out (by simp [laws_toInt64S.l0])
    | succ k1 =>
     have H := HA.out
     clear HA
     simp only [laws_toInt64S.l0] at H
     replace H := ifD H; rcases H with ⟨c6b0, H⟩ | ⟨c6b0, H⟩
     ·replace H := ifN H; obtain ⟨c7b0, H⟩ := H
      replace H := ifN H; obtain ⟨c8b0, H⟩ := H
      obtain ⟨y314, hy314⟩ : ∃ y_ : List Int, y_ = (x3_1.set (x4_1 : Int).toNat (rd l0 x4_1)) := ⟨_, rfl⟩
      replace H : (laws_toInt64S.l0 k1 l0 y314 (wrap64 (x4_1 + 1))) = some r := by first | (rw [hy314]; with_reducible exact H) | (have H2_ := (Option.bind_some _ _).symm.trans H; rw [hy314]; with_reducible exact H2_) | (have H2_ := (Option.bind_some _ _).symm.trans H; with_reducible exact H2_) | with_reducible exact H | (rw [hy314]; exact H) | exact H
      have Ny314 := Aside0.mk hy314
      clear hy314
      have H' := Aside0.mk H
      clear H
      have p313 : 0 ≤ (x4_1 : Int) := of_decide_eq_true ψ5
      have q313 : x4_1 < (l0.length : Int) := of_decide_eq_true ψ5
      obtain ⟨ad313, e313, hx313_0⟩ := Kd.at_int HR0.out x4_1 p313 q313
      cases e313
      replace hx313_0 := cB HB hx313_0
      replace p313 := eq_true p313
      replace q313 := eq_true q313
      have p9 : 0 ≤ (x4_1 : Int) := of_decide_eq_true ψ5
      have q9 : (x4_1 : Int) < ((x3_1.length : Int) : Int) := of_decide_eq_true ψ5
      obtain ⟨go9, co9, eo9, gb10, gl9, cl9, HG9⟩ := Kd.R_form HO_3.out ψ21
      (first | cases eo9 | (injection eo9 with ea_ en_ ec_; (first | subst ea_ | (injection ea_ with ea_; subst ea_)); subst ec_; clear en_))
      have GB9 := Aside0.mk gb10
      have GG9 := Aside0.mk HG9
      clear gb10 gl9 HG9
      obtain ⟨hx9_0, hf9_0⟩ := Kd.R_celln 0 HO_3.out (x4_1 : Int) p9 q9
      replace p9 := eq_true p9
      replace q9 := eq_true q9
      have HP10 := Kd.R_putg HO_3.out (x4_1 : Int) (rd l0 x4_1)
      go_wp2_with (first | ((with_reducible refine gate_store (t := 2) (p := 20) rfl ?_); refine store_event (t := 2) (p := 20) (v := ?vo_w11) (w1 := (wr.setCell ⟨go9, (x4_1 : Int).toNat, none⟩ (.int .i64 (rd l0 x4_1)))) ?hg ?ho ?hn ?hr ?_; (case ho => rfl); (case hg => rfl); (case hn => rfl); (case hr => first | (go_simp; done) | (go_simp; rfl)); intro w11 hw; have hg : wr.grownBy w11 (some go9) := (by rw [hw]; exact HP10.2); have hp_ : Kd.R (Kd.int .i64) 2 w11 w.heap.size (fun _ => True) (.slice (some ⟨go9, 0, none⟩) x3_1.length co9) y314 := (by rw [hw, Ny314.out]; exact HP10.1); clear HP10; have q := n2_ (hp_) ((by rw [hw]; exact below_set (HB.out) GB9.out : Below w.heap.size w w11)); clear HO_3 HB; obtain ⟨HO_3, HB⟩ := q; clear hg hw hp_))
      go_roundg k1
      case measure => have := HK1.out; omega
      case rel => exact ⟨(y314), (wrap64 (x4_1 + 1)), ψ7, H', ⟨ψ8⟩, ⟨have hZ := HO_3; kR_⟩, ⟨ψ6⟩⟩
     ·obtain rfl := Option.some.inj H
      go_wp2
      go_ret
      exact ⟨_, ψ4, ψ35, ψ6⟩
  ·rw [if_neg c3] at H
   exact absurd H ψ22
 ·rw [if_neg c2] at H
  exact absurd H ψ22

/-! ### laws_toInput: function 109 -/
def laws_toInput.f (a0_0 : Int) (a0_1 : Int) : Option (Int × Int) := some (a0_0, a0_1)
theorem laws_toInput.calls (a0_0 : Int) (a0_1 : Int) (r1 : Int) (r2 : Int) (w : World) (h : laws_toInput.f a0_0 a0_1 = some (r1, r2)) :
 Calls Try.prog 109 #[.agg #[.int .i64 a0_0, .int .i64 a0_1]] w fun e w' => e = .returned (.agg #[.int .i64 r1, .int .i64 r2]) ∧ Below w.heap.size w w' := by
 have hu128 := Try.underlying128
 have hu106 := Try.underlying106
 have HB := Aside0.mk (Below.refl w.heap.size w)
 unfold laws_toInput.f at h
 have H := h
 clear h
 simp only [Option.some.injEq, Prod.mk.injEq] at H
 obtain ⟨rfl, rfl⟩ := H
 go_enter Try.func109, Try.ntmps109
 go_wp2_with (first | ((with_reducible refine gate_dst (N := 1) rfl ?_); refine bE 1 #[.int .i64 a0_0, .int .i64 a0_1] 128 ?_; intro gb10 hg w2 hbox hb; have q := n4_ (below_step ψ36 hb) (hbox) ((ψ119 : w.heap.size ≤ gb10)) ((ψ119 : w.heap.size ≤ gb10)); clear HB; obtain ⟨HB, BK10, GW10, GE10⟩ := q; clear hb hbox hg) | ((with_reducible refine gate_dst (N := 2) rfl ?_); refine bE 2 #[.int .i64 0, .int .i64 0] 106 ?_; intro gb11 hg w3 hbox hb; have q := n7_ (blk_below (g := gb10) ψ10 hb) (below_step ψ36 hb) (hbox) ((ψ119 : w.heap.size ≤ gb11)) ((ψ119 : w.heap.size ≤ gb11)) ((ψ116 : gb10 ≠ gb11)) ((ψ117 : gb11 ≠ gb10)); clear BK10 HB; obtain ⟨BK10, HB, BK11, GW11, GE11, NB10_11, NB11_10⟩ := q; clear hb hbox hg) | ((with_reducible refine gate_dst (N := 3) rfl ?_); refine bE 3 #[.int .i64 0, .int .i64 0] 106 ?_; intro gb12 hg w4 hbox hb; have q := n10_ (blk_below (g := gb10) ψ10 hb) (blk_below (g := gb11) ψ24 hb) (below_step ψ36 hb) (hbox) ((ψ119 : w.heap.size ≤ gb12)) ((ψ119 : w.heap.size ≤ gb12)) ((ψ116 : gb10 ≠ gb12)) ((ψ117 : gb12 ≠ gb10)) ((ψ120 : gb11 ≠ gb12)) ((ψ121 : gb12 ≠ gb11)); clear BK10 BK11 HB; obtain ⟨BK10, BK11, HB, BK12, GW12, GE12, NB10_12, NB12_10, NB11_12, NB12_11⟩ := q; clear hb hbox hg; have hnb5 := NB10_11.out; have hnc5 := NB11_10.out; have hnb6 := NB10_12.out; have hnc6 := NB12_10.out; obtain ⟨y7_0, y7_1, u7_0, u7_1⟩ := cells2 BK10.out; have hnb8 := NB12_11.out; have hnc8 := NB11_12.out; obtain ⟨y9_0, y9_1, u9_0, u9_1⟩ := cells2 BK12.out; obtain ⟨y10_0, y10_1, u10_0, u10_1⟩ := cells2 BK11.out))
 refine bodyPost_ret (results_cell_row rfl _ _ gb11 106 #[.int .i64 a0_0, .int .i64 a0_1] (0, 0) _ rfl ψ37 Try.underlying106 rfl ψ12) rfl ?_
 exact ⟨ψ4, ψ36⟩

/-! ### laws_toInputS: function 71 -/
def laws_toInputS.l0 : Nat → List (S128) → List (S106) → Int → Option ((List (S106)))
 | 0, _, _, _ => none
 | k + 1, x0, x3, x4 => if x4 < (x0.length : Int) then (if 0 ≤ x4 then ((laws_toInput.f ((rd_T128 x0 x4).f0) ((rd_T128 x0 x4).f1)).bind fun bt325 => (if x4 < (x3.length : Int) then (laws_toInputS.l0 k x0 (x3.set (x4 : Int).toNat (⟨bt325.1, bt325.2⟩ : S106)) (wrap64 (x4 + 1))) else (none))) else (none)) else (some x3)
def laws_toInputS.f (k : Nat) (l0 : List (S128)) : Option ((List (S106))) := if 0 ≤ (l0.length : Int) then (if ((l0.length : Int) : Int).toNat ≤ 17592186044416 then (laws_toInputS.l0 k l0 (List.replicate ((l0.length : Int) : Int).toNat z106) 0) else (none)) else (none)
theorem laws_toInputS.calls (k : Nat) (A0 : Option Addr) (c0 : Nat) (l0 : List (S128)) (r : List (S106)) (w : World) (hr0 : Kd.C k128 w A0 l0.length l0) (hc0 : l0.length ≤ c0) (h : laws_toInputS.f k l0 = some r) :
 Calls Try.prog 71 #[.slice A0 l0.length c0] w fun e w' => ∃ v0_ : Value, e = .returned (v0_) ∧ Kd.R k106 106 w' w.heap.size (fun _ => True) v0_ r ∧ Below w.heap.size w w' := by
 have hu128 := Try.underlying128
 have hu106 := Try.underlying106
 have q := n2_ hr0 hc0
 clear hr0 hc0
 obtain ⟨HR0, HC0⟩ := q
 have HB := Aside0.mk (Below.refl w.heap.size w)
 unfold laws_toInputS.f at h
 have H := h
 clear h
 by_cases c2 : 0 ≤ (l0.length : Int)
 ·rw [if_pos c2] at H
  have c2b0 := eq_true c2
  have c2b1 : decide (0 ≤ (l0.length : Int)) = true := decide_eq_true c2
  clear c2
  by_cases c3 : ((l0.length : Int) : Int).toNat ≤ 17592186044416
  ·rw [if_pos c3] at H
   have c3b0 := eq_true c3
   have c3b1 : decide (((l0.length : Int) : Int).toNat ≤ 17592186044416) = true := decide_eq_true c3
   clear c3
   obtain ⟨y321, hy321⟩ : ∃ y_ : List (S106), y_ = (List.replicate ((l0.length : Int) : Int).toNat z106) := ⟨_, rfl⟩
   replace H : (laws_toInputS.l0 k l0 y321 0) = some r := by first | (rw [hy321]; with_reducible exact H) | (have H2_ := (Option.bind_some _ _).symm.trans H; rw [hy321]; with_reducible exact H2_) | (have H2_ := (Option.bind_some _ _).symm.trans H; with_reducible exact H2_) | with_reducible exact H | (rw [hy321]; exact H) | exact H
   have Ny321 := Aside0.mk hy321
   clear hy321
   have H' := Aside0.mk H
   clear H
   go_enter Try.func71, Try.ntmps71
   go_wp2_with (first | ((with_reducible refine gate_dst (N := 7) rfl ?_); refine Kd.R_make k106 _ 106 rfl (N := 7) rfl 33 _ _ rfl (l0.length : Int) rfl rfl Try.underlying33 (.agg #[(.int .i64 0), (.int .i64 0)]) 16 info106 rfl ψ13 ψ21 z106 (ok := fun _ => True) (okp := fun _ => True) (k106_mkM _ _ _ z106 ) (fun _ hk => hk) trivial (of_decide_eq_true ψ5) (Nat.le_trans (Nat.mul_le_mul_right _ (of_decide_eq_true ψ5 : (l0.length : Int).toNat ≤ 17592186044416)) ψ21) (Below.refl _ _) (Nat.le_refl _) ?_; intro v322 w4 ho5 hb hg_ hnew_; clear hg_ hnew_; (first | rw [← Ny321.out] at ho5 | (simp only [Int.reduceToNat] at ho5; rw [← Ny321.out] at ho5)); have q := n2_ (Kd.R_lower ho5 (below_size ψ6)) (below_step ψ6 hb); clear HB; obtain ⟨HO323, HB⟩ := q; clear hb ho5))
   go_loopg [4] k (fun kq v4 w' => ∃ (x3_1 : List (S106)) (x4_1 : Int), v4 = .int .i64 x4_1 ∧ Aside0 (laws_toInputS.l0 kq l0 x3_1 x4_1 = some r) ∧ Aside0 (kq ≤ k) ∧ Aside0 (Kd.R k106 106 w' w.heap.size (fun _ => True) v322 x3_1) ∧ Aside0 (Below w.heap.size w w'))
   case atStart => exact ⟨(y321), (0), ψ7, H', ⟨Nat.le_refl _⟩, ⟨have hZ := HO323; kR_⟩, ⟨ψ6⟩⟩
   case round =>
    clear H'
    try clear c2
    try clear c2b0
    try clear c2b1
    try clear c3
    try clear c3b0
    try clear c3b1
    obtain ⟨x3_1, x4_1, rfl, HA, HK1, HO_3, HB⟩ := hrel
    cases gk with
    | zero => exact absurd HA.out (by simp [laws_toInputS.l0])
    | succ k1 =>
     have H := HA.out
     clear HA
     simp only [laws_toInputS.l0] at H
     replace H := ifD H; rcases H with ⟨c6b0, H⟩ | ⟨c6b0, H⟩
     ·replace H := ifN H; obtain ⟨c7b0, H⟩ := H
      replace H := bS H; obtain ⟨⟨t325, t326⟩, A8, H⟩ := H
      replace H := ifN H; obtain ⟨c9b0, H⟩ := H
      obtain ⟨y327, hy327⟩ : ∃ y_ : List (S106), y_ = (x3_1.set (x4_1 : Int).toNat (⟨t325, t326⟩ : S106)) := ⟨_, rfl⟩
      replace H : (laws_toInputS.l0 k1 l0 y327 (wrap64 (x4_1 + 1))) = some r := by first | (rw [hy327]; with_reducible exact H) | (have H2_ := (Option.bind_some _ _).symm.trans H; rw [hy327]; with_reducible exact H2_) | (have H2_ := (Option.bind_some _ _).symm.trans H; with_reducible exact H2_) | with_reducible exact H | (rw [hy327]; exact H) | exact H
      have Ny327 := Aside0.mk hy327
      clear hy327
      have H' := Aside0.mk H
      clear H
      have p324 : 0 ≤ (x4_1 : Int) := of_decide_eq_true ψ5
      have q324 : x4_1 < (l0.length : Int) := of_decide_eq_true ψ5
      obtain ⟨ad324, e324, hx324_0, hx324_1⟩ := at_T128 HR0.out x4_1 p324 q324
      cases e324
      replace hx324_0 := cB HB hx324_0
      replace hx324_1 := cB HB hx324_1
      replace p324 := eq_true p324
      replace q324 := eq_true q324
      go_wp2_with (first | ((with_reducible refine gate_callee (f := 109) rfl ?_); refine gL 20 Try.func109 #[.agg #[.int .i64 ((rd_T128 l0 x4_1).f0), .int .i64 ((rd_T128 l0 x4_1).f1)]] ?_; (with_reducible refine (laws_toInput.calls ((rd_T128 l0 x4_1).f0) ((rd_T128 l0 x4_1).f1) _ _ _ A8.out).mono ?_); rintro e w11 ⟨rfl, hb⟩; refine ⟨_, rfl, ?_⟩; have q := n2_ (Kd.R_below (have hZ := HO_3; kR_) hb) (below_step ψ6 hb); clear HO_3 HB; obtain ⟨HO_3, HB⟩ := q; (try clear hb); have p10 : 0 ≤ (x4_1 : Int) := of_decide_eq_true ψ5; have q10 : (x4_1 : Int) < ((x3_1.length : Int) : Int) := of_decide_eq_true ψ5; obtain ⟨go10, co10, eo10, gb10, gl10, cl10, HG10⟩ := Kd.R_form HO_3.out ψ21; (first | cases eo10 | (injection eo10 with ea_ en_ ec_; (first | subst ea_ | (injection ea_ with ea_; subst ea_)); subst ec_; clear en_)); have GB10 := Aside0.mk gb10; have GG10 := Aside0.mk HG10; clear gb10 gl10 HG10; obtain ⟨ce10, hcl10, hM10, hcc10, hfr10⟩ := Kd.R_elem HO_3.out z106 (x4_1 : Int) p10 q10; obtain rfl := k106_openM hM10; have hx10_0 : w11.cell? ⟨go10, (x4_1 : Int).toNat * 2, none⟩ = some (.int .i64 ((rd_T106 x3_1 x4_1).f0)) := hcc10 0 _ rfl; have hx10_1 : w11.cell? ⟨go10, (x4_1 : Int).toNat * 2 + 1, none⟩ = some (.int .i64 ((rd_T106 x3_1 x4_1).f1)) := hcc10 1 _ rfl; have hf10_0 : w11.frozen? ⟨go10, (x4_1 : Int).toNat * 2, none⟩ = false := hfr10 0; have hf10_1 : w11.frozen? ⟨go10, (x4_1 : Int).toNat * 2 + 1, none⟩ = false := hfr10 1; (try clear hcl10); (try clear hcc10); (try clear hfr10); (try clear hM10); replace p10 := eq_true p10; replace q10 := eq_true q10; have HX12 := Aside0.mk (show Kd.R k106 106 w11 w.heap.size (fun _ => True) (.slice (some ⟨go10, 0, none⟩) x3_1.length co10) x3_1 from (have hZ := HO_3; kR_)); obtain ⟨ce12, hcl12, hM12, hcc12, hfr12⟩ := Kd.R_elem HX12.out z106 (x4_1 : Int) (of_decide_eq_true ψ5) (by have h_ : (x4_1 : Int) < ((x3_1.length : Int) : Int) := of_decide_eq_true ψ5; first | exact h_ | (have e_ := (Kd.R_reads' HO_3.out).1; omega) | simpa using h_); obtain rfl := k106_openM hM12; have HP12 := Kd.R_seg HX12.out (x4_1 : Int) (of_decide_eq_true ψ5) (by have h_ : (x4_1 : Int) < ((x3_1.length : Int) : Int) := of_decide_eq_true ψ5; first | exact h_ | (have e_ := (Kd.R_reads' HO_3.out).1; omega) | simpa using h_) (seg := [.int .i64 t325, .int .i64 t326]) (j := 0) hcl12 hcc12 (show 2 ≤ 2 from ψ13) (x' := (⟨t325, t326⟩ : S106)) (k106_mkM _ _ _ (⟨t325, t326⟩ : S106) ) (fun _ hk => hk); have hx12_0 := hcc12 0 _ rfl; (try simp only [show (k106).sz = 2 from rfl, Nat.mul_one, Nat.add_zero] at hx12_0); have hf12_0 := hfr12 0; (try simp only [show (k106).sz = 2 from rfl, Nat.mul_one, Nat.add_zero] at hf12_0); have hx12_1 := hcc12 1 _ rfl; (try simp only [show (k106).sz = 2 from rfl, Nat.mul_one, Nat.add_zero] at hx12_1); have hf12_1 := hfr12 1; (try simp only [show (k106).sz = 2 from rfl, Nat.mul_one, Nat.add_zero] at hf12_1); clear hcl12 hcc12 hfr12 hM12) | ((with_reducible refine gate_store (t := 106) (p := 21) rfl ?_); refine store_event (t := 106) (p := 21) (v := ?vo_w13) (w1 := ((w11.setCell ⟨go10, (x4_1 : Int).toNat * 2, none⟩ (.int .i64 t325)).setCell ⟨go10, (x4_1 : Int).toNat * 2 + 1, none⟩ (.int .i64 t326))) ?hg ?ho ?hn ?hr ?_; (case ho => rfl); (case hg => rfl); (case hn => rfl); (case hr => first | (go_simp; done) | (go_simp; rfl)); intro w13 hw; have hg : w11.grownBy w13 (some go10) := (by rw [hw]; exact HP12.2); have hp_ : Kd.R k106 106 w13 w.heap.size (fun _ => True) (.slice (some ⟨go10, 0, none⟩) x3_1.length co10) y327 := (by rw [hw, Ny327.out]; exact HP12.1); clear HP12; have q := n2_ (hp_) ((ψ38 : Below w.heap.size w w13)); clear HO_3 HB; obtain ⟨HO_3, HB⟩ := q; clear hg hw hp_))
      go_roundg k1
      case measure => have := HK1.out; omega
      case rel => exact ⟨(y327), (wrap64 (x4_1 + 1)), ψ7, H', ⟨ψ8⟩, ⟨have hZ := HO_3; kR_⟩, ⟨ψ6⟩⟩
     ·obtain rfl := Option.some.inj H
      go_wp2
      go_ret
      exact ⟨_, ψ4, ψ35, ψ6⟩
  ·rw [if_neg c3] at H
   exact absurd H ψ22
 ·rw [if_neg c2] at H
  exact absurd H ψ22

/-! ### laws_toTerm: function 105 -/
def laws_toTerm.f (a0_0 : Int) (a0_1 : Int) : Option (Int × Int) := some (a0_0, a0_1)
theorem laws_toTerm.calls (a0_0 : Int) (a0_1 : Int) (r1 : Int) (r2 : Int) (w : World) (h : laws_toTerm.f a0_0 a0_1 = some (r1, r2)) :
 Calls Try.prog 105 #[.agg #[.int .i64 a0_0, .int .i64 a0_1]] w fun e w' => e = .returned (.agg #[.int .i64 r1, .int .i64 r2]) ∧ Below w.heap.size w w' := by
 have hu122 := Try.underlying122
 have hu74 := Try.underlying74
 have HB := Aside0.mk (Below.refl w.heap.size w)
 unfold laws_toTerm.f at h
 have H := h
 clear h
 simp only [Option.some.injEq, Prod.mk.injEq] at H
 obtain ⟨rfl, rfl⟩ := H
 go_enter Try.func105, Try.ntmps105
 go_wp2_with (first | ((with_reducible refine gate_dst (N := 1) rfl ?_); refine bE 1 #[.int .i64 a0_0, .int .i64 a0_1] 122 ?_; intro gb10 hg w2 hbox hb; have q := n4_ (below_step ψ36 hb) (hbox) ((ψ119 : w.heap.size ≤ gb10)) ((ψ119 : w.heap.size ≤ gb10)); clear HB; obtain ⟨HB, BK10, GW10, GE10⟩ := q; clear hb hbox hg) | ((with_reducible refine gate_dst (N := 2) rfl ?_); refine bE 2 #[.int .i64 0, .int .i64 0] 74 ?_; intro gb11 hg w3 hbox hb; have q := n7_ (blk_below (g := gb10) ψ10 hb) (below_step ψ36 hb) (hbox) ((ψ119 : w.heap.size ≤ gb11)) ((ψ119 : w.heap.size ≤ gb11)) ((ψ116 : gb10 ≠ gb11)) ((ψ117 : gb11 ≠ gb10)); clear BK10 HB; obtain ⟨BK10, HB, BK11, GW11, GE11, NB10_11, NB11_10⟩ := q; clear hb hbox hg) | ((with_reducible refine gate_dst (N := 3) rfl ?_); refine bE 3 #[.int .i64 0, .int .i64 0] 74 ?_; intro gb12 hg w4 hbox hb; have q := n10_ (blk_below (g := gb10) ψ10 hb) (blk_below (g := gb11) ψ24 hb) (below_step ψ36 hb) (hbox) ((ψ119 : w.heap.size ≤ gb12)) ((ψ119 : w.heap.size ≤ gb12)) ((ψ116 : gb10 ≠ gb12)) ((ψ117 : gb12 ≠ gb10)) ((ψ120 : gb11 ≠ gb12)) ((ψ121 : gb12 ≠ gb11)); clear BK10 BK11 HB; obtain ⟨BK10, BK11, HB, BK12, GW12, GE12, NB10_12, NB12_10, NB11_12, NB12_11⟩ := q; clear hb hbox hg; have hnb5 := NB10_11.out; have hnc5 := NB11_10.out; have hnb6 := NB10_12.out; have hnc6 := NB12_10.out; obtain ⟨y7_0, y7_1, u7_0, u7_1⟩ := cells2 BK10.out; have hnb8 := NB12_11.out; have hnc8 := NB11_12.out; obtain ⟨y9_0, y9_1, u9_0, u9_1⟩ := cells2 BK12.out; obtain ⟨y10_0, y10_1, u10_0, u10_1⟩ := cells2 BK11.out))
 refine bodyPost_ret (results_cell_row rfl _ _ gb11 74 #[.int .i64 a0_0, .int .i64 a0_1] (0, 0) _ rfl ψ37 Try.underlying74 rfl ψ12) rfl ?_
 exact ⟨ψ4, ψ36⟩

/-! ### laws_toTermS: function 60 -/
def laws_toTermS.l0 : Nat → List (S122) → List (S74) → Int → Option ((List (S74)))
 | 0, _, _, _ => none
 | k + 1, x0, x3, x4 => if x4 < (x0.length : Int) then (if 0 ≤ x4 then ((laws_toTerm.f ((rd_T122 x0 x4).f0) ((rd_T122 x0 x4).f1)).bind fun bt338 => (if x4 < (x3.length : Int) then (laws_toTermS.l0 k x0 (x3.set (x4 : Int).toNat (⟨bt338.1, bt338.2⟩ : S74)) (wrap64 (x4 + 1))) else (none))) else (none)) else (some x3)
def laws_toTermS.f (k : Nat) (l0 : List (S122)) : Option ((List (S74))) := if 0 ≤ (l0.length : Int) then (if ((l0.length : Int) : Int).toNat ≤ 17592186044416 then (laws_toTermS.l0 k l0 (List.replicate ((l0.length : Int) : Int).toNat z74) 0) else (none)) else (none)
theorem laws_toTermS.calls (k : Nat) (A0 : Option Addr) (c0 : Nat) (l0 : List (S122)) (r : List (S74)) (w : World) (hr0 : Kd.C k122 w A0 l0.length l0) (hc0 : l0.length ≤ c0) (h : laws_toTermS.f k l0 = some r) :
 Calls Try.prog 60 #[.slice A0 l0.length c0] w fun e w' => ∃ v0_ : Value, e = .returned (v0_) ∧ Kd.R k74 74 w' w.heap.size (fun _ => True) v0_ r ∧ Below w.heap.size w w' := by
 have hu122 := Try.underlying122
 have hu74 := Try.underlying74
 have q := n2_ hr0 hc0
 clear hr0 hc0
 obtain ⟨HR0, HC0⟩ := q
 have HB := Aside0.mk (Below.refl w.heap.size w)
 unfold laws_toTermS.f at h
 have H := h
 clear h
 by_cases c2 : 0 ≤ (l0.length : Int)
 ·rw [if_pos c2] at H
  have c2b0 := eq_true c2
  have c2b1 : decide (0 ≤ (l0.length : Int)) = true := decide_eq_true c2
  clear c2
  by_cases c3 : ((l0.length : Int) : Int).toNat ≤ 17592186044416
  ·rw [if_pos c3] at H
   have c3b0 := eq_true c3
   have c3b1 : decide (((l0.length : Int) : Int).toNat ≤ 17592186044416) = true := decide_eq_true c3
   clear c3
   obtain ⟨y334, hy334⟩ : ∃ y_ : List (S74), y_ = (List.replicate ((l0.length : Int) : Int).toNat z74) := ⟨_, rfl⟩
   replace H : (laws_toTermS.l0 k l0 y334 0) = some r := by first | (rw [hy334]; with_reducible exact H) | (have H2_ := (Option.bind_some _ _).symm.trans H; rw [hy334]; with_reducible exact H2_) | (have H2_ := (Option.bind_some _ _).symm.trans H; with_reducible exact H2_) | with_reducible exact H | (rw [hy334]; exact H) | exact H
   have Ny334 := Aside0.mk hy334
   clear hy334
   have H' := Aside0.mk H
   clear H
   go_enter Try.func60, Try.ntmps60
   go_wp2_with (first | ((with_reducible refine gate_dst (N := 7) rfl ?_); refine Kd.R_make k74 _ 74 rfl (N := 7) rfl 68 _ _ rfl (l0.length : Int) rfl rfl Try.underlying68 (.agg #[(.int .i64 0), (.int .i64 0)]) 16 info74 rfl ψ13 ψ21 z74 (ok := fun _ => True) (okp := fun _ => True) (k74_mkM _ _ _ z74 ) (fun _ hk => hk) trivial (of_decide_eq_true ψ5) (Nat.le_trans (Nat.mul_le_mul_right _ (of_decide_eq_true ψ5 : (l0.length : Int).toNat ≤ 17592186044416)) ψ21) (Below.refl _ _) (Nat.le_refl _) ?_; intro v335 w4 ho5 hb hg_ hnew_; clear hg_ hnew_; (first | rw [← Ny334.out] at ho5 | (simp only [Int.reduceToNat] at ho5; rw [← Ny334.out] at ho5)); have q := n2_ (Kd.R_lower ho5 (below_size ψ6)) (below_step ψ6 hb); clear HB; obtain ⟨HO336, HB⟩ := q; clear hb ho5))
   go_loopg [4] k (fun kq v4 w' => ∃ (x3_1 : List (S74)) (x4_1 : Int), v4 = .int .i64 x4_1 ∧ Aside0 (laws_toTermS.l0 kq l0 x3_1 x4_1 = some r) ∧ Aside0 (kq ≤ k) ∧ Aside0 (Kd.R k74 74 w' w.heap.size (fun _ => True) v335 x3_1) ∧ Aside0 (Below w.heap.size w w'))
   case atStart => exact ⟨(y334), (0), ψ7, H', ⟨Nat.le_refl _⟩, ⟨have hZ := HO336; kR_⟩, ⟨ψ6⟩⟩
   case round =>
    clear H'
    try clear c2
    try clear c2b0
    try clear c2b1
    try clear c3
    try clear c3b0
    try clear c3b1
    obtain ⟨x3_1, x4_1, rfl, HA, HK1, HO_3, HB⟩ := hrel
    cases gk with
    | zero => exact absurd HA.out (by simp [laws_toTermS.l0])
    | succ k1 =>
     have H := HA.out
     clear HA
     simp only [laws_toTermS.l0] at H
     replace H := ifD H; rcases H with ⟨c6b0, H⟩ | ⟨c6b0, H⟩
     ·replace H := ifN H; obtain ⟨c7b0, H⟩ := H
      replace H := bS H; obtain ⟨⟨t338, t339⟩, A8, H⟩ := H
      replace H := ifN H; obtain ⟨c9b0, H⟩ := H
      obtain ⟨y340, hy340⟩ : ∃ y_ : List (S74), y_ = (x3_1.set (x4_1 : Int).toNat (⟨t338, t339⟩ : S74)) := ⟨_, rfl⟩
      replace H : (laws_toTermS.l0 k1 l0 y340 (wrap64 (x4_1 + 1))) = some r := by first | (rw [hy340]; with_reducible exact H) | (have H2_ := (Option.bind_some _ _).symm.trans H; rw [hy340]; with_reducible exact H2_) | (have H2_ := (Option.bind_some _ _).symm.trans H; with_reducible exact H2_) | with_reducible exact H | (rw [hy340]; exact H) | exact H
      have Ny340 := Aside0.mk hy340
      clear hy340
      have H' := Aside0.mk H
      clear H
      have p337 : 0 ≤ (x4_1 : Int) := of_decide_eq_true ψ5
      have q337 : x4_1 < (l0.length : Int) := of_decide_eq_true ψ5
      obtain ⟨ad337, e337, hx337_0, hx337_1⟩ := at_T122 HR0.out x4_1 p337 q337
      cases e337
      replace hx337_0 := cB HB hx337_0
      replace hx337_1 := cB HB hx337_1
      replace p337 := eq_true p337
      replace q337 := eq_true q337
      go_wp2_with (first | ((with_reducible refine gate_callee (f := 105) rfl ?_); refine gL 20 Try.func105 #[.agg #[.int .i64 ((rd_T122 l0 x4_1).f0), .int .i64 ((rd_T122 l0 x4_1).f1)]] ?_; (with_reducible refine (laws_toTerm.calls ((rd_T122 l0 x4_1).f0) ((rd_T122 l0 x4_1).f1) _ _ _ A8.out).mono ?_); rintro e w11 ⟨rfl, hb⟩; refine ⟨_, rfl, ?_⟩; have q := n2_ (Kd.R_below (have hZ := HO_3; kR_) hb) (below_step ψ6 hb); clear HO_3 HB; obtain ⟨HO_3, HB⟩ := q; (try clear hb); have p10 : 0 ≤ (x4_1 : Int) := of_decide_eq_true ψ5; have q10 : (x4_1 : Int) < ((x3_1.length : Int) : Int) := of_decide_eq_true ψ5; obtain ⟨go10, co10, eo10, gb10, gl10, cl10, HG10⟩ := Kd.R_form HO_3.out ψ21; (first | cases eo10 | (injection eo10 with ea_ en_ ec_; (first | subst ea_ | (injection ea_ with ea_; subst ea_)); subst ec_; clear en_)); have GB10 := Aside0.mk gb10; have GG10 := Aside0.mk HG10; clear gb10 gl10 HG10; obtain ⟨ce10, hcl10, hM10, hcc10, hfr10⟩ := Kd.R_elem HO_3.out z74 (x4_1 : Int) p10 q10; obtain rfl := k74_openM hM10; have hx10_0 : w11.cell? ⟨go10, (x4_1 : Int).toNat * 2, none⟩ = some (.int .i64 ((rd_T74 x3_1 x4_1).f0)) := hcc10 0 _ rfl; have hx10_1 : w11.cell? ⟨go10, (x4_1 : Int).toNat * 2 + 1, none⟩ = some (.int .i64 ((rd_T74 x3_1 x4_1).f1)) := hcc10 1 _ rfl; have hf10_0 : w11.frozen? ⟨go10, (x4_1 : Int).toNat * 2, none⟩ = false := hfr10 0; have hf10_1 : w11.frozen? ⟨go10, (x4_1 : Int).toNat * 2 + 1, none⟩ = false := hfr10 1; (try clear hcl10); (try clear hcc10); (try clear hfr10); (try clear hM10); replace p10 := eq_true p10; replace q10 := eq_true q10; have HX12 := Aside0.mk (show Kd.R k74 74 w11 w.heap.size (fun _ => True) (.slice (some ⟨go10, 0, none⟩) x3_1.length co10) x3_1 from (have hZ := HO_3; kR_)); obtain ⟨ce12, hcl12, hM12, hcc12, hfr12⟩ := Kd.R_elem HX12.out z74 (x4_1 : Int) (of_decide_eq_true ψ5) (by have h_ : (x4_1 : Int) < ((x3_1.length : Int) : Int) := of_decide_eq_true ψ5; first | exact h_ | (have e_ := (Kd.R_reads' HO_3.out).1; omega) | simpa using h_); obtain rfl := k74_openM hM12; have HP12 := Kd.R_seg HX12.out (x4_1 : Int) (of_decide_eq_true ψ5) (by have h_ : (x4_1 : Int) < ((x3_1.length : Int) : Int) := of_decide_eq_true ψ5; first | exact h_ | (have e_ := (Kd.R_reads' HO_3.out).1; omega) | simpa using h_) (seg := [.int .i64 t338, .int .i64 t339]) (j := 0) hcl12 hcc12 (show 2 ≤ 2 from ψ13) (x' := (⟨t338, t339⟩ : S74)) (k74_mkM _ _ _ (⟨t338, t339⟩ : S74) ) (fun _ hk => hk); have hx12_0 := hcc12 0 _ rfl; (try simp only [show (k74).sz = 2 from rfl, Nat.mul_one, Nat.add_zero] at hx12_0); have hf12_0 := hfr12 0; (try simp only [show (k74).sz = 2 from rfl, Nat.mul_one, Nat.add_zero] at hf12_0); have hx12_1 := hcc12 1 _ rfl; (try simp only [show (k74).sz = 2 from rfl, Nat.mul_one, Nat.add_zero] at hx12_1); have hf12_1 := hfr12 1; (try simp only [show (k74).sz = 2 from rfl, Nat.mul_one, Nat.add_zero] at hf12_1); clear hcl12 hcc12 hfr12 hM12) | ((with_reducible refine gate_store (t := 74) (p := 21) rfl ?_); refine store_event (t := 74) (p := 21) (v := ?vo_w13) (w1 := ((w11.setCell ⟨go10, (x4_1 : Int).toNat * 2, none⟩ (.int .i64 t338)).setCell ⟨go10, (x4_1 : Int).toNat * 2 + 1, none⟩ (.int .i64 t339))) ?hg ?ho ?hn ?hr ?_; (case ho => rfl); (case hg => rfl); (case hn => rfl); (case hr => first | (go_simp; done) | (go_simp; rfl)); intro w13 hw; have hg : w11.grownBy w13 (some go10) := (by rw [hw]; exact HP12.2); have hp_ : Kd.R k74 74 w13 w.heap.size (fun _ => True) (.slice (some ⟨go10, 0, none⟩) x3_1.length co10) y340 := (by rw [hw, Ny340.out]; exact HP12.1); clear HP12; have q := n2_ (hp_) ((ψ38 : Below w.heap.size w w13)); clear HO_3 HB; obtain ⟨HO_3, HB⟩ := q; clear hg hw hp_))
      go_roundg k1
      case measure => have := HK1.out; omega
      case rel => exact ⟨(y340), (wrap64 (x4_1 + 1)), ψ7, H', ⟨ψ8⟩, ⟨have hZ := HO_3; kR_⟩, ⟨ψ6⟩⟩
     ·obtain rfl := Option.some.inj H
      go_wp2
      go_ret
      exact ⟨_, ψ4, ψ35, ψ6⟩
  ·rw [if_neg c3] at H
   exact absurd H ψ22
 ·rw [if_neg c2] at H
  exact absurd H ψ22

/-! ### laws_toStmt: function 110 -/
def laws_toStmt.f (k : Nat) (a0_0 : Int) (a0_1 : Int) (l0_2 : List (S122)) (l0_3 : List (S122)) : Option (Int × Int × (List (S74)) × (List (S74))) := (laws_toTermS.f k l0_2).bind fun t347 => ((laws_toTermS.f k l0_3).bind fun t351 => (some (a0_0, a0_1, t347, t351)))
theorem laws_toStmt.calls (k : Nat) (a0_0 : Int) (a0_1 : Int) (A0_2 : Option Addr) (c0_2 : Nat) (l0_2 : List (S122)) (A0_3 : Option Addr) (c0_3 : Nat) (l0_3 : List (S122)) (r1 : Int) (r2 : Int) (r3 : List (S74)) (r4 : List (S74)) (w : World) (hr0_2 : Kd.C k122 w A0_2 l0_2.length l0_2) (hc0_2 : l0_2.length ≤ c0_2) (hr0_3 : Kd.C k122 w A0_3 l0_3.length l0_3) (hc0_3 : l0_3.length ≤ c0_3) (h : laws_toStmt.f k a0_0 a0_1 l0_2 l0_3 = some (r1, r2, r3, r4)) :
 Calls Try.prog 110 #[.agg #[.int .i64 a0_0, .int .i64 a0_1, .slice A0_2 l0_2.length c0_2, .slice A0_3 l0_3.length c0_3]] w fun e w' => ∃ v2_ v3_ : Value, e = .returned (.agg #[.int .i64 r1, .int .i64 r2, v2_, v3_]) ∧ Kd.R k74 74 w' w.heap.size (fun k_ => some k_ ≠ (v3_ : Value).ownBlock) v2_ r3 ∧ Kd.R k74 74 w' w.heap.size (fun k_ => some k_ ≠ (v2_ : Value).ownBlock) v3_ r4 ∧ Below w.heap.size w w' := by
 have hu126 := Try.underlying126
 have hu114 := Try.underlying114
 have q := n4_ hr0_2 hc0_2 hr0_3 hc0_3
 clear hr0_2 hc0_2 hr0_3 hc0_3
 obtain ⟨HR0_2, HC0_2, HR0_3, HC0_3⟩ := q
 have HB := Aside0.mk (Below.refl w.heap.size w)
 unfold laws_toStmt.f at h
 have H := h
 clear h
 replace H := bS H; obtain ⟨t347, A2, H⟩ := H
 replace H := bS H; obtain ⟨t351, A3, H⟩ := H
 simp only [Option.some.injEq, Prod.mk.injEq] at H
 obtain ⟨rfl, rfl, rfl, rfl⟩ := H
 go_enter Try.func110, Try.ntmps110
 go_wp2_with (first | ((with_reducible refine gate_dst (N := 1) rfl ?_); refine bE 1 #[.int .i64 a0_0, .int .i64 a0_1, .slice A0_2 l0_2.length c0_2, .slice A0_3 l0_3.length c0_3] 126 ?_; intro gb10 hg w4 hbox hb; have q := n4_ (below_step ψ36 hb) (hbox) ((ψ119 : w.heap.size ≤ gb10)) ((ψ119 : w.heap.size ≤ gb10)); clear HB; obtain ⟨HB, BK10, GW10, GE10⟩ := q; clear hb hbox hg) | ((with_reducible refine gate_dst (N := 2) rfl ?_); refine bE 2 #[.int .i64 0, .int .i64 0, .slice none 0 0, .slice none 0 0] 114 ?_; intro gb11 hg w5 hbox hb; have q := n7_ (blk_below (g := gb10) ψ10 hb) (below_step ψ36 hb) (hbox) ((ψ119 : w.heap.size ≤ gb11)) ((ψ119 : w.heap.size ≤ gb11)) ((ψ116 : gb10 ≠ gb11)) ((ψ117 : gb11 ≠ gb10)); clear BK10 HB; obtain ⟨BK10, HB, BK11, GW11, GE11, NB10_11, NB11_10⟩ := q; clear hb hbox hg) | ((with_reducible refine gate_dst (N := 3) rfl ?_); refine bE 3 #[.int .i64 0, .int .i64 0, .slice none 0 0, .slice none 0 0] 114 ?_; intro gb12 hg w6 hbox hb; have q := n10_ (blk_below (g := gb10) ψ10 hb) (blk_below (g := gb11) ψ24 hb) (below_step ψ36 hb) (hbox) ((ψ119 : w.heap.size ≤ gb12)) ((ψ119 : w.heap.size ≤ gb12)) ((ψ116 : gb10 ≠ gb12)) ((ψ117 : gb12 ≠ gb10)) ((ψ120 : gb11 ≠ gb12)) ((ψ121 : gb12 ≠ gb11)); clear BK10 BK11 HB; obtain ⟨BK10, BK11, HB, BK12, GW12, GE12, NB10_12, NB12_10, NB11_12, NB12_11⟩ := q; clear hb hbox hg; have hnb7 := NB10_11.out; have hnc7 := NB11_10.out; have hnb8 := NB10_12.out; have hnc8 := NB12_10.out; obtain ⟨y9_0, y9_1, y9_2, y9_3, u9_0, u9_1, u9_2, u9_3⟩ := cells4 BK10.out; have hnb10 := NB12_11.out; have hnc10 := NB11_12.out; obtain ⟨y11_0, y11_1, y11_2, y11_3, u11_0, u11_1, u11_2, u11_3⟩ := cells4 BK12.out) | ((with_reducible refine gate_callee (f := 60) rfl ?_); refine gL 12 Try.func60 #[.slice A0_2 l0_2.length c0_2] ?_; (with_reducible refine (laws_toTermS.calls k _ _ l0_2 _ _ ?_ ?_ A2.out).mono ?_); exact Kd.C_below HR0_2.out ψ36; exact HC0_2.out; rintro e w12 ⟨v348, rfl, ho0, hb⟩; refine ⟨_, rfl, ?_⟩; have q := n5_ (Kd.R_lower ho0 (below_size ψ36)) (blk_below (g := gb10) (o := .cells #[.int .i64 a0_0, .int .i64 a0_1, .slice A0_2 l0_2.length c0_2, .slice A0_3 l0_3.length c0_3] 126 (0, 0)) ψ39 hb) (blk_below (g := gb11) (o := .cells #[.int .i64 0, .int .i64 0, .slice none 0 0, .slice none 0 0] 114 (0, 0)) ψ40 hb) (blk_below (g := gb12) (o := .cells #[.int .i64 a0_0, .int .i64 a0_1, .slice none 0 0, .slice none 0 0] 114 (0, 0)) (by (with_reducible repeat (first | refine blk_drewN ?_ _ | refine blk_drew ?_ | refine blk_alloc ?_ _)); refine blk_put (cs := #[.int .i64 a0_0, .int .i64 0, .slice none 0 0, .slice none 0 0]) ?_ 1 _ rfl; (with_reducible repeat (first | refine blk_drewN ?_ _ | refine blk_drew ?_ | refine blk_alloc ?_ _)); refine blk_put (cs := #[.int .i64 0, .int .i64 0, .slice none 0 0, .slice none 0 0]) ?_ 0 _ rfl; (with_reducible repeat (first | refine blk_drewN ?_ _ | refine blk_drew ?_ | refine blk_alloc ?_ _)); exact BK12.out) hb) (below_step ψ36 hb); clear BK10 BK11 BK12 HB; obtain ⟨HO349, BK10, BK11, BK12, HB⟩ := q; (try clear hb); (try clear ho0); obtain ⟨Ao13, co13, eo13⟩ := Kd.R_slice HO349.out; subst eo13; obtain ⟨y14_0, y14_1, y14_2, y14_3, u14_0, u14_1, u14_2, u14_3⟩ := cells4 BK12.out; obtain ⟨y15_0, y15_1, y15_2, y15_3, u15_0, u15_1, u15_2, u15_3⟩ := cells4 BK10.out) | ((with_reducible refine gate_callee (f := 60) rfl ?_); refine gL 16 Try.func60 #[.slice A0_3 l0_3.length c0_3] ?_; (with_reducible refine (laws_toTermS.calls k _ _ l0_3 _ _ ?_ ?_ A3.out).mono ?_); exact Kd.C_below HR0_3.out ψ36; exact HC0_3.out; rintro e w16 ⟨v352, rfl, ho0, hb⟩; refine ⟨_, rfl, ?_⟩; have q := n6_ (Kd.R_elder' ψ122 (Kd.R_base ho0) hb) (Kd.R_lower (Kd.R_new' ho0 (Kd.R_lt ψ122)) (below_size ψ36)) (blk_below (g := gb10) (o := .cells #[.int .i64 a0_0, .int .i64 a0_1, .slice A0_2 l0_2.length c0_2, .slice A0_3 l0_3.length c0_3] 126 (0, 0)) ψ41 hb) (blk_below (g := gb11) (o := .cells #[.int .i64 0, .int .i64 0, .slice none 0 0, .slice none 0 0] 114 (0, 0)) ψ42 hb) (blk_below (g := gb12) (o := .cells #[.int .i64 a0_0, .int .i64 a0_1, .slice Ao13 t347.length co13, .slice none 0 0] 114 (0, 0)) (by (with_reducible repeat (first | refine blk_drewN ?_ _ | refine blk_drew ?_ | refine blk_alloc ?_ _)); refine blk_put (cs := #[.int .i64 a0_0, .int .i64 a0_1, .slice none 0 0, .slice none 0 0]) ?_ 2 _ rfl; (with_reducible repeat (first | refine blk_drewN ?_ _ | refine blk_drew ?_ | refine blk_alloc ?_ _)); exact BK12.out) hb) (below_step ψ36 hb); clear HO349 BK10 BK11 BK12 HB; obtain ⟨HO349, HO353, BK10, BK11, BK12, HB⟩ := q; (try clear hb); (try clear ho0); obtain ⟨Ao17, co17, eo17⟩ := Kd.R_slice HO353.out; subst eo17; obtain ⟨y18_0, y18_1, y18_2, y18_3, u18_0, u18_1, u18_2, u18_3⟩ := cells4 BK12.out; obtain ⟨y19_0, y19_1, y19_2, y19_3, u19_0, u19_1, u19_2, u19_3⟩ := cells4 BK11.out))
 refine bodyPost_ret (results_cell_row rfl _ _ gb11 114 #[.int .i64 a0_0, .int .i64 a0_1, .slice Ao13 t347.length co13, .slice Ao17 t351.length co17] (0, 0) _ rfl (by (with_reducible repeat (first | refine blk_drewN ?_ _ | refine blk_drew ?_ | refine blk_alloc ?_ _)); refine blk_put (cs := #[.int .i64 a0_0, .int .i64 a0_1, .slice Ao13 t347.length co13, .slice none 0 0]) ?_ 3 _ rfl; (with_reducible repeat (first | refine blk_drewN ?_ _ | refine blk_drew ?_ | refine blk_alloc ?_ _)); refine blk_put (cs := #[.int .i64 a0_0, .int .i64 a0_1, .slice none 0 0, .slice none 0 0]) ?_ 2 _ rfl; (with_reducible repeat (first | refine blk_drewN ?_ _ | refine blk_drew ?_ | refine blk_alloc ?_ _)); refine blk_put (cs := #[.int .i64 a0_0, .int .i64 0, .slice none 0 0, .slice none 0 0]) ?_ 1 _ rfl; (with_reducible repeat (first | refine blk_drewN ?_ _ | refine blk_drew ?_ | refine blk_alloc ?_ _)); refine blk_put (cs := #[.int .i64 0, .int .i64 0, .slice none 0 0, .slice none 0 0]) ?_ 0 _ rfl; (with_reducible repeat (first | refine blk_drewN ?_ _ | refine blk_drew ?_ | refine blk_alloc ?_ _)); refine blk_far ?_ NB11_12.out _; (with_reducible repeat (first | refine blk_drewN ?_ _ | refine blk_drew ?_ | refine blk_alloc ?_ _)); exact BK11.out) Try.underlying114 rfl ψ12) rfl ?_
 exact ⟨_, _, ψ4, by (with_reducible repeat (first | apply Kd.R_alloc | apply Kd.R_drewN | apply Kd.R_drew)); exact Kd.R_mono (Kd.R_far (p := ⟨gb11, 3, none⟩) (Kd.R_far (p := ⟨gb11, 2, none⟩) (Kd.R_far (p := ⟨gb11, 1, none⟩) (Kd.R_far (p := ⟨gb11, 0, none⟩) (Kd.R_far (p := ⟨gb12, 3, none⟩) (Kd.R_types (Kd.R_types HO349.out BK12.out ψ13) BK11.out ψ13) (fun _ hk => hk.1.2) (.slice Ao17 t351.length co17)) (fun _ hk => hk.2) (.int .i64 a0_0)) (fun _ hk => hk.2) (.int .i64 a0_1)) (fun _ hk => hk.2) (.slice Ao13 t347.length co13)) (fun _ hk => hk.2) (.slice Ao17 t351.length co17)) (fun _ hk => hk.1.1.2), by (with_reducible repeat (first | apply Kd.R_alloc | apply Kd.R_drewN | apply Kd.R_drew)); exact Kd.R_mono (Kd.R_far (p := ⟨gb11, 3, none⟩) (Kd.R_far (p := ⟨gb11, 2, none⟩) (Kd.R_far (p := ⟨gb11, 1, none⟩) (Kd.R_far (p := ⟨gb11, 0, none⟩) (Kd.R_far (p := ⟨gb12, 3, none⟩) (Kd.R_types (Kd.R_types HO353.out BK12.out ψ13) BK11.out ψ13) (fun _ hk => hk.1.2) (.slice Ao17 t351.length co17)) (fun _ hk => hk.2) (.int .i64 a0_0)) (fun _ hk => hk.2) (.int .i64 a0_1)) (fun _ hk => hk.2) (.slice Ao13 t347.length co13)) (fun _ hk => hk.2) (.slice Ao17 t351.length co17)) (fun _ hk => hk.1.1.2), ψ36⟩

/-! ### laws_toStmtS: function 72 -/
def laws_toStmtS.l0 : Nat → List (S126) → List (S114) → Int → Option ((List (S114)))
 | 0, _, _, _ => none
 | k + 1, x0, x3, x4 => if x4 < (x0.length : Int) then (if 0 ≤ x4 then ((laws_toStmt.f k ((rd_T126 x0 x4).f0) ((rd_T126 x0 x4).f1) ((rd_T126 x0 x4).f2) ((rd_T126 x0 x4).f3)).bind fun bt359 => (if x4 < (x3.length : Int) then (laws_toStmtS.l0 k x0 (x3.set (x4 : Int).toNat (⟨bt359.1, bt359.2.1, bt359.2.2.1, bt359.2.2.2⟩ : S114)) (wrap64 (x4 + 1))) else (none))) else (none)) else (some x3)
def laws_toStmtS.f (k : Nat) (l0 : List (S126)) : Option ((List (S114))) := if 0 ≤ (l0.length : Int) then (if ((l0.length : Int) : Int).toNat ≤ 4398046511104 then (laws_toStmtS.l0 k l0 (List.replicate ((l0.length : Int) : Int).toNat z114) 0) else (none)) else (none)
theorem laws_toStmtS.calls (k : Nat) (A0 : Option Addr) (c0 : Nat) (l0 : List (S126)) (r : List (S114)) (w : World) (hr0 : Kd.C k126 w A0 l0.length l0) (hc0 : l0.length ≤ c0) (h : laws_toStmtS.f k l0 = some r) :
 Calls Try.prog 72 #[.slice A0 l0.length c0] w fun e w' => ∃ v0_ : Value, e = .returned (v0_) ∧ Kd.S k114 114 w' w.heap.size (fun _ => True) v0_ r ∧ Below w.heap.size w w' := by
 have hu126 := Try.underlying126
 have hu114 := Try.underlying114
 have q := n2_ hr0 hc0
 clear hr0 hc0
 obtain ⟨HR0, HC0⟩ := q
 have HB := Aside0.mk (Below.refl w.heap.size w)
 unfold laws_toStmtS.f at h
 have H := h
 clear h
 by_cases c2 : 0 ≤ (l0.length : Int)
 ·rw [if_pos c2] at H
  have c2b0 := eq_true c2
  have c2b1 : decide (0 ≤ (l0.length : Int)) = true := decide_eq_true c2
  clear c2
  by_cases c3 : ((l0.length : Int) : Int).toNat ≤ 4398046511104
  ·rw [if_pos c3] at H
   have c3b0 := eq_true c3
   have c3b1 : decide (((l0.length : Int) : Int).toNat ≤ 4398046511104) = true := decide_eq_true c3
   clear c3
   obtain ⟨y355, hy355⟩ : ∃ y_ : List (S114), y_ = (List.replicate ((l0.length : Int) : Int).toNat z114) := ⟨_, rfl⟩
   replace H : (laws_toStmtS.l0 k l0 y355 0) = some r := by first | (rw [hy355]; with_reducible exact H) | (have H2_ := (Option.bind_some _ _).symm.trans H; rw [hy355]; with_reducible exact H2_) | (have H2_ := (Option.bind_some _ _).symm.trans H; with_reducible exact H2_) | with_reducible exact H | (rw [hy355]; exact H) | exact H
   have Ny355 := Aside0.mk hy355
   clear hy355
   have H' := Aside0.mk H
   clear H
   go_enter Try.func72, Try.ntmps72
   go_wp2_with (first | ((with_reducible refine gate_dst (N := 7) rfl ?_); refine Kd.S_make k114 _ 114 rfl (N := 7) rfl 34 _ _ rfl (l0.length : Int) rfl rfl Try.underlying34 (.agg #[(.int .i64 0), (.int .i64 0), (.slice none 0 0), (.slice none 0 0)]) 64 info114 rfl ψ13 ψ21 z114 (ok := fun _ => True) (okp := fun _ => True) (k114_mkM _ _ _ z114 (Kd.R_nil _ _ _ _ _) (Kd.R_nil _ _ _ _ _)) (fun _ hk => hk) trivial (of_decide_eq_true ψ5) (Nat.le_trans (Nat.mul_le_mul_right _ (of_decide_eq_true ψ5 : (l0.length : Int).toNat ≤ 4398046511104)) ψ21) (Below.refl _ _) (Nat.le_refl _) ?_; intro v356 w4 ho5 hb hg_ hnew_; clear hg_ hnew_; (first | rw [← Ny355.out] at ho5 | (simp only [Int.reduceToNat] at ho5; rw [← Ny355.out] at ho5)); have q := n2_ (Kd.S_lower ho5 (below_size ψ6)) (below_step ψ6 hb); clear HB; obtain ⟨HO357, HB⟩ := q; clear hb ho5))
   go_loopg [4] k (fun kq v4 w' => ∃ (x3_1 : List (S114)) (x4_1 : Int), v4 = .int .i64 x4_1 ∧ Aside0 (laws_toStmtS.l0 kq l0 x3_1 x4_1 = some r) ∧ Aside0 (kq ≤ k) ∧ Aside0 (Kd.S k114 114 w' w.heap.size (fun _ => True) v356 x3_1) ∧ Aside0 (Below w.heap.size w w'))
   case atStart => exact ⟨(y355), (0), ψ7, H', ⟨Nat.le_refl _⟩, ⟨have hZ := HO357; kS_⟩, ⟨ψ6⟩⟩
   case round =>
    clear H'
    try clear c2
    try clear c2b0
    try clear c2b1
    try clear c3
    try clear c3b0
    try clear c3b1
    obtain ⟨x3_1, x4_1, rfl, HA, HK1, HO_3, HB⟩ := hrel
    cases gk with
    | zero => exact absurd HA.out (by simp [laws_toStmtS.l0])
    | succ k1 =>
     have H := HA.out
     clear HA
     simp only [laws_toStmtS.l0] at H
     replace H := ifD H; rcases H with ⟨c6b0, H⟩ | ⟨c6b0, H⟩
     ·replace H := ifN H; obtain ⟨c7b0, H⟩ := H
      replace H := bS H; obtain ⟨⟨t359, t360, t361, t364⟩, A8, H⟩ := H
      replace H := ifN H; obtain ⟨c9b0, H⟩ := H
      obtain ⟨y367, hy367⟩ : ∃ y_ : List (S114), y_ = (x3_1.set (x4_1 : Int).toNat (⟨t359, t360, t361, t364⟩ : S114)) := ⟨_, rfl⟩
      replace H : (laws_toStmtS.l0 k1 l0 y367 (wrap64 (x4_1 + 1))) = some r := by first | (rw [hy367]; with_reducible exact H) | (have H2_ := (Option.bind_some _ _).symm.trans H; rw [hy367]; with_reducible exact H2_) | (have H2_ := (Option.bind_some _ _).symm.trans H; with_reducible exact H2_) | with_reducible exact H | (rw [hy367]; exact H) | exact H
      have Ny367 := Aside0.mk hy367
      clear hy367
      have H' := Aside0.mk H
      clear H
      have p358 : 0 ≤ (x4_1 : Int) := of_decide_eq_true ψ5
      have q358 : x4_1 < (l0.length : Int) := of_decide_eq_true ψ5
      obtain ⟨ad358, A358_2, c358_2, A358_3, c358_3, e358, hx358_0, hx358_1, hx358_2, hx358_3, hl358_2, hi358_2, hl358_3, hi358_3⟩ := at_T126 HR0.out x4_1 p358 q358
      cases e358
      replace hx358_0 := cB HB hx358_0
      replace hx358_1 := cB HB hx358_1
      replace hx358_2 := cB HB hx358_2
      replace hx358_3 := cB HB hx358_3
      have q := n4_ hi358_2 hl358_2 hi358_3 hl358_3
      clear hi358_2 hl358_2 hi358_3 hl358_3
      obtain ⟨HR358_2, HC358_2, HR358_3, HC358_3⟩ := q
      replace p358 := eq_true p358
      replace q358 := eq_true q358
      go_wp2_with (first | ((with_reducible refine gate_callee (f := 110) rfl ?_); refine gL 20 Try.func110 #[.agg #[.int .i64 ((rd_T126 l0 x4_1).f0), .int .i64 ((rd_T126 l0 x4_1).f1), .slice A358_2 ((rd_T126 l0 x4_1).f2).length c358_2, .slice A358_3 ((rd_T126 l0 x4_1).f3).length c358_3]] ?_; (with_reducible refine (laws_toStmt.calls k1 ((rd_T126 l0 x4_1).f0) ((rd_T126 l0 x4_1).f1) _ _ ((rd_T126 l0 x4_1).f2) _ _ ((rd_T126 l0 x4_1).f3) _ _ _ _ _ ?_ ?_ ?_ ?_ A8.out).mono ?_); exact (by repeat (first | exact (Kd.C_below HR358_2.out HB.out) | (with_reducible refine Kd.C_alloc ?_ _) | (with_reducible refine Kd.C_drewN ?_ _) | (with_reducible refine Kd.C_drew ?_))); exact HC358_2.out; exact (by repeat (first | exact (Kd.C_below HR358_3.out HB.out) | (with_reducible refine Kd.C_alloc ?_ _) | (with_reducible refine Kd.C_drewN ?_ _) | (with_reducible refine Kd.C_drew ?_))); exact HC358_3.out; rintro e w11 ⟨v362, v365, rfl, ho0, ho1, hb⟩; refine ⟨_, rfl, ?_⟩; have q := n4_ (Kd.S_mono (Kd.S_told (Kd.S_told (Kd.S_old (have hZ := HO_3; kS_) hb) (Kd.R_base ho0)) (Kd.R_base ho1)) (fun _ h_ => h_.1)) (Kd.R_lower ho0 (below_size ψ6)) (Kd.R_lower ho1 (below_size ψ6)) (below_step ψ6 hb); clear HO_3 HB; obtain ⟨HO_3, HO363, HO366, HB⟩ := q; (try clear hb); (try clear ho0); (try clear ho1); have p10 : 0 ≤ (x4_1 : Int) := of_decide_eq_true ψ5; have q10 : (x4_1 : Int) < ((x3_1.length : Int) : Int) := of_decide_eq_true ψ5; obtain ⟨go10, co10, eo10, gb10, gl10, cl10, HG10⟩ := Kd.S_form HO_3.out ψ21; (first | cases eo10 | (injection eo10 with ea_ en_ ec_; (first | subst ea_ | (injection ea_ with ea_; subst ea_)); subst ec_; clear en_)); have GB10 := Aside0.mk gb10; have GG10 := Aside0.mk HG10; clear gb10 gl10 HG10; obtain ⟨_, ce10, hcl10, hM10, hcc10, hfr10, _, _⟩ := Kd.S_elem HO_3.out z114 (x4_1 : Int) p10 q10; obtain ⟨ve10_2, ve10_3, rfl, ge10_2, ge10_3⟩ := k114_openM hM10; have hx10_0 : w11.cell? ⟨go10, (x4_1 : Int).toNat * 4, none⟩ = some (.int .i64 ((rd_T114 x3_1 x4_1).f0)) := hcc10 0 _ rfl; have hx10_1 : w11.cell? ⟨go10, (x4_1 : Int).toNat * 4 + 1, none⟩ = some (.int .i64 ((rd_T114 x3_1 x4_1).f1)) := hcc10 1 _ rfl; have hx10_2 : w11.cell? ⟨go10, (x4_1 : Int).toNat * 4 + 2, none⟩ = some (ve10_2) := hcc10 2 _ rfl; have hx10_3 : w11.cell? ⟨go10, (x4_1 : Int).toNat * 4 + 3, none⟩ = some (ve10_3) := hcc10 3 _ rfl; have hf10_0 : w11.frozen? ⟨go10, (x4_1 : Int).toNat * 4, none⟩ = false := hfr10 0; have hf10_1 : w11.frozen? ⟨go10, (x4_1 : Int).toNat * 4 + 1, none⟩ = false := hfr10 1; have hf10_2 : w11.frozen? ⟨go10, (x4_1 : Int).toNat * 4 + 2, none⟩ = false := hfr10 2; have hf10_3 : w11.frozen? ⟨go10, (x4_1 : Int).toNat * 4 + 3, none⟩ = false := hfr10 3; (try clear hcl10); (try clear hcc10); (try clear hfr10); (try clear hM10); replace p10 := eq_true p10; replace q10 := eq_true q10; have n_ := Aside0.mk (Kd.S_mono (ok' := (fun k_ => some k_ ≠ (v362 : Value).ownBlock ∧ some k_ ≠ (v365 : Value).ownBlock)) HO_3.out (fun k_ hk => ⟨hk.1.2, hk.2⟩)); clear HO_3; have HO_3 := n_; clear n_; have HX12 := Aside0.mk (show Kd.S k114 114 w11 w.heap.size (fun k_ => ((fun _ => True)) k_ ∧ ¬ ((fun k_ => some k_ = (v362 : Value).ownBlock ∨ some k_ = (v365 : Value).ownBlock)) k_) (.slice (some ⟨go10, 0, none⟩) x3_1.length co10) x3_1 from (by (with_reducible repeat (first | apply Kd.S_alloc | apply Kd.S_drewN | apply Kd.S_drew)); exact Kd.S_mono HO_3.out (fun k_ hk => ⟨trivial, fun e_ => e_.elim (fun h_ => hk.1 h_) (fun h_ => hk.2 h_)⟩))); obtain ⟨oki12, ce12, hcl12, hM12, hcc12, hfr12, hoki12, hH12⟩ := Kd.S_elem HX12.out z114 (x4_1 : Int) (of_decide_eq_true ψ5) (by have h_ : (x4_1 : Int) < ((x3_1.length : Int) : Int) := of_decide_eq_true ψ5; first | exact h_ | (have e_ := (Kd.S_reads' HO_3.out).1; omega) | simpa using h_); obtain ⟨ve12_2, ve12_3, rfl, ge12_2, ge12_3⟩ := k114_openM hM12; have HP12 := Kd.S_seg hH12 (of_decide_eq_true ψ5) (by have h_ : (x4_1 : Int) < ((x3_1.length : Int) : Int) := of_decide_eq_true ψ5; first | exact h_ | (have e_ := (Kd.S_reads' HO_3.out).1; omega) | simpa using h_) (seg := [.int .i64 t359, .int .i64 t360, v362, v365]) (j := 0) (show 4 ≤ 4 from ψ13) (x' := (⟨t359, t360, t361, t364⟩ : S114)) (k114_mkM _ _ _ (⟨t359, t360, t361, t364⟩ : S114) (Kd.R_mono (Kd.R_tight rfl (Kd.R_mono (ok' := fun k_ => ((fun _ => True)) k_ ∧ k_ ≠ go10) (Kd.R_apart' (HO363.out) (Kd.S_typed HO_3.out) ψ13) (fun k_ hk => ⟨trivial, fun e_ => (hk.2) (by rw [e_]; rfl)⟩))) (fun _ h_ => Or.inr (Or.inl h_))) (Kd.R_mono (Kd.R_tight rfl (Kd.R_mono (ok' := fun k_ => ((fun _ => True)) k_ ∧ k_ ≠ go10) (Kd.R_apart' (HO366.out) (Kd.S_typed HO_3.out) ψ13) (fun k_ hk => ⟨trivial, fun e_ => (hk.2) (by rw [e_]; rfl)⟩))) (fun _ h_ => Or.inr (Or.inr (h_))))) (fun _ hk => hk) (fun k_ hk_ => hk_.elim (fun h_ => ((Kd.R_mono (ok' := fun k_ => ((fun _ => True)) k_ ∧ k_ ≠ go10) (Kd.R_apart' (HO363.out) (Kd.S_typed HO_3.out) ψ13) (fun k_ hk => ⟨trivial, fun e_ => (hk.2) (by rw [e_]; rfl)⟩))).1 k_ h_.symm) (fun h_ => ((Kd.R_mono (ok' := fun k_ => ((fun _ => True)) k_ ∧ k_ ≠ go10) (Kd.R_apart' (HO366.out) (Kd.S_typed HO_3.out) ψ13) (fun k_ hk => ⟨trivial, fun e_ => (hk.2) (by rw [e_]; rfl)⟩))).1 k_ h_.symm)); have hx12_0 := hcc12 0 _ rfl; (try simp only [show (k114).sz = 4 from rfl, Nat.mul_one, Nat.add_zero] at hx12_0); have hf12_0 := hfr12 0; (try simp only [show (k114).sz = 4 from rfl, Nat.mul_one, Nat.add_zero] at hf12_0); have hx12_1 := hcc12 1 _ rfl; (try simp only [show (k114).sz = 4 from rfl, Nat.mul_one, Nat.add_zero] at hx12_1); have hf12_1 := hfr12 1; (try simp only [show (k114).sz = 4 from rfl, Nat.mul_one, Nat.add_zero] at hf12_1); have hx12_2 := hcc12 2 _ rfl; (try simp only [show (k114).sz = 4 from rfl, Nat.mul_one, Nat.add_zero] at hx12_2); have hf12_2 := hfr12 2; (try simp only [show (k114).sz = 4 from rfl, Nat.mul_one, Nat.add_zero] at hf12_2); have hx12_3 := hcc12 3 _ rfl; (try simp only [show (k114).sz = 4 from rfl, Nat.mul_one, Nat.add_zero] at hx12_3); have hf12_3 := hfr12 3; (try simp only [show (k114).sz = 4 from rfl, Nat.mul_one, Nat.add_zero] at hf12_3); clear hcl12 hcc12 hfr12 hM12 hoki12 hH12) | ((with_reducible refine gate_store (t := 114) (p := 21) rfl ?_); have v362_hv_ : ∃ A_ n_ c_, v362 = .slice A_ n_ c_ := ψ43; obtain ⟨_, _, _, v362_hw_⟩ := v362_hv_; have v365_hv_ : ∃ A_ n_ c_, v365 = .slice A_ n_ c_ := ψ43; obtain ⟨_, _, _, v365_hw_⟩ := v365_hv_; refine store_event (t := 114) (p := 21) (v := ?vo_w13) (w1 := ((((w11.setCell ⟨go10, (x4_1 : Int).toNat * 4, none⟩ (.int .i64 t359)).setCell ⟨go10, (x4_1 : Int).toNat * 4 + 1, none⟩ (.int .i64 t360)).setCell ⟨go10, (x4_1 : Int).toNat * 4 + 2, none⟩ (v362)).setCell ⟨go10, (x4_1 : Int).toNat * 4 + 3, none⟩ (v365))) ?hg ?ho ?hn ?hr ?_; (case ho => rfl); (case hg => rfl); (case hn => rfl); (case hr => first | (go_simp; done) | (go_simp; rfl) | (simp only [v362_hw_, v365_hw_]; go_simp; done) | (simp only [v362_hw_, v365_hw_]; go_simp; rfl)); intro w13 hw; have hg : w11.grownBy w13 (some go10) := (by rw [hw]; exact HP12.2); have hp_ : Kd.S k114 114 w13 w.heap.size (fun _ => True) (.slice (some ⟨go10, 0, none⟩) x3_1.length co10) y367 := (by rw [hw, Ny367.out]; exact HP12.1); clear HP12; have q := n2_ (hp_) ((by rw [hw]; exact below_set (below_set (below_set (below_set (HB.out) GB10.out) GB10.out) GB10.out) GB10.out : Below w.heap.size w w13)); clear HO_3 HB HO363 HO366; obtain ⟨HO_3, HB⟩ := q; clear hg hw hp_))
      go_roundg k1
      case measure => have := HK1.out; omega
      case rel => exact ⟨(y367), (wrap64 (x4_1 + 1)), ψ7, H', ⟨ψ8⟩, ⟨have hZ := HO_3; kS_⟩, ⟨ψ6⟩⟩
     ·obtain rfl := Option.some.inj H
      go_wp2
      go_ret
      exact ⟨_, ψ4, ψ44, ψ6⟩
  ·rw [if_neg c3] at H
   exact absurd H ψ22
 ·rw [if_neg c2] at H
  exact absurd H ψ22

end Go.Proofs.Ytakmkdlkipfnhaa.PCore

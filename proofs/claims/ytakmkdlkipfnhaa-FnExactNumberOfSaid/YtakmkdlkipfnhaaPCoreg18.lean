/- The walks of the functions that the laws come to, part 18: turned out of the kit's print, and mended where that fell. -/
import Derived.Test.YtakmkdlkipfnhaaPCoreg
import Derived.Test.YtakmkdlkipfnhaaPCoreg17
namespace Go.Proofs.Ytakmkdlkipfnhaa.PCore
open Go.RowKit Go.Proofs.YtakmkdlkipfnhaaW.PrintWords Go.Proofs.YtakmkdlkipfnhaaW.PrintLast Go.Proofs.YtakmkdlkipfnhaaW.PrintMore
attribute [local go_sem] max2_int min2_int max_two min_two max_three min_three max_four min_four   -- for this text's walks alone
set_option linter.unusedVariables false
set_option maxHeartbeats 8000000
set_option maxRecDepth 100000
set_option linter.unusedSimpArgs false

theorem ψ178 {P : Prop} (h : P := by (with_reducible repeat (first | apply Kd.R_alloc | apply Kd.R_drewN | apply Kd.R_drew)); exact (Kd.R_mono (Kd.R_far (p := ⟨gb11, 1, none⟩) (Kd.R_far (p := ⟨gb11, 0, none⟩) (Kd.R_types HO937.out BK11.out (ψ13)) (fun _ hk => hk.2) (.slice Ao13 t935.length co13)) (fun _ hk => hk.2) (.slice Ao16 t938.length co16)) (fun _ h_ => h_.1))) : P := h
/-! ### spec_l7Maxes: function 81 -/
mutual
def spec_l7Maxes.l0 : Nat → List Int → Int → Int → List (S106) → List (S106) → Int → List Int → List (S114) → Option (List Int)
 | 0, _, _, _, _, _, _, _, _ => none
 | k + 1, x3, x4, x918000, x918001, x918002, x918003, x918004, x918005 => if x4 < (x918001.length : Int) then (if 0 ≤ x4 then (if x3.length < 17592186044416 then (spec_l7Maxes.l0 k (x3 ++ [(rd_T106 x918001 x4).f0]) (wrap64 (x4 + 1)) x918000 x918001 x918002 x918003 x918004 x918005) else (none)) else (none)) else (spec_l7Maxes.l1 k x3 0 x918000 x918001 x918002 x918003 x918004 x918005)
def spec_l7Maxes.l1 : Nat → List Int → Int → Int → List (S106) → List (S106) → Int → List Int → List (S114) → Option (List Int)
 | 0, _, _, _, _, _, _, _, _ => none
 | k + 1, x3, x5, x918000, x918001, x918002, x918003, x918004, x918005 => if x5 < (x918002.length : Int) then (if 0 ≤ x5 then (if x3.length < 17592186044416 then (spec_l7Maxes.l1 k (x3 ++ [(rd_T106 x918002 x5).f0]) (wrap64 (x5 + 1)) x918000 x918001 x918002 x918003 x918004 x918005) else (none)) else (none)) else (some x3)
end
def spec_l7Maxes.f (k : Nat) (a0_0 : Int) (l0_1 : List (S106)) (l0_2 : List (S106)) (a0_3 : Int) (l0_4 : List Int) (l0_5 : List (S114)) : Option (List Int) := spec_l7Maxes.l0 k (([] : List Int)) 0 a0_0 l0_1 l0_2 a0_3 l0_4 l0_5
theorem spec_l7Maxes.calls (k : Nat) (a0_0 : Int) (A0_1 : Option Addr) (c0_1 : Nat) (l0_1 : List (S106)) (A0_2 : Option Addr) (c0_2 : Nat) (l0_2 : List (S106)) (a0_3 : Int) (A0_4 : Option Addr) (c0_4 : Nat) (l0_4 : List Int) (A0_5 : Option Addr) (c0_5 : Nat) (l0_5 : List (S114)) (r : List Int) (w : World) (hr0_1 : Kd.C k106 w A0_1 l0_1.length l0_1) (hc0_1 : l0_1.length ≤ c0_1) (hr0_2 : Kd.C k106 w A0_2 l0_2.length l0_2) (hc0_2 : l0_2.length ≤ c0_2) (hr0_4 : Kd.C (Kd.int .i64) w A0_4 l0_4.length l0_4) (hc0_4 : l0_4.length ≤ c0_4) (hr0_5 : Kd.C k114 w A0_5 l0_5.length l0_5) (hc0_5 : l0_5.length ≤ c0_5) (h : spec_l7Maxes.f k a0_0 l0_1 l0_2 a0_3 l0_4 l0_5 = some r) :
 Calls Try.prog 81 #[.agg #[.int .i64 a0_0, .slice A0_1 l0_1.length c0_1, .slice A0_2 l0_2.length c0_2, .int .i64 a0_3, .slice A0_4 l0_4.length c0_4, .slice A0_5 l0_5.length c0_5]] w fun e w' => ∃ v0_ : Value, e = .returned (v0_) ∧ Kd.R (Kd.int .i64) 2 w' w.heap.size (fun _ => True) v0_ r ∧ Below w.heap.size w w' := by
 have hu36 := Try.underlying36
 have q := n8_ hr0_1 hc0_1 hr0_2 hc0_2 hr0_4 hc0_4 hr0_5 hc0_5
 clear hr0_1 hc0_1 hr0_2 hc0_2 hr0_4 hc0_4 hr0_5 hc0_5
 obtain ⟨HR0_1, HC0_1, HR0_2, HC0_2, HR0_4, HC0_4, HR0_5, HC0_5⟩ := q
 have HB := Aside0.mk (Below.refl w.heap.size w)
 unfold spec_l7Maxes.f at h
 have H := h
 clear h
 obtain ⟨y918, hy918⟩ : ∃ y_ : List Int, y_ = (([] : List Int)) := ⟨_, rfl⟩
 replace H : (spec_l7Maxes.l0 k y918 0 a0_0 l0_1 l0_2 a0_3 l0_4 l0_5) = some r := by first | (rw [hy918]; with_reducible exact H) | (have H2_ := (Option.bind_some _ _).symm.trans H; rw [hy918]; with_reducible exact H2_) | (have H2_ := (Option.bind_some _ _).symm.trans H; with_reducible exact H2_) | with_reducible exact H | (rw [hy918]; exact H) | exact H
 have Ny918 := Aside0.mk hy918
 clear hy918
 have H' := Aside0.mk H
 clear H
 go_enter Try.func81, Try.ntmps81
 go_wp2_with (first | ((with_reducible refine gate_dst (N := 1) rfl ?_); refine bE 1 #[.int .i64 a0_0, .slice A0_1 l0_1.length c0_1, .slice A0_2 l0_2.length c0_2, .int .i64 a0_3, .slice A0_4 l0_4.length c0_4, .slice A0_5 l0_5.length c0_5] 36 ?_; intro gb10 hg w2 hbox hb; have q := n4_ (below_step ψ2 hb) (hbox) ((ψ113 : w.heap.size ≤ gb10)) ((ψ113 : w.heap.size ≤ gb10)); clear HB; obtain ⟨HB, BK10, GW10, GE10⟩ := q; clear hb hbox hg) | ((with_reducible refine gate_dst (N := 6) rfl ?_); refine Kd.R_lit (Kd.int .i64) _ 2 ?hg (N := 6) ?hd (xs := ([] : List Int)) (inner := []) (ok := fun _ => True) (okp := fun _ => True) ?hr ?hp (fun _ hk => hk) trivial (Below.refl _ _) (Nat.le_refl _) ψ22 ?_; (case hd => rfl); (case hg => rfl); (case hr => first | (go_simp; done) | (go_simp; rfl)); (case hp => exact (Reps.none _ _)); intro v919 w3 ho4 hb hg_ hnew_; clear hg_ hnew_; (first | rw [← Ny918.out] at ho4 | (simp only [Int.reduceToNat] at ho4; rw [← Ny918.out] at ho4)); have q := n3_ (Kd.R_lower ho4 (below_size ψ2)) (blk_below (g := gb10) ψ10 hb) (below_step ψ2 hb); clear BK10 HB; obtain ⟨HO920, BK10, HB⟩ := q; clear hb ho4))
 go_loopg [3, 4] k (fun kq v3 v4 w' => ∃ (x3_1 : List Int) (x4_1 : Int), v4 = .int .i64 x4_1 ∧ Aside0 (spec_l7Maxes.l0 kq x3_1 x4_1 a0_0 l0_1 l0_2 a0_3 l0_4 l0_5 = some r) ∧ Aside0 (kq ≤ k) ∧ Aside0 (Kd.R (Kd.int .i64) 2 w' w.heap.size (fun _ => True) v3 x3_1) ∧ Aside0 (w'.heap[gb10]? = some (.cells #[.int .i64 a0_0, (.slice A0_1 l0_1.length c0_1), (.slice A0_2 l0_2.length c0_2), .int .i64 a0_3, (.slice A0_4 l0_4.length c0_4), (.slice A0_5 l0_5.length c0_5)] 36 (0, 0))) ∧ Aside0 (Below w.heap.size w w'))
 case atStart => exact ⟨(y918), (0), ψ7, H', ⟨Nat.le_refl _⟩, ⟨have hZ := HO920; kR_⟩, ⟨ψ10⟩, ⟨ψ2⟩⟩
 case round =>
  clear H'
  obtain ⟨x3_1, x4_1, rfl, HA, HK1, HO_3, BK10, HB⟩ := hrel
  cases gk with
  | zero => exact absurd HA.out (by simp [spec_l7Maxes.l0])
  | succ k1 =>
   have H := HA.out
   clear HA
   simp only [spec_l7Maxes.l0] at H
   replace H := ifD H; rcases H with ⟨c5b0, H⟩ | ⟨c5b0, H⟩
   ·replace H := ifN H; obtain ⟨c6b0, H⟩ := H
    by_cases c7 : x3_1.length < 17592186044416
    ·rw [if_pos c7] at H
     have LMc7 := Aside0.mk c7
     clear c7
     obtain ⟨y924, hy924⟩ : ∃ y_ : List Int, y_ = (x3_1 ++ [(rd_T106 l0_1 x4_1).f0]) := ⟨_, rfl⟩
     replace H : (spec_l7Maxes.l0 k1 y924 (wrap64 (x4_1 + 1)) a0_0 l0_1 l0_2 a0_3 l0_4 l0_5) = some r := by first | (rw [hy924]; with_reducible exact H) | (have H2_ := (Option.bind_some _ _).symm.trans H; rw [hy924]; with_reducible exact H2_) | (have H2_ := (Option.bind_some _ _).symm.trans H; with_reducible exact H2_) | with_reducible exact H | (rw [hy924]; exact H) | exact H
     have Ny924 := Aside0.mk hy924
     clear hy924
     have H' := Aside0.mk H
     clear H
     obtain ⟨y8_0, y8_1, y8_2, y8_3, y8_4, y8_5, u8_0, u8_1, u8_2, u8_3, u8_4, u8_5⟩ := cells6 BK10.out
     have p923 : 0 ≤ (x4_1 : Int) := of_decide_eq_true ψ5
     have q923 : x4_1 < (l0_1.length : Int) := of_decide_eq_true ψ5
     obtain ⟨ad923, e923, hx923_0, hx923_1⟩ := at_T106 HR0_1.out x4_1 p923 q923
     cases e923
     replace hx923_0 := cB HB hx923_0
     replace hx923_1 := cB HB hx923_1
     replace p923 := eq_true p923
     replace q923 := eq_true q923
     go_wp2_with (first | ((with_reducible refine gate_builtin (b := .append) (xs := #[.tmp 14, .tmp 21]) rfl ?_); at_builtin; refine Kd.R_append (Kd.int .i64) (w0 := w) w.heap.size rfl (.tmp 14) (.tmp 21) 23 2 (.int .i64 0) 8 rfl Try.underlying23 info2 rfl ψ13 ψ21 u3 x3_1 ((rd_T106 l0_1 x4_1).f0) [.int .i64 ((rd_T106 l0_1 x4_1).f0)] (fun _ => True) (fun _ => False) rfl rfl ?aP (fun _ hk => hk.elim) ?aF ?aO ?aB ?aS ?aL ?_; (case aP => exact rfl); (case aB => exact ψ2); (case aF => exact (fun _ _ => trivial)); (case aO => exact (have hZ := HO_3; kR_)); (case aS => exact (below_size ψ2)); (case aL => have := LMc7.out; omega); intro v925 w9 ho hb hg hat; rw [← Ny924.out] at ho; have q := n3_ (blk_grown (g := gb10) ψ10 hg (Kd.R_ne HO_3.out BK10.out ψ13)) (hb) (ho); clear BK10 HB HO_3; obtain ⟨BK10, HB, HO926⟩ := q; clear ho hb hg hat))
     go_roundg k1
     case measure => have := HK1.out; omega
     case rel => exact ⟨(y924), (wrap64 (x4_1 + 1)), ψ7, H', ⟨ψ8⟩, ⟨have hZ := HO926; kR_⟩, ⟨ψ10⟩, ⟨ψ2⟩⟩
    ·rw [if_neg c7] at H
     exact absurd H ψ22
   ·have H' := Aside0.mk H
    clear H
    obtain ⟨y10_0, y10_1, y10_2, y10_3, y10_4, y10_5, u10_0, u10_1, u10_2, u10_3, u10_4, u10_5⟩ := cells6 BK10.out
    go_wp2
    go_loopg [3, 5] k1 (fun kq v3 v5 w' => ∃ (x3_2 : List Int) (x5_2 : Int), v5 = .int .i64 x5_2 ∧ Aside0 (spec_l7Maxes.l1 kq x3_2 x5_2 a0_0 l0_1 l0_2 a0_3 l0_4 l0_5 = some r) ∧ Aside0 (kq ≤ k1) ∧ Aside0 (Kd.R (Kd.int .i64) 2 w' w.heap.size (fun _ => True) v3 x3_2) ∧ Aside0 (w'.heap[gb10]? = some (.cells #[.int .i64 a0_0, (.slice A0_1 l0_1.length c0_1), (.slice A0_2 l0_2.length c0_2), .int .i64 a0_3, (.slice A0_4 l0_4.length c0_4), (.slice A0_5 l0_5.length c0_5)] 36 (0, 0))) ∧ Aside0 (Below w.heap.size w w'))
    case atStart => exact ⟨(x3_1), (0), ψ7, H', ⟨Nat.le_refl _⟩, ⟨have hZ := HO_3; kR_⟩, ⟨ψ10⟩, ⟨ψ2⟩⟩
    case round =>
     clear H'
     try clear c5
     try clear c5b0
     try clear c6
     try clear c6b0
     try clear c7
     try clear y10_0 y10_1 y10_2 y10_3 y10_4 y10_5
     try clear y8_0 y8_1 y8_2 y8_3 y8_4 y8_5
     try clear u10_0 u10_1 u10_2 u10_3 u10_4 u10_5
     try clear u8_0 u8_1 u8_2 u8_3 u8_4 u8_5
     try clear hx923_0
     try clear hx923_1
     try clear p923
     try clear q923
     obtain ⟨x3_2, x5_2, rfl, HA, HK2, HO_3, BK10, HB⟩ := hrel
     cases gk with
     | zero => exact absurd HA.out (by simp [spec_l7Maxes.l1])
     | succ k2 =>
      have H := HA.out
      clear HA
      simp only [spec_l7Maxes.l1] at H
      replace H := ifD H; rcases H with ⟨c11b0, H⟩ | ⟨c11b0, H⟩
      ·replace H := ifN H; obtain ⟨c12b0, H⟩ := H
       by_cases c13 : x3_2.length < 17592186044416
       ·rw [if_pos c13] at H
        have LMc13 := Aside0.mk c13
        clear c13
        obtain ⟨y930, hy930⟩ : ∃ y_ : List Int, y_ = (x3_2 ++ [(rd_T106 l0_2 x5_2).f0]) := ⟨_, rfl⟩
        replace H : (spec_l7Maxes.l1 k2 y930 (wrap64 (x5_2 + 1)) a0_0 l0_1 l0_2 a0_3 l0_4 l0_5) = some r := by first | (rw [hy930]; with_reducible exact H) | (have H2_ := (Option.bind_some _ _).symm.trans H; rw [hy930]; with_reducible exact H2_) | (have H2_ := (Option.bind_some _ _).symm.trans H; with_reducible exact H2_) | with_reducible exact H | (rw [hy930]; exact H) | exact H
        have Ny930 := Aside0.mk hy930
        clear hy930
        have H' := Aside0.mk H
        clear H
        obtain ⟨y14_0, y14_1, y14_2, y14_3, y14_4, y14_5, u14_0, u14_1, u14_2, u14_3, u14_4, u14_5⟩ := cells6 BK10.out
        have p929 : 0 ≤ (x5_2 : Int) := of_decide_eq_true ψ5
        have q929 : x5_2 < (l0_2.length : Int) := of_decide_eq_true ψ5
        obtain ⟨ad929, e929, hx929_0, hx929_1⟩ := at_T106 HR0_2.out x5_2 p929 q929
        cases e929
        replace hx929_0 := cB HB hx929_0
        replace hx929_1 := cB HB hx929_1
        replace p929 := eq_true p929
        replace q929 := eq_true q929
        go_wp2_with (first | ((with_reducible refine gate_builtin (b := .append) (xs := #[.tmp 30, .tmp 37]) rfl ?_); at_builtin; refine Kd.R_append (Kd.int .i64) (w0 := w) w.heap.size rfl (.tmp 30) (.tmp 37) 23 2 (.int .i64 0) 8 rfl Try.underlying23 info2 rfl ψ13 ψ21 u3 x3_2 ((rd_T106 l0_2 x5_2).f0) [.int .i64 ((rd_T106 l0_2 x5_2).f0)] (fun _ => True) (fun _ => False) rfl rfl ?aP (fun _ hk => hk.elim) ?aF ?aO ?aB ?aS ?aL ?_; (case aP => exact rfl); (case aB => exact ψ2); (case aF => exact (fun _ _ => trivial)); (case aO => exact (have hZ := HO_3; kR_)); (case aS => exact (below_size ψ2)); (case aL => have := LMc13.out; omega); intro v931 w15 ho hb hg hat; rw [← Ny930.out] at ho; have q := n3_ (blk_grown (g := gb10) ψ10 hg (Kd.R_ne HO_3.out BK10.out ψ13)) (hb) (ho); clear BK10 HB HO_3; obtain ⟨BK10, HB, HO932⟩ := q; clear ho hb hg hat))
        go_roundg k2
        case measure => have := HK1.out; have := HK2.out; omega
        case rel => exact ⟨(y930), (wrap64 (x5_2 + 1)), ψ7, H', ⟨by have := HK1.out; have := HK2.out; omega⟩, ⟨have hZ := HO932; kR_⟩, ⟨ψ10⟩, ⟨ψ2⟩⟩
       ·rw [if_neg c13] at H
        exact absurd H ψ22
      ·obtain rfl := Option.some.inj H
       obtain ⟨y16_0, y16_1, y16_2, y16_3, y16_4, y16_5, u16_0, u16_1, u16_2, u16_3, u16_4, u16_5⟩ := cells6 BK10.out
       go_wp2
       go_ret
       exact ⟨_, ψ4, ψ35, ψ2⟩

/-! ### spec_NumberOf: function 62 -/
def spec_NumberOf.l0 : Nat → List Int → List Int → Int → Int → Option (Int)
 | 0, _, _, _, _ => none
 | k + 1, x9, x10, x11, x12 => if x12 ≥ 0 then (if 0 ≤ x12 then (if x12 < (x10.length : Int) then (if x12 < (x9.length : Int) then (spec_NumberOf.l0 k x9 x10 (wrap64 ((wrap64 (x11 * (wrap64 ((rd x10 x12) + 1)))) + (rd x9 x12))) (wrap64 (x12 - 1))) else (none)) else (none)) else (none)) else (some x11)
def spec_NumberOf.f (k : Nat) (a0_0 : Int) (l0_1 : List (S106)) (l0_2 : List (S106)) (a0_3 : Int) (l0_4 : List Int) (l0_5 : List (S114)) (l1 : List Int) (l2 : List Int) : Option (Int) := (spec_StartOf.f k a0_0 l0_1 l0_2 a0_3 l0_4 l0_5 l1 l2).bind fun bt935 => (if bt935.2.2 = true then ((some (([] : List Int) : List Int)).bind fun y943 => (if y943.length + l1.length < 17592186044416 then ((some (y943 ++ l1 : List Int)).bind fun y946 => (if y946.length + l2.length < 17592186044416 then ((spec_l7Maxes.f k a0_0 l0_1 l0_2 a0_3 l0_4 l0_5).bind fun t953 => (spec_NumberOf.l0 k (y946 ++ l2) t953 0 (wrap64 ((t953.length : Int) - 1)))) else (none))) else (none))) else (some (-1)))
theorem τ78 {P : Prop} (h : P := by
 first | obtain rfl := Option.some.inj H | (have H' := Aside0.mk H; clear H)
 try (have p956 : 0 ≤ (x12_1 : Int) := of_decide_eq_true ψ5; have q956 : x12_1 < (t953.length : Int) := of_decide_eq_true ψ5; obtain ⟨ad956, e956, hx956_0⟩ := Kd.at_int (Kd.R_reads' HO_10.out).2.2 x12_1 p956 q956; cases e956; replace p956 := eq_true p956; replace q956 := eq_true q956)
 try (obtain ⟨Ao1_, co1_, eo1_⟩ := Kd.R_slice HO_9.out)
 try (subst eo1_)
 try (have p957 : 0 ≤ (x12_1 : Int) := of_decide_eq_true ψ5; have q957 : x12_1 < (y949.length : Int) := of_decide_eq_true ψ5; obtain ⟨ad957, e957, hx957_0⟩ := Kd.at_int (Kd.R_reads' HO_9.out).2.2 x12_1 p957 q957; cases e957; replace p957 := eq_true p957; replace q957 := eq_true q957)
 go_wp2_with (first | ((with_reducible refine qR_ ?_)) | ((with_reducible refine wpQuiet_step (fun K hK => ?_)); go_simp; first | (refine hK _ ?_; clear hK K) | (apply Exists.intro; refine ⟨fun _ => ?_, hK _ ?_⟩)) | ((with_reducible refine wpQuiet_nil ?_); rintro _ ⟨nq, rfl⟩))
 first | (go_roundg k1; (case measure => have := HK1.out; omega); (case rel => exact ⟨(wrap64 ((wrap64 (x11_1 * (wrap64 ((rd t953 x12_1) + 1)))) + (rd y949 x12_1))), (wrap64 (x12_1 - 1)), ψ7, ψ7, H', ⟨ψ8⟩, ⟨have hZ := HO_9; kR_⟩, ⟨have hZ := HO_10; kR_⟩, ⟨have hZ := HO_943000; kR_⟩, ⟨have hZ := HO_943001; kS_⟩, ⟨ψ10⟩, ⟨ψ24⟩, ⟨ψ25⟩⟩)) | (go_ret; exact ⟨ψ4, ψ25⟩)) : P := h
theorem spec_NumberOf.calls (k : Nat) (a0_0 : Int) (A0_1 : Option Addr) (c0_1 : Nat) (l0_1 : List (S106)) (A0_2 : Option Addr) (c0_2 : Nat) (l0_2 : List (S106)) (a0_3 : Int) (A0_4 : Option Addr) (c0_4 : Nat) (l0_4 : List Int) (A0_5 : Option Addr) (c0_5 : Nat) (l0_5 : List (S114)) (A1 : Option Addr) (c1 : Nat) (l1 : List Int) (A2 : Option Addr) (c2 : Nat) (l2 : List Int) (r : Int) (w : World) (hr0_1 : Kd.C k106 w A0_1 l0_1.length l0_1) (hc0_1 : l0_1.length ≤ c0_1) (hr0_2 : Kd.C k106 w A0_2 l0_2.length l0_2) (hc0_2 : l0_2.length ≤ c0_2) (hr0_4 : Kd.C (Kd.int .i64) w A0_4 l0_4.length l0_4) (hc0_4 : l0_4.length ≤ c0_4) (hr0_5 : Kd.C k114 w A0_5 l0_5.length l0_5) (hc0_5 : l0_5.length ≤ c0_5) (hr1 : Kd.C (Kd.int .i64) w A1 l1.length l1) (hc1 : l1.length ≤ c1) (hr2 : Kd.C (Kd.int .i64) w A2 l2.length l2) (hc2 : l2.length ≤ c2) (h : spec_NumberOf.f k a0_0 l0_1 l0_2 a0_3 l0_4 l0_5 l1 l2 = some r) :
 Calls Try.prog 62 #[.agg #[.int .i64 a0_0, .slice A0_1 l0_1.length c0_1, .slice A0_2 l0_2.length c0_2, .int .i64 a0_3, .slice A0_4 l0_4.length c0_4, .slice A0_5 l0_5.length c0_5], .slice A1 l1.length c1, .slice A2 l2.length c2] w fun e w' => e = .returned (.int .i64 r) ∧ Below w.heap.size w w' := by
 have hu36 := Try.underlying36
 have hu38 := Try.underlying38
 have q := n12_ hr0_1 hc0_1 hr0_2 hc0_2 hr0_4 hc0_4 hr0_5 hc0_5 hr1 hc1 hr2 hc2
 clear hr0_1 hc0_1 hr0_2 hc0_2 hr0_4 hc0_4 hr0_5 hc0_5 hr1 hc1 hr2 hc2
 obtain ⟨HR0_1, HC0_1, HR0_2, HC0_2, HR0_4, HC0_4, HR0_5, HC0_5, HR1, HC1, HR2, HC2⟩ := q
 have HB := Aside0.mk (Below.refl w.heap.size w)
 unfold spec_NumberOf.f at h
 have H := h
 clear h
 replace H := bS H; obtain ⟨⟨t935, t938, t941⟩, A4, H⟩ := H
 replace H := ifB H; rcases H with ⟨rfl, H⟩ | ⟨rfl, H⟩
 ·obtain ⟨y943, hy943⟩ : ∃ y_ : List Int, y_ = (([] : List Int)) := ⟨_, rfl⟩
  replace H : (if y943.length + l1.length < 17592186044416 then ((some (y943 ++ l1 : List Int)).bind fun y946 => (if y946.length + l2.length < 17592186044416 then ((spec_l7Maxes.f k a0_0 l0_1 l0_2 a0_3 l0_4 l0_5).bind fun t953 => (spec_NumberOf.l0 k (y946 ++ l2) t953 0 (wrap64 ((t953.length : Int) - 1)))) else (none))) else (none)) = some r := by first | (rw [hy943]; with_reducible exact H) | (have H2_ := (Option.bind_some _ _).symm.trans H; rw [hy943]; with_reducible exact H2_) | (have H2_ := (Option.bind_some _ _).symm.trans H; with_reducible exact H2_) | with_reducible exact H | (rw [hy943]; exact H) | exact H
  have Ny943 := Aside0.mk hy943
  clear hy943
  by_cases c6 : y943.length + l1.length < 17592186044416
  ·rw [if_pos c6] at H
   have LMc6 := Aside0.mk c6
   clear c6
   obtain ⟨y946, hy946⟩ : ∃ y_ : List Int, y_ = (y943 ++ l1) := ⟨_, rfl⟩
   replace H : (if y946.length + l2.length < 17592186044416 then ((spec_l7Maxes.f k a0_0 l0_1 l0_2 a0_3 l0_4 l0_5).bind fun t953 => (spec_NumberOf.l0 k (y946 ++ l2) t953 0 (wrap64 ((t953.length : Int) - 1)))) else (none)) = some r := by first | (rw [hy946]; with_reducible exact H) | (have H2_ := (Option.bind_some _ _).symm.trans H; rw [hy946]; with_reducible exact H2_) | (have H2_ := (Option.bind_some _ _).symm.trans H; with_reducible exact H2_) | with_reducible exact H | (rw [hy946]; exact H) | exact H
   have Ny946 := Aside0.mk hy946
   clear hy946
   by_cases c7 : y946.length + l2.length < 17592186044416
   ·rw [if_pos c7] at H
    have LMc7 := Aside0.mk c7
    clear c7
    obtain ⟨y949, hy949⟩ : ∃ y_ : List Int, y_ = (y946 ++ l2) := ⟨_, rfl⟩
    replace H : ((spec_l7Maxes.f k a0_0 l0_1 l0_2 a0_3 l0_4 l0_5).bind fun t953 => (spec_NumberOf.l0 k y949 t953 0 (wrap64 ((t953.length : Int) - 1)))) = some r := by first | (rw [hy949]; with_reducible exact H) | (have H2_ := (Option.bind_some _ _).symm.trans H; rw [hy949]; with_reducible exact H2_) | (have H2_ := (Option.bind_some _ _).symm.trans H; with_reducible exact H2_) | with_reducible exact H | (rw [hy949]; exact H) | exact H
    have Ny949 := Aside0.mk hy949
    clear hy949
    replace H := bS H; obtain ⟨t953, A8, H⟩ := H
    have H' := Aside0.mk H
    clear H
    go_enter Try.func62, Try.ntmps62
    go_wp2_with (first | ((with_reducible refine gate_dst (N := 3) rfl ?_); refine bE 3 #[.int .i64 a0_0, .slice A0_1 l0_1.length c0_1, .slice A0_2 l0_2.length c0_2, .int .i64 a0_3, .slice A0_4 l0_4.length c0_4, .slice A0_5 l0_5.length c0_5] 36 ?_; intro gb10 hg w9 hbox hb; have q := n4_ (below_step ψ25 hb) (hbox) ((ψ115 : w.heap.size ≤ gb10)) ((ψ115 : w.heap.size ≤ gb10)); clear HB; obtain ⟨HB, BK10, GW10, GE10⟩ := q; clear hb hbox hg; obtain ⟨y10_0, y10_1, y10_2, y10_3, y10_4, y10_5, u10_0, u10_1, u10_2, u10_3, u10_4, u10_5⟩ := cells6 BK10.out) | (go_at_call 29; (with_reducible refine (spec_StartOf.calls k a0_0 _ _ l0_1 _ _ l0_2 a0_3 _ _ l0_4 _ _ l0_5 _ _ l1 _ _ l2 _ _ _ _ ?_ ?_ ?_ ?_ ?_ ?_ ?_ ?_ ?_ ?_ ?_ ?_ A4.out).mono ?_); exact ψ9; exact HC0_1.out; exact ψ3; exact HC0_2.out; exact ψ16; exact HC0_4.out; exact ψ17; exact HC0_5.out; exact ψ23; exact HC1.out; exact ψ103; exact HC2.out; rintro e w11 ⟨v936, v939, rfl, ho0, ho1, hb⟩; have q := n4_ (Kd.R_lower ho0 (below_size ψ25)) (Kd.S_lower ho1 (below_size ψ25)) (blk_below (g := gb10) ψ10 hb) (below_step ψ25 hb); clear BK10 HB; obtain ⟨HO937, HO940, BK10, HB⟩ := q; (try clear hb); (try clear ho0); (try clear ho1)) | ((with_reducible refine gate_dst (N := 7) rfl ?_); refine bE 7 #[.slice none 0 0, .slice none 0 0] 38 ?_; intro gb11 hg w12 hbox hb; have q := n9_ (Kd.R_below (have hZ := HO937; kR_) hb) (Kd.S_below (have hZ := HO940; kS_) hb) (blk_below (g := gb10) ψ10 hb) (below_step ψ25 hb) (hbox) ((ψ115 : w.heap.size ≤ gb11)) ((ψ115 : w.heap.size ≤ gb11)) ((ψ116 : gb10 ≠ gb11)) ((ψ117 : gb11 ≠ gb10)); clear HO937 HO940 BK10 HB; obtain ⟨HO937, HO940, BK10, HB, BK11, GW11, GE11, NB10_11, NB11_10⟩ := q; clear hb hbox hg; obtain ⟨Ao13, co13, eo13⟩ := Kd.R_slice HO937.out; subst eo13; have hnb14 := NB11_10.out; have hnc14 := NB10_11.out; obtain ⟨y15_0, y15_1, u15_0, u15_1⟩ := cells2 BK11.out; obtain ⟨Ao16, co16, eo16⟩ := Kd.S_slice HO940.out; subst eo16) | ((with_reducible refine gate_dst (N := 22) rfl ?_); refine Kd.R_lit (Kd.int .i64) _ 2 ?hg (N := 22) ?hd (xs := ([] : List Int)) (inner := []) (ok := fun _ => True) (okp := fun _ => True) ?hr ?hp (fun _ hk => hk) trivial (Below.refl _ _) (Nat.le_refl _) ψ22 ?_; (case hd => rfl); (case hg => rfl); (case hr => first | (go_simp; done) | (go_simp; rfl)); (case hp => exact (Reps.none _ _)); intro v944 w17 ho18 hb hg_ hnew_; clear hg_ hnew_; (first | rw [← Ny943.out] at ho18 | (simp only [Int.reduceToNat] at ho18; rw [← Ny943.out] at ho18)); have q := n6_ (Kd.R_elder' ψ178 (Kd.R_base ho18) hb) (Kd.S_elder' (by (with_reducible repeat (first | apply Kd.S_alloc | apply Kd.S_drewN | apply Kd.S_drew)); exact (Kd.S_mono (Kd.S_far (p := ⟨gb11, 1, none⟩) (Kd.S_far (p := ⟨gb11, 0, none⟩) (Kd.S_types HO940.out BK11.out ψ13) (fun _ hk => hk.2) (.slice Ao13 t935.length co13)) (fun _ hk => hk.2) (.slice Ao16 t938.length co16)) (fun _ h_ => h_.1))) (Kd.R_base ho18) hb) (Kd.R_lower (Kd.R_new' ho18 (Kd.R_lt ψ178)) (below_size ψ25)) (blk_below (g := gb10) (o := .cells #[.int .i64 a0_0, .slice A0_1 l0_1.length c0_1, .slice A0_2 l0_2.length c0_2, .int .i64 a0_3, .slice A0_4 l0_4.length c0_4, .slice A0_5 l0_5.length c0_5] 36 (0, 0)) ψ99 hb) (blk_below (g := gb11) (o := .cells #[.slice Ao13 t935.length co13, .slice Ao16 t938.length co16] 38 (0, 0)) (by (with_reducible repeat (first | refine blk_drewN ?_ _ | refine blk_drew ?_ | refine blk_alloc ?_ _)); refine blk_put (cs := #[.slice Ao13 t935.length co13, .slice none 0 0]) ?_ 1 _ rfl; (with_reducible repeat (first | refine blk_drewN ?_ _ | refine blk_drew ?_ | refine blk_alloc ?_ _)); refine blk_put (cs := #[.slice none 0 0, .slice none 0 0]) ?_ 0 _ rfl; (with_reducible repeat (first | refine blk_drewN ?_ _ | refine blk_drew ?_ | refine blk_alloc ?_ _)); exact BK11.out) hb) (below_step ψ25 hb); clear HO937 HO940 BK10 BK11 HB; obtain ⟨HO937, HO940, HO945, BK10, BK11, HB⟩ := q; clear hb ho18) | ((with_reducible refine gate_builtin (b := .append) (xs := #[.tmp 22, .tmp 23]) rfl ?_); at_builtin; refine Kd.R_append_rows (Kd.int .i64) (w0 := w) w.heap.size rfl (.tmp 22) (.tmp 23) 23 2 (.int .i64 0) 8 rfl Try.underlying23 info2 rfl ψ13 ψ21 v944 y943 l1 _ _ _ (fun k_ => some k_ ≠ (.slice Ao13 t935.length co13 : Value).ownBlock) (fun _ => False) rfl rfl ?aO ?aR (fun _ _ h => h) (fun _ h => h.elim) ?aF ?aB ?aS ?aL ?_; (case aR => repeat (first | exact (Kd.C_below HR1.out HB.out) | (with_reducible refine Kd.C_alloc ?_ _) | (with_reducible refine Kd.C_drewN ?_ _) | (with_reducible refine Kd.C_drew ?_))); (case aB => exact ψ25); (case aF => exact (fun k_ hk => Kd.fresh' (Kd.R_lt (have hZ := HO937; kR_)) k_ hk)); (case aO => exact (by (with_reducible repeat (first | apply Kd.R_alloc | apply Kd.R_drewN | apply Kd.R_drew)); exact Kd.R_mono HO945.out (fun _ hk => hk.2))); (case aS => exact (below_size ψ25)); (case aL => have := LMc6.out; omega); intro v947 w19 ho hb hg hat; rw [← Ny946.out] at ho; have q := n6_ (blk_grown (g := gb10) ψ10 hg (Kd.R_ne HO945.out BK10.out ψ13)) (Kd.R_after (ok := (fun _ => True)) (have hZ := HO937; kR_) hg hat) (Kd.S_after (ok := (fun k_ => some k_ ≠ (.slice Ao13 t935.length co13 : Value).ownBlock)) (have hZ := HO940; kS_) hg hat) (blk_grown (g := gb11) ψ24 hg (Kd.R_ne HO945.out BK11.out ψ13)) (hb) (ho); clear BK10 HO937 HO940 BK11 HB HO945; obtain ⟨BK10, HO937, HO940, BK11, HB, HO948⟩ := q; clear ho hb hg hat) | ((with_reducible refine gate_builtin (b := .append) (xs := #[.tmp 24, .tmp 25]) rfl ?_); at_builtin; refine Kd.R_append_rows (Kd.int .i64) (w0 := w) w.heap.size rfl (.tmp 24) (.tmp 25) 23 2 (.int .i64 0) 8 rfl Try.underlying23 info2 rfl ψ13 ψ21 v947 y946 l2 _ _ _ (fun k_ => some k_ ≠ (.slice Ao13 t935.length co13 : Value).ownBlock) (fun _ => False) rfl rfl ?aO ?aR (fun _ _ h => h) (fun _ h => h.elim) ?aF ?aB ?aS ?aL ?_; (case aR => repeat (first | exact (Kd.C_below HR2.out HB.out) | (with_reducible refine Kd.C_alloc ?_ _) | (with_reducible refine Kd.C_drewN ?_ _) | (with_reducible refine Kd.C_drew ?_))); (case aB => exact ψ25); (case aF => exact (fun k_ hk => Kd.fresh' (Kd.R_lt (have hZ := HO937; kR_)) k_ hk)); (case aO => exact (have hZ := HO948; kR_)); (case aS => exact (below_size ψ25)); (case aL => have := LMc7.out; omega); intro v950 w20 ho hb hg hat; rw [← Ny949.out] at ho; have q := n6_ (blk_grown (g := gb10) ψ10 hg (Kd.R_ne HO948.out BK10.out ψ13)) (Kd.R_after (ok := (fun _ => True)) (have hZ := HO937; kR_) hg hat) (Kd.S_after (ok := (fun k_ => some k_ ≠ (.slice Ao13 t935.length co13 : Value).ownBlock)) (have hZ := HO940; kS_) hg hat) (blk_grown (g := gb11) ψ24 hg (Kd.R_ne HO948.out BK11.out ψ13)) (hb) (ho); clear BK10 HO937 HO940 BK11 HB HO948; obtain ⟨BK10, HO937, HO940, BK11, HB, HO951⟩ := q; clear ho hb hg hat; obtain ⟨y21_0, y21_1, y21_2, y21_3, y21_4, y21_5, u21_0, u21_1, u21_2, u21_3, u21_4, u21_5⟩ := cells6 BK10.out) | (go_at_call 81; (with_reducible refine (spec_l7Maxes.calls k a0_0 _ _ l0_1 _ _ l0_2 a0_3 _ _ l0_4 _ _ l0_5 _ _ ?_ ?_ ?_ ?_ ?_ ?_ ?_ ?_ A8.out).mono ?_); exact ψ9; exact HC0_1.out; exact ψ3; exact HC0_2.out; exact ψ16; exact HC0_4.out; exact ψ17; exact HC0_5.out; rintro e w22 ⟨v954, rfl, ho0, hb⟩; have q := n7_ (Kd.R_elder' (have hZ := HO937; kR_) (Kd.R_base ho0) hb) (Kd.S_elder' (have hZ := HO940; kS_) (Kd.R_base ho0) hb) (Kd.R_elder' (have hZ := HO951; kR_) (Kd.R_base ho0) hb) (Kd.R_lower (Kd.R_new' (Kd.R_new' ho0 (Kd.R_lt (have hZ := HO937; kR_))) (Kd.R_lt (have hZ := HO951; kR_))) (below_size ψ25)) (blk_below (g := gb10) ψ10 hb) (blk_below (g := gb11) ψ24 hb) (below_step ψ25 hb); clear HO937 HO940 HO951 BK10 BK11 HB; obtain ⟨HO937, HO940, HO951, HO955, BK10, BK11, HB⟩ := q; (try clear hb); (try clear ho0); obtain ⟨Ao23, co23, eo23⟩ := Kd.R_slice HO955.out; subst eo23) | ((with_reducible refine qR_ ?_)) | ((with_reducible refine wpQuiet_step (fun K hK => ?_)); go_simp; first | (refine hK _ ?_; clear hK K) | (apply Exists.intro; refine ⟨fun _ => ?_, hK _ ?_⟩)) | ((with_reducible refine wpQuiet_nil ?_); rintro _ ⟨nq, rfl⟩))
    go_loopg [11, 12] k (fun kq v11 v12 w' => ∃ (x11_1 : Int) (x12_1 : Int), v11 = .int .i64 x11_1 ∧ v12 = .int .i64 x12_1 ∧ Aside0 (spec_NumberOf.l0 kq y949 t953 x11_1 x12_1 = some r) ∧ Aside0 (kq ≤ k) ∧ Aside0 (Kd.R (Kd.int .i64) 2 w' w.heap.size (fun k_ => some k_ ≠ ((.slice Ao23 t953.length co23) : Value).ownBlock ∧ some k_ ≠ ((.slice Ao13 t935.length co13) : Value).ownBlock) v950 y949) ∧ Aside0 (Kd.R (Kd.int .i64) 2 w' w.heap.size (fun k_ => some k_ ≠ (v950 : Value).ownBlock ∧ some k_ ≠ ((.slice Ao13 t935.length co13) : Value).ownBlock) (.slice Ao23 t953.length co23) t953) ∧ Aside0 (Kd.R (Kd.int .i64) 2 w' w.heap.size (fun k_ => some k_ ≠ (v950 : Value).ownBlock ∧ some k_ ≠ ((.slice Ao23 t953.length co23) : Value).ownBlock) (.slice Ao13 t935.length co13) t935) ∧ Aside0 (Kd.S (Kd.slice 2 (Kd.int .i64)) 23 w' w.heap.size (fun k_ => some k_ ≠ (v950 : Value).ownBlock ∧ some k_ ≠ ((.slice Ao23 t953.length co23) : Value).ownBlock ∧ some k_ ≠ ((.slice Ao13 t935.length co13) : Value).ownBlock) (.slice Ao16 t938.length co16) t938) ∧ Aside0 (w'.heap[gb10]? = some (.cells #[.int .i64 a0_0, (.slice A0_1 l0_1.length c0_1), (.slice A0_2 l0_2.length c0_2), .int .i64 a0_3, (.slice A0_4 l0_4.length c0_4), (.slice A0_5 l0_5.length c0_5)] 36 (0, 0))) ∧ Aside0 (w'.heap[gb11]? = some (.cells #[(.slice Ao13 t935.length co13), (.slice Ao16 t938.length co16)] 38 (0, 0))) ∧ Aside0 (Below w.heap.size w w'))
    case atStart => exact ⟨(0), (wrap64 ((t953.length : Int) - 1)), ψ7, ψ7, H', ⟨Nat.le_refl _⟩, ⟨by (with_reducible repeat (first | apply Kd.R_alloc | apply Kd.R_drewN | apply Kd.R_drew)); exact Kd.R_mono HO951.out (fun _ hk => ⟨hk.2, hk.1⟩)⟩, ⟨by (with_reducible repeat (first | apply Kd.R_alloc | apply Kd.R_drewN | apply Kd.R_drew)); exact Kd.R_mono HO955.out (fun _ hk => ⟨hk.2, hk.1.2⟩)⟩, ⟨by (with_reducible repeat (first | apply Kd.R_alloc | apply Kd.R_drewN | apply Kd.R_drew)); exact Kd.R_mono HO937.out (fun _ hk => ⟨hk.1.2, hk.2⟩)⟩, ⟨by (with_reducible repeat (first | apply Kd.S_alloc | apply Kd.S_drewN | apply Kd.S_drew)); exact Kd.S_mono HO940.out (fun _ hk => ⟨hk.1.2, ⟨hk.2, hk.1.1⟩⟩)⟩, ⟨ψ10⟩, ⟨ψ24⟩, ⟨ψ25⟩⟩
    case round =>
     clear H'
     try clear c1
     try clear c2
     try clear c5
     try clear c6
     try clear c7
     try clear y10_0 y10_1 y10_2 y10_3 y10_4 y10_5
     try clear y15_0 y15_1
     try clear y21_0 y21_1 y21_2 y21_3 y21_4 y21_5
     try clear u10_0 u10_1 u10_2 u10_3 u10_4 u10_5
     try clear u15_0 u15_1
     try clear u21_0 u21_1 u21_2 u21_3 u21_4 u21_5
     obtain ⟨x11_1, x12_1, rfl, rfl, HA, HK1, HO_9, HO_10, HO_943000, HO_943001, BK10, BK11, HB⟩ := hrel
     cases gk with
     | zero => exact absurd HA.out (by simp [spec_NumberOf.l0])
     | succ k1 =>
      have H := HA.out
      clear HA
      simp only [spec_NumberOf.l0] at H
      replace H := ifL H; rcases H with ⟨c24b0, H⟩ | ⟨c24b0, H⟩
      ·replace H := ifN H; obtain ⟨c25b0, H⟩ := H
       replace H := ifN H; obtain ⟨c26b0, H⟩ := H
       replace H := ifN H; obtain ⟨c27b0, H⟩ := H
       exact τ78
      ·exact τ78
   ·rw [if_neg c7] at H
    exact absurd H ψ22
  ·rw [if_neg c6] at H
   exact absurd H ψ22
 ·obtain rfl := Option.some.inj H
  go_enter Try.func62, Try.ntmps62
  go_wp2_with (first | ((with_reducible refine gate_dst (N := 3) rfl ?_); refine bE 3 #[.int .i64 a0_0, .slice A0_1 l0_1.length c0_1, .slice A0_2 l0_2.length c0_2, .int .i64 a0_3, .slice A0_4 l0_4.length c0_4, .slice A0_5 l0_5.length c0_5] 36 ?_; intro gb10 hg w29 hbox hb; have q := n4_ (below_step ψ25 hb) (hbox) ((ψ115 : w.heap.size ≤ gb10)) ((ψ115 : w.heap.size ≤ gb10)); clear HB; obtain ⟨HB, BK10, GW10, GE10⟩ := q; clear hb hbox hg; obtain ⟨y30_0, y30_1, y30_2, y30_3, y30_4, y30_5, u30_0, u30_1, u30_2, u30_3, u30_4, u30_5⟩ := cells6 BK10.out) | (go_at_call 29; (with_reducible refine (spec_StartOf.calls k a0_0 _ _ l0_1 _ _ l0_2 a0_3 _ _ l0_4 _ _ l0_5 _ _ l1 _ _ l2 _ _ _ _ ?_ ?_ ?_ ?_ ?_ ?_ ?_ ?_ ?_ ?_ ?_ ?_ A4.out).mono ?_); exact ψ9; exact HC0_1.out; exact ψ3; exact HC0_2.out; exact ψ16; exact HC0_4.out; exact ψ17; exact HC0_5.out; exact ψ23; exact HC1.out; exact ψ103; exact HC2.out; rintro e w31 ⟨v936, v939, rfl, ho0, ho1, hb⟩; have q := n4_ (Kd.R_lower ho0 (below_size ψ25)) (Kd.S_lower ho1 (below_size ψ25)) (blk_below (g := gb10) ψ10 hb) (below_step ψ25 hb); clear BK10 HB; obtain ⟨HO937, HO940, BK10, HB⟩ := q; (try clear hb); (try clear ho0); (try clear ho1)) | ((with_reducible refine gate_dst (N := 7) rfl ?_); refine bE 7 #[.slice none 0 0, .slice none 0 0] 38 ?_; intro gb11 hg w32 hbox hb; have q := n9_ (Kd.R_below (have hZ := HO937; kR_) hb) (Kd.S_below (have hZ := HO940; kS_) hb) (blk_below (g := gb10) ψ10 hb) (below_step ψ25 hb) (hbox) ((ψ115 : w.heap.size ≤ gb11)) ((ψ115 : w.heap.size ≤ gb11)) ((ψ116 : gb10 ≠ gb11)) ((ψ117 : gb11 ≠ gb10)); clear HO937 HO940 BK10 HB; obtain ⟨HO937, HO940, BK10, HB, BK11, GW11, GE11, NB10_11, NB11_10⟩ := q; clear hb hbox hg; obtain ⟨Ao33, co33, eo33⟩ := Kd.R_slice HO937.out; subst eo33; have hnb34 := NB11_10.out; have hnc34 := NB10_11.out; obtain ⟨y35_0, y35_1, u35_0, u35_1⟩ := cells2 BK11.out; obtain ⟨Ao36, co36, eo36⟩ := Kd.S_slice HO940.out; subst eo36) | ((with_reducible refine qR_ ?_)) | ((with_reducible refine wpQuiet_step (fun K hK => ?_)); go_simp; first | (refine hK _ ?_; clear hK K) | (apply Exists.intro; refine ⟨fun _ => ?_, hK _ ?_⟩)) | ((with_reducible refine wpQuiet_nil ?_); rintro _ ⟨nq, rfl⟩))
  go_ret
  exact ⟨ψ4, ψ25⟩

end Go.Proofs.Ytakmkdlkipfnhaa.PCore

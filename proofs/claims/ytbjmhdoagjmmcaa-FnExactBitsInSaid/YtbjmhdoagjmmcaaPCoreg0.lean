/- The walks of the functions that the laws come to, part 0: turned out of the kit's print, and mended where that fell. -/
import Derived.Test.YtbjmhdoagjmmcaaPCoreg
namespace Go.Proofs.Ytbjmhdoagjmmcaa.PCore
open Go.RowKit Go.Proofs.YtbjmhdoagjmmcaaW.PrintWords Go.Proofs.YtbjmhdoagjmmcaaW.PrintLast Go.Proofs.YtbjmhdoagjmmcaaW.PrintMore
attribute [local go_sem] max2_int min2_int max_two min_two max_three min_three max_four min_four   -- for this text's walks alone
set_option linter.unusedVariables false
set_option linter.unusedSimpArgs false

theorem ψ4 {P : Prop} (h : P := by have := HK1.out; have := HJ4.out; first | omega | exact Nat.le_refl _) : P := h
theorem ψ5 {P : Prop} (h : P := by have := HK1.out; have := HJ4.out; have := HJ8.out; omega) : P := h
/-! ### spec_l1In: function 43 -/
def spec_l1In.f (a0 : Int) (a1 : Int) (a2 : Int) : Option (Bool) := if a0 ≥ a1 then (some (decide (a0 ≤ a2))) else (some false)
set_option maxRecDepth 100000 in
theorem τ1 {P : Prop} (h : P := by
 obtain rfl := Option.some.inj H
 go_enter Try.func43, Try.ntmps43
 go_wp2
 go_ret
 exact ⟨ψ0, ψ1⟩) : P := h
set_option maxHeartbeats 8000000 in
set_option maxRecDepth 100000 in
theorem spec_l1In.calls (a0 : Int) (a1 : Int) (a2 : Int) (r : Bool) (w : World) (h : spec_l1In.f a0 a1 a2 = some r) :
 Calls Try.prog 43 #[.int .i64 a0, .int .i64 a1, .int .i64 a2] w fun e w' => e = .returned (.bool r) ∧ Drawn0 w w' := by
 have H : (if a0 ≥ a1 then (some (decide (a0 ≤ a2))) else (some false)) = some r := h
 clear h
 replace H := ifL H; rcases H with ⟨c4b0, H⟩ | ⟨c4b0, H⟩
 ·exact τ1
 ·exact τ1

/-! ### spec_l3Is: function 79 -/
def spec_l3Is.f (l0 : List (S42)) (a1 : Int) (a2 : Int) : Option (Bool) := (spec_l1In.f a1 0 (wrap64 ((l0.length : Int) - 1))).bind fun t104 => (if t104 = true then (if 0 ≤ a1 then (if a1 < (l0.length : Int) then (some (((rd_T42 l0 a1).f0) == a2)) else (none)) else (none)) else (some false))
set_option maxRecDepth 100000 in
theorem τ2 {P : Prop} (h : P := by
 obtain rfl := Option.some.inj H
 go_enter Try.func79, Try.ntmps79
 go_wp2_with (first | ((with_reducible refine gate_callee (f := 43) rfl ?_); refine gL 11 Try.func43 #[.int .i64 a1, .int .i64 0, .int .i64 (wrap64 ((l0.length : Int) - 1))] ?_; (with_reducible refine (spec_l1In.calls a1 0 (wrap64 ((l0.length : Int) - 1)) _ _ A4.out).mono ?_); rintro e w' ⟨rfl, ⟨nd, rfl⟩⟩; refine ⟨_, rfl, ?_⟩; (try (have p105 : 0 ≤ (a1 : Int) := of_decide_eq_true ψ2; have q105 : a1 < (l0.length : Int) := of_decide_eq_true ψ2; obtain ⟨ad105, A105_2, c105_2, A105_3, c105_3, e105, hx105_0, hx105_1, hx105_2, hx105_3, hl105_2, hi105_2, hl105_3, hi105_3⟩ := at_T42 HR0.out a1 p105 q105; cases e105; have HR105_2 := Aside0.mk hi105_2; have HC105_2 := Aside0.mk hl105_2; clear hi105_2 hl105_2; have HR105_3 := Aside0.mk hi105_3; have HC105_3 := Aside0.mk hl105_3; clear hi105_3 hl105_3; replace p105 := eq_true p105; replace q105 := eq_true q105))))
 go_ret
 exact ⟨ψ0, ψ1⟩) : P := h
set_option maxHeartbeats 8000000 in
set_option maxRecDepth 100000 in
theorem spec_l3Is.calls (A0 : Option Addr) (c0 : Nat) (l0 : List (S42)) (a1 : Int) (a2 : Int) (r : Bool) (w : World) (hr0 : Kd.C k42 w A0 l0.length l0) (hc0 : l0.length ≤ c0) (h : spec_l3Is.f l0 a1 a2 = some r) :
 Calls Try.prog 79 #[.slice A0 l0.length c0, .int .i64 a1, .int .i64 a2] w fun e w' => e = .returned (.bool r) ∧ Drawn0 w w' := by
 have HR0 := Aside0.mk hr0
 have HC0 := Aside0.mk hc0
 clear hr0 hc0
 have H : ((spec_l1In.f a1 0 (wrap64 ((l0.length : Int) - 1))).bind fun t104 => (if t104 = true then (if 0 ≤ a1 then (if a1 < (l0.length : Int) then (some (((rd_T42 l0 a1).f0) == a2)) else (none)) else (none)) else (some false))) = some r := h
 clear h
 replace H := Option.bind_eq_some_iff.mp H
 obtain ⟨t104, A40, H⟩ := H
 have A4 := Aside0.mk A40
 clear A40
 replace H := ifB H; rcases H with ⟨rfl, H⟩ | ⟨rfl, H⟩
 ·replace H := ifN H; obtain ⟨c6b0, H⟩ := H
  replace H := ifN H; obtain ⟨c7b0, H⟩ := H
  exact τ2
 ·exact τ2

/-! ### spec_l3Block: function 57 -/

/-! ### spec_l3End: function 44 -/
mutual
def spec_l3Block.l0 : Nat → List (S42) → Int → Option (Int)
 | 0, _, _ => none
 | k + 1, x0, x1 => if x1 < (x0.length : Int) then (if 0 ≤ x1 then (if ((rd_T42 x0 x1).f0) = 3 then (spec_l3Block.j1 k x0 x1 ((rd_T42 x0 x1).f0) (((rd_T42 x0 x1).f0) == 3)) else (if ((rd_T42 x0 x1).f0) = 9 then (spec_l3Block.j1 k x0 x1 ((rd_T42 x0 x1).f0) (((rd_T42 x0 x1).f0) == 9)) else (spec_l3Block.j1 k x0 x1 ((rd_T42 x0 x1).f0) (((rd_T42 x0 x1).f0) == 4)))) else (none)) else (some x1)
def spec_l3Block.j1 : Nat → List (S42) → Int → Int → Bool → Option (Int)
 | 0, _, _, _, _ => none
 | k + 1, x0, x1, x15, x18 => if x18 = true then (some x1) else (if x15 = 2 then (spec_l3Block.j2 k x0 x1 (x15 == 2)) else (if x15 = 5 then (spec_l3Block.j2 k x0 x1 (x15 == 5)) else (spec_l3Block.j2 k x0 x1 (x15 == 8))))
def spec_l3Block.j2 : Nat → List (S42) → Int → Bool → Option (Int)
 | 0, _, _, _ => none
 | k + 1, x0, x1, x23 => if x23 = true then ((spec_l3End.f k x0 x1).bind fun bt117 => (if bt117.2 < 0 then (some (-1)) else (spec_l3Block.l0 k x0 (wrap64 (bt117.2 + 1))))) else (spec_l3Block.l0 k x0 (wrap64 (x1 + 1)))
def spec_l3Block.f : Nat → List (S42) → Int → Option (Int)
 | 0, _, _ => none
 | k + 1, l0, a1 => spec_l3Block.l0 k l0 a1
def spec_l3End.f : Nat → List (S42) → Int → Option (Int × Int)
 | 0, _, _ => none
 | k + 1, l0, a1 => (spec_l3Block.f k l0 (wrap64 (a1 + 1))).bind fun t119 => (if 0 ≤ a1 then (if a1 < (l0.length : Int) then (if ((rd_T42 l0 a1).f0) = 5 then ((spec_l3Is.f l0 t119 4).bind fun t121 => (if t121 = true then (some ((-1), t119)) else (some ((-1), (-1))))) else (if ((rd_T42 l0 a1).f0) = 2 then ((spec_l3Is.f l0 t119 4).bind fun t122 => (if t122 = true then (some ((-1), t119)) else ((spec_l3Is.f l0 t119 3).bind fun t123 => (if t123 = true then ((spec_l3Block.f k l0 (wrap64 (t119 + 1))).bind fun t124 => ((spec_l3Is.f l0 t124 4).bind fun t125 => (if t125 = true then (some (t119, t124)) else (some ((-1), (-1)))))) else (some ((-1), (-1))))))) else (if ((rd_T42 l0 a1).f0) = 8 then ((spec_l3Is.f l0 t119 9).bind fun t126 => (if t126 = true then ((spec_l3Block.f k l0 (wrap64 (t119 + 1))).bind fun t127 => ((spec_l3Is.f l0 t127 4).bind fun t128 => (if t128 = true then (some (t119, t127)) else (some ((-1), (-1)))))) else (some ((-1), (-1))))) else (some ((-1), (-1)))))) else (none)) else (none))
end

set_option maxRecDepth 100000 in
theorem τ3 {P : Prop} (h : P := by
 have H' := Aside0.mk H
 clear H
 go_wp2
 first | (go_meet; (case rel => exact ⟨_, ((((rd_T42 l0 x1_1).f0) == 3)), ψ0, H', ⟨ψ3⟩, ψ1⟩)) | (go_meet; (case rel => exact ⟨_, ((((rd_T42 l0 x1_1).f0) == 9)), ψ0, H', ⟨ψ3⟩, ψ1⟩)) | (go_meet; (case rel => exact ⟨_, ((((rd_T42 l0 x1_1).f0) == 4)), ψ0, H', ⟨ψ3⟩, ψ1⟩))) : P := h
set_option maxRecDepth 100000 in
theorem τ4 {P : Prop} (h : P := by
 have H' := Aside0.mk H
 clear H
 go_wp2
 first | (go_meet; (case rel => exact ⟨_, ((((rd_T42 l0 x1_1).f0) == 2)), ψ0, H', ⟨ψ4⟩, ψ1⟩)) | (go_meet; (case rel => exact ⟨_, ((((rd_T42 l0 x1_1).f0) == 5)), ψ0, H', ⟨ψ4⟩, ψ1⟩)) | (go_meet; (case rel => exact ⟨_, ((((rd_T42 l0 x1_1).f0) == 8)), ψ0, H', ⟨ψ4⟩, ψ1⟩))) : P := h
set_option maxRecDepth 100000 in
theorem τ5 {P : Prop} (h : P := by
 first | obtain rfl := Option.some.inj H | (have H' := Aside0.mk H; clear H)
 go_wp2_with (first | ((with_reducible refine gate_callee (f := 44) rfl ?_); refine gL 30 Try.func44 #[.slice (some ad116) l0.length c0, .int .i64 x1_1] ?_; (with_reducible refine (ihm kj8 ψ5 _ _ l0 x1_1 t117 t118 _ ?_ ?_ A13.out).mono ?_); exact ψ6; exact HC0.out; rintro e w' ⟨rfl, ⟨nd, rfl⟩⟩; refine ⟨_, rfl, ?_⟩))
 first | (go_ret; exact ⟨ψ0, ψ1⟩) | (go_roundg kj8; (case measure => have := HK1.out; have := HJ4.out; have := HJ8.out; omega); (case rel => exact ⟨(wrap64 (t118 + 1)), ψ0, H', ⟨ψ5⟩, ψ1⟩)) | (go_roundg kj8; (case measure => have := HK1.out; have := HJ4.out; have := HJ8.out; omega); (case rel => exact ⟨(wrap64 (x1_1 + 1)), ψ0, H', ⟨ψ5⟩, ψ1⟩))) : P := h
set_option maxHeartbeats 8000000 in
set_option maxRecDepth 100000 in
theorem spec_l3Block.calls_of (k : Nat) (ihm : ∀ m_, m_ < k → (∀ (A0 : Option Addr) (c0 : Nat) (l0 : List (S42)) (a1 : Int) (r1 : Int) (r2 : Int) (w : World) (hr0 : Kd.C k42 w A0 l0.length l0) (hc0 : l0.length ≤ c0) (h : spec_l3End.f m_ l0 a1 = some (r1, r2)),
 Calls Try.prog 44 #[.slice A0 l0.length c0, .int .i64 a1] w fun e w' => e = .returned (.tuple #[.int .i64 r1, .int .i64 r2]) ∧ Drawn0 w w')) : ∀ (A0 : Option Addr) (c0 : Nat) (l0 : List (S42)) (a1 : Int) (r : Int) (w : World) (hr0 : Kd.C k42 w A0 l0.length l0) (hc0 : l0.length ≤ c0) (h : spec_l3Block.f k l0 a1 = some r),
 Calls Try.prog 57 #[.slice A0 l0.length c0, .int .i64 a1] w fun e w' => e = .returned (.int .i64 r) ∧ Drawn0 w w' := by
 intro A0 c0 l0 a1 r w hr0 hc0 h
 cases k with
 | zero => exact absurd h (by simp [spec_l3Block.f])
 | succ k =>
 simp only [spec_l3Block.f] at h
 have HR0 := Aside0.mk hr0
 have HC0 := Aside0.mk hc0
 clear hr0 hc0
 have H : (spec_l3Block.l0 k l0 a1) = some r := h
 clear h
 have H' := Aside0.mk H
 clear H
 go_enter Try.func57, Try.ntmps57
 go_wp2
 go_loopg [1] k (fun kq v1 w' => ∃ (x1_1 : Int), v1 = .int .i64 x1_1 ∧ Aside0 (spec_l3Block.l0 kq l0 x1_1 = some r) ∧ Aside0 (kq ≤ k) ∧ Drawn0 w w')
 case atStart => exact ⟨(a1), ψ0, H', ⟨Nat.le_refl _⟩, ψ1⟩
 case round =>
  clear H'
  try clear p2
  obtain ⟨x1_1, rfl, HA, HK1, ⟨m1, rfl⟩⟩ := hrel
  cases gk with
  | zero => exact absurd HA.out (by simp [spec_l3Block.l0])
  | succ k1 =>
   have H := HA.out
   clear HA
   simp only [spec_l3Block.l0] at H
   replace H := ifD H; rcases H with ⟨c3b0, H⟩ | ⟨c3b0, H⟩
   ·replace H := ifN H; obtain ⟨c4b0, H⟩ := H
    have HC5 := Aside0.mk H
    clear H
    have p116 : 0 ≤ (x1_1 : Int) := of_decide_eq_true ψ2
    have q116 : x1_1 < (l0.length : Int) := of_decide_eq_true ψ2
    obtain ⟨ad116, A116_2, c116_2, A116_3, c116_3, e116, hx116_0, hx116_1, hx116_2, hx116_3, hl116_2, hi116_2, hl116_3, hi116_3⟩ := at_T42 HR0.out x1_1 p116 q116
    cases e116
    have HR116_2 := Aside0.mk hi116_2
    have HC116_2 := Aside0.mk hl116_2
    clear hi116_2 hl116_2
    have HR116_3 := Aside0.mk hi116_3
    have HC116_3 := Aside0.mk hl116_3
    clear hi116_3 hl116_3
    replace p116 := eq_true p116
    replace q116 := eq_true q116
    go_upto_if 18 with (fail)
    go_cut [18] (fun v18 wc => ∃ (kq : Nat) (x18_4 : Bool), v18 = .bool x18_4 ∧ Aside0 (spec_l3Block.j1 kq l0 x1_1 ((rd_T42 l0 x1_1).f0) x18_4 = some r) ∧ Aside0 (kq ≤ k1) ∧ Drawn0 w wc)
    case first =>
     have H := HC5.out
     clear HC5
     replace H := ifF H; rcases H with ⟨c6b0, c6b1, H⟩ | ⟨c6b0, c6b1, c6, H⟩
     ·(first | rw [c6b0] | rw [c6b1] | (simp only [i64_w, i32_w]; rw [c6b0]) | skip)
      exact τ3
     ·(first | rw [c6b0] | rw [c6b1] | (simp only [i64_w, i32_w]; rw [c6b0]) | skip)
      replace H := ifF H; rcases H with ⟨c7b0, c7b1, H⟩ | ⟨c7b0, c7b1, c7, H⟩
      ·exact τ3
      ·exact τ3
    case rest =>
     clear HC5
     try clear c1
     try clear p1
     try clear q1
     try clear hx1
     try clear p2
     try clear c3
     try clear c3b0
     try clear c4
     try clear c4b0
     try clear c5
     try clear c6
     try clear c6b0
     try clear c6b1
     try clear c7
     try clear c7b0
     try clear c7b1
     try clear hx116_0
     try clear hx116_1
     try clear hx116_2
     try clear hx116_3
     try clear p116
     try clear p2
     try clear q116
     obtain ⟨kq, x18_4, rfl, HA, HJ4, ⟨mc4, rfl⟩⟩ := hcut
     cases kq with
     | zero => exact absurd HA.out (by simp [spec_l3Block.j1])
     | succ kj4 =>
      have H := HA.out
      clear HA
      simp only [spec_l3Block.j1] at H
      replace H := ifB H; rcases H with ⟨rfl, H⟩ | ⟨rfl, H⟩
      ·obtain rfl := Option.some.inj H
       go_wp2
       go_ret
       exact ⟨ψ0, ψ1⟩
      ·have HC9 := Aside0.mk H
       clear H
       go_upto_if 23 with (fail)
       go_cut [23] (fun v23 wc => ∃ (kq : Nat) (x23_8 : Bool), v23 = .bool x23_8 ∧ Aside0 (spec_l3Block.j2 kq l0 x1_1 x23_8 = some r) ∧ Aside0 (kq ≤ kj4) ∧ Drawn0 w wc)
       case first =>
        have H := HC9.out
        clear HC9
        replace H := ifF H; rcases H with ⟨c10b0, c10b1, H⟩ | ⟨c10b0, c10b1, c10, H⟩
        ·(first | rw [c10b0] | rw [c10b1] | (simp only [i64_w, i32_w]; rw [c10b0]) | skip)
         exact τ4
        ·(first | rw [c10b0] | rw [c10b1] | (simp only [i64_w, i32_w]; rw [c10b0]) | skip)
         replace H := ifF H; rcases H with ⟨c11b0, c11b1, H⟩ | ⟨c11b0, c11b1, c11, H⟩
         ·exact τ4
         ·exact τ4
       case rest =>
        clear HC9
        try clear c1
        try clear p1
        try clear q1
        try clear hx1
        try clear p2
        try clear c3
        try clear c3b0
        try clear c4
        try clear c4b0
        try clear c5
        try clear c6
        try clear c6b0
        try clear c6b1
        try clear c7
        try clear c7b0
        try clear c7b1
        try clear c8
        try clear c10
        try clear c10b0
        try clear c10b1
        try clear c11
        try clear c11b0
        try clear c11b1
        try clear p11
        try clear q11
        try clear hx11
        try clear hx116_0
        try clear hx116_1
        try clear hx116_2
        try clear hx116_3
        try clear p1
        try clear p116
        try clear p2
        try clear q1
        try clear q116
        obtain ⟨kq, x23_8, rfl, HA, HJ8, ⟨mc8, rfl⟩⟩ := hcut
        cases kq with
        | zero => exact absurd HA.out (by simp [spec_l3Block.j2])
        | succ kj8 =>
         have H := HA.out
         clear HA
         simp only [spec_l3Block.j2] at H
         replace H := ifB H; rcases H with ⟨rfl, H⟩ | ⟨rfl, H⟩
         ·replace H := Option.bind_eq_some_iff.mp H
          obtain ⟨⟨t117, t118⟩, A130, H⟩ := H
          have A13 := Aside0.mk A130
          clear A130
          replace H := ifD H; rcases H with ⟨c14b0, H⟩ | ⟨c14b0, H⟩
          ·exact τ5
          ·exact τ5
         ·exact τ5
   ·obtain rfl := Option.some.inj H
    go_wp2
    go_ret
    exact ⟨ψ0, ψ1⟩

set_option maxRecDepth 100000 in
theorem τ6 {P : Prop} (h : P := by
 obtain ⟨rfl, rfl⟩ := H
 go_enter Try.func44, Try.ntmps44
 go_wp2_with (first | ((with_reducible refine gate_callee (f := 57) rfl ?_); refine gL 12 Try.func57 #[.slice A0 l0.length c0, .int .i64 (wrap64 (a1 + 1))] ?_; (with_reducible refine (spec_l3Block.calls_of k (fun m_ hm_ => ih m_ (by have := hm_; omega)) _ _ l0 (wrap64 (a1 + 1)) t119 _ ?_ ?_ A3.out).mono ?_); exact ψ6; exact HC0.out; rintro e w' ⟨rfl, ⟨nd, rfl⟩⟩; refine ⟨_, rfl, ?_⟩; have p120 : 0 ≤ (a1 : Int) := of_decide_eq_true ψ2; have q120 : a1 < (l0.length : Int) := of_decide_eq_true ψ2; obtain ⟨ad120, A120_2, c120_2, A120_3, c120_3, e120, hx120_0, hx120_1, hx120_2, hx120_3, hl120_2, hi120_2, hl120_3, hi120_3⟩ := at_T42 HR0.out a1 p120 q120; cases e120; have HR120_2 := Aside0.mk hi120_2; have HC120_2 := Aside0.mk hl120_2; clear hi120_2 hl120_2; have HR120_3 := Aside0.mk hi120_3; have HC120_3 := Aside0.mk hl120_3; clear hi120_3 hl120_3; replace p120 := eq_true p120; replace q120 := eq_true q120) | ((with_reducible refine gate_callee (f := 79) rfl ?_); refine gL 22 Try.func79 #[.slice (some ad120) l0.length c0, .int .i64 t119, .int .i64 4] ?_; (with_reducible refine (spec_l3Is.calls _ _ l0 t119 4 _ _ ?_ ?_ A7.out).mono ?_); exact ψ6; exact HC0.out; rintro e w' ⟨rfl, ⟨nd, rfl⟩⟩; refine ⟨_, rfl, ?_⟩) | ((with_reducible refine gate_callee (f := 79) rfl ?_); refine gL 28 Try.func79 #[.slice (some ad120) l0.length c0, .int .i64 t119, .int .i64 4] ?_; (with_reducible refine (spec_l3Is.calls _ _ l0 t119 4 _ _ ?_ ?_ A10.out).mono ?_); exact ψ6; exact HC0.out; rintro e w' ⟨rfl, ⟨nd, rfl⟩⟩; refine ⟨_, rfl, ?_⟩) | ((with_reducible refine gate_callee (f := 79) rfl ?_); refine gL 32 Try.func79 #[.slice (some ad120) l0.length c0, .int .i64 t119, .int .i64 3] ?_; (with_reducible refine (spec_l3Is.calls _ _ l0 t119 3 _ _ ?_ ?_ A12.out).mono ?_); exact ψ6; exact HC0.out; rintro e w' ⟨rfl, ⟨nd, rfl⟩⟩; refine ⟨_, rfl, ?_⟩) | ((with_reducible refine gate_callee (f := 57) rfl ?_); refine gL 36 Try.func57 #[.slice (some ad120) l0.length c0, .int .i64 (wrap64 (t119 + 1))] ?_; (with_reducible refine (spec_l3Block.calls_of k (fun m_ hm_ => ih m_ (by have := hm_; omega)) _ _ l0 (wrap64 (t119 + 1)) t124 _ ?_ ?_ A14.out).mono ?_); exact ψ6; exact HC0.out; rintro e w' ⟨rfl, ⟨nd, rfl⟩⟩; refine ⟨_, rfl, ?_⟩) | ((with_reducible refine gate_callee (f := 79) rfl ?_); refine gL 39 Try.func79 #[.slice (some ad120) l0.length c0, .int .i64 t124, .int .i64 4] ?_; (with_reducible refine (spec_l3Is.calls _ _ l0 t124 4 _ _ ?_ ?_ A15.out).mono ?_); exact ψ6; exact HC0.out; rintro e w' ⟨rfl, ⟨nd, rfl⟩⟩; refine ⟨_, rfl, ?_⟩) | ((with_reducible refine gate_callee (f := 79) rfl ?_); refine gL 46 Try.func79 #[.slice (some ad120) l0.length c0, .int .i64 t119, .int .i64 9] ?_; (with_reducible refine (spec_l3Is.calls _ _ l0 t119 9 _ _ ?_ ?_ A18.out).mono ?_); exact ψ6; exact HC0.out; rintro e w' ⟨rfl, ⟨nd, rfl⟩⟩; refine ⟨_, rfl, ?_⟩) | ((with_reducible refine gate_callee (f := 57) rfl ?_); refine gL 50 Try.func57 #[.slice (some ad120) l0.length c0, .int .i64 (wrap64 (t119 + 1))] ?_; (with_reducible refine (spec_l3Block.calls_of k (fun m_ hm_ => ih m_ (by have := hm_; omega)) _ _ l0 (wrap64 (t119 + 1)) t127 _ ?_ ?_ A20.out).mono ?_); exact ψ6; exact HC0.out; rintro e w' ⟨rfl, ⟨nd, rfl⟩⟩; refine ⟨_, rfl, ?_⟩) | ((with_reducible refine gate_callee (f := 79) rfl ?_); refine gL 53 Try.func79 #[.slice (some ad120) l0.length c0, .int .i64 t127, .int .i64 4] ?_; (with_reducible refine (spec_l3Is.calls _ _ l0 t127 4 _ _ ?_ ?_ A21.out).mono ?_); exact ψ6; exact HC0.out; rintro e w' ⟨rfl, ⟨nd, rfl⟩⟩; refine ⟨_, rfl, ?_⟩))
 go_ret2
 exact ⟨ψ0, ψ1⟩) : P := h
set_option maxHeartbeats 8000000 in
set_option maxRecDepth 100000 in
theorem spec_l3End.calls (k : Nat) : ∀ (A0 : Option Addr) (c0 : Nat) (l0 : List (S42)) (a1 : Int) (r1 : Int) (r2 : Int) (w : World) (hr0 : Kd.C k42 w A0 l0.length l0) (hc0 : l0.length ≤ c0) (h : spec_l3End.f k l0 a1 = some (r1, r2)),
 Calls Try.prog 44 #[.slice A0 l0.length c0, .int .i64 a1] w fun e w' => e = .returned (.tuple #[.int .i64 r1, .int .i64 r2]) ∧ Drawn0 w w' := by
 induction k using Nat.strongRecOn with
 | _ k ih =>
 intro A0 c0 l0 a1 r1 r2 w hr0 hc0 h
 cases k with
 | zero => exact absurd h (by simp [spec_l3End.f])
 | succ k =>
 simp only [spec_l3End.f] at h
 have HR0 := Aside0.mk hr0
 have HC0 := Aside0.mk hc0
 clear hr0 hc0
 have H : ((spec_l3Block.f k l0 (wrap64 (a1 + 1))).bind fun t119 => (if 0 ≤ a1 then (if a1 < (l0.length : Int) then (if ((rd_T42 l0 a1).f0) = 5 then ((spec_l3Is.f l0 t119 4).bind fun t121 => (if t121 = true then (some ((-1), t119)) else (some ((-1), (-1))))) else (if ((rd_T42 l0 a1).f0) = 2 then ((spec_l3Is.f l0 t119 4).bind fun t122 => (if t122 = true then (some ((-1), t119)) else ((spec_l3Is.f l0 t119 3).bind fun t123 => (if t123 = true then ((spec_l3Block.f k l0 (wrap64 (t119 + 1))).bind fun t124 => ((spec_l3Is.f l0 t124 4).bind fun t125 => (if t125 = true then (some (t119, t124)) else (some ((-1), (-1)))))) else (some ((-1), (-1))))))) else (if ((rd_T42 l0 a1).f0) = 8 then ((spec_l3Is.f l0 t119 9).bind fun t126 => (if t126 = true then ((spec_l3Block.f k l0 (wrap64 (t119 + 1))).bind fun t127 => ((spec_l3Is.f l0 t127 4).bind fun t128 => (if t128 = true then (some (t119, t127)) else (some ((-1), (-1)))))) else (some ((-1), (-1))))) else (some ((-1), (-1)))))) else (none)) else (none))) = some (r1, r2) := h
 clear h
 replace H := Option.bind_eq_some_iff.mp H
 obtain ⟨t119, A30, H⟩ := H
 have A3 := Aside0.mk A30
 clear A30
 replace H := ifN H; obtain ⟨c4b0, H⟩ := H
 replace H := ifN H; obtain ⟨c5b0, H⟩ := H
 replace H := ifF H; rcases H with ⟨c6b0, c6b1, H⟩ | ⟨c6b0, c6b1, c6, H⟩
 ·replace H := Option.bind_eq_some_iff.mp H
  obtain ⟨t121, A70, H⟩ := H
  have A7 := Aside0.mk A70
  clear A70
  replace H := ifB H; rcases H with ⟨rfl, H⟩ | ⟨rfl, H⟩
  ·simp only [Option.some.injEq, Prod.mk.injEq] at H
   exact τ6
  ·simp only [Option.some.injEq, Prod.mk.injEq] at H
   exact τ6
 ·by_cases c9 : ((rd_T42 l0 a1).f0) = 2
  ·rw [if_pos c9] at H
   have c9b0 : (((rd_T42 l0 a1).f0) == 2) = true := beq_iff_eq.mpr c9
   have c9b1 : (((rd_T42 l0 a1).f0) != 2) = false := bne_eq_false_iff_eq.mpr c9
   clear c9
   replace H := Option.bind_eq_some_iff.mp H
   obtain ⟨t122, A100, H⟩ := H
   have A10 := Aside0.mk A100
   clear A100
   replace H := ifB H; rcases H with ⟨rfl, H⟩ | ⟨rfl, H⟩
   ·simp only [Option.some.injEq, Prod.mk.injEq] at H
    exact τ6
   ·replace H := Option.bind_eq_some_iff.mp H
    obtain ⟨t123, A120, H⟩ := H
    have A12 := Aside0.mk A120
    clear A120
    replace H := ifB H; rcases H with ⟨rfl, H⟩ | ⟨rfl, H⟩
    ·replace H := Option.bind_eq_some_iff.mp H
     obtain ⟨t124, A140, H⟩ := H
     have A14 := Aside0.mk A140
     clear A140
     replace H := Option.bind_eq_some_iff.mp H
     obtain ⟨t125, A150, H⟩ := H
     have A15 := Aside0.mk A150
     clear A150
     replace H := ifB H; rcases H with ⟨rfl, H⟩ | ⟨rfl, H⟩
     ·simp only [Option.some.injEq, Prod.mk.injEq] at H
      exact τ6
     ·simp only [Option.some.injEq, Prod.mk.injEq] at H
      exact τ6
    ·simp only [Option.some.injEq, Prod.mk.injEq] at H
     exact τ6
  ·rw [if_neg c9] at H
   have c9b0 : (((rd_T42 l0 a1).f0) == 2) = false := beq_eq_false_iff_ne.mpr c9
   have c9b1 : (((rd_T42 l0 a1).f0) != 2) = true := bne_iff_ne.mpr c9
   replace H := ifF H; rcases H with ⟨c17b0, c17b1, H⟩ | ⟨c17b0, c17b1, c17, H⟩
   ·replace H := Option.bind_eq_some_iff.mp H
    obtain ⟨t126, A180, H⟩ := H
    have A18 := Aside0.mk A180
    clear A180
    replace H := ifB H; rcases H with ⟨rfl, H⟩ | ⟨rfl, H⟩
    ·replace H := Option.bind_eq_some_iff.mp H
     obtain ⟨t127, A200, H⟩ := H
     have A20 := Aside0.mk A200
     clear A200
     replace H := Option.bind_eq_some_iff.mp H
     obtain ⟨t128, A210, H⟩ := H
     have A21 := Aside0.mk A210
     clear A210
     replace H := ifB H; rcases H with ⟨rfl, H⟩ | ⟨rfl, H⟩
     ·simp only [Option.some.injEq, Prod.mk.injEq] at H
      exact τ6
     ·simp only [Option.some.injEq, Prod.mk.injEq] at H
      exact τ6
    ·simp only [Option.some.injEq, Prod.mk.injEq] at H
     exact τ6
   ·simp only [Option.some.injEq, Prod.mk.injEq] at H
    exact τ6
theorem spec_l3Block.calls (k : Nat) : ∀ (A0 : Option Addr) (c0 : Nat) (l0 : List (S42)) (a1 : Int) (r : Int) (w : World) (hr0 : Kd.C k42 w A0 l0.length l0) (hc0 : l0.length ≤ c0) (h : spec_l3Block.f k l0 a1 = some r),
 Calls Try.prog 57 #[.slice A0 l0.length c0, .int .i64 a1] w fun e w' => e = .returned (.int .i64 r) ∧ Drawn0 w w' := spec_l3Block.calls_of k (fun m_ _ => spec_l3End.calls m_)

/-! ### spec_EndOf: function 13 -/
def spec_EndOf.f (k : Nat) (l0 : List (S42)) (a1 : Int) : Option (Int × Int) := (spec_l1In.f a1 0 (wrap64 ((l0.length : Int) - 1))).bind fun t129 => (if t129 = true then (if (l0.length : Int) > 40 then (some ((-1), (-1))) else ((spec_l3End.f k l0 a1).bind fun bt130 => (some (bt130.1, bt130.2)))) else (some ((-1), (-1))))
set_option maxRecDepth 100000 in
theorem τ7 {P : Prop} (h : P := by
 obtain ⟨rfl, rfl⟩ := H
 go_enter Try.func13, Try.ntmps13
 go_wp2_with (first | ((with_reducible refine gate_callee (f := 43) rfl ?_); refine gL 10 Try.func43 #[.int .i64 a1, .int .i64 0, .int .i64 (wrap64 ((l0.length : Int) - 1))] ?_; (with_reducible refine (spec_l1In.calls a1 0 (wrap64 ((l0.length : Int) - 1)) _ _ A3.out).mono ?_); rintro e w' ⟨rfl, ⟨nd, rfl⟩⟩; refine ⟨_, rfl, ?_⟩) | ((with_reducible refine gate_callee (f := 44) rfl ?_); refine gL 17 Try.func44 #[.slice A0 l0.length c0, .int .i64 a1] ?_; (with_reducible refine (spec_l3End.calls k _ _ l0 a1 t130 t131 _ ?_ ?_ A6.out).mono ?_); exact ψ6; exact HC0.out; rintro e w' ⟨rfl, ⟨nd, rfl⟩⟩; refine ⟨_, rfl, ?_⟩))
 go_ret2
 exact ⟨ψ0, ψ1⟩) : P := h
set_option maxHeartbeats 8000000 in
set_option maxRecDepth 100000 in
theorem spec_EndOf.calls (k : Nat) (A0 : Option Addr) (c0 : Nat) (l0 : List (S42)) (a1 : Int) (r1 : Int) (r2 : Int) (w : World) (hr0 : Kd.C k42 w A0 l0.length l0) (hc0 : l0.length ≤ c0) (h : spec_EndOf.f k l0 a1 = some (r1, r2)) :
 Calls Try.prog 13 #[.slice A0 l0.length c0, .int .i64 a1] w fun e w' => e = .returned (.tuple #[.int .i64 r1, .int .i64 r2]) ∧ Drawn0 w w' := by
 have HR0 := Aside0.mk hr0
 have HC0 := Aside0.mk hc0
 clear hr0 hc0
 have H : ((spec_l1In.f a1 0 (wrap64 ((l0.length : Int) - 1))).bind fun t129 => (if t129 = true then (if (l0.length : Int) > 40 then (some ((-1), (-1))) else ((spec_l3End.f k l0 a1).bind fun bt130 => (some (bt130.1, bt130.2)))) else (some ((-1), (-1))))) = some (r1, r2) := h
 clear h
 replace H := Option.bind_eq_some_iff.mp H
 obtain ⟨t129, A30, H⟩ := H
 have A3 := Aside0.mk A30
 clear A30
 replace H := ifB H; rcases H with ⟨rfl, H⟩ | ⟨rfl, H⟩
 ·by_cases c5 : (l0.length : Int) > 40
  ·rw [if_pos c5] at H
   have c5b0 : decide (40 < (l0.length : Int)) = true := decide_eq_true c5
   have c5b1 : decide (40 < l0.length) = true := decide_eq_true ψ7
   clear c5
   simp only [Option.some.injEq, Prod.mk.injEq] at H
   exact τ7
  ·rw [if_neg c5] at H
   have c5b0 : decide (40 < (l0.length : Int)) = false := decide_eq_false c5
   have c5b1 : decide (40 < l0.length) = false := decide_eq_false ψ7
   clear c5
   replace H := Option.bind_eq_some_iff.mp H
   obtain ⟨⟨t130, t131⟩, A60, H⟩ := H
   have A6 := Aside0.mk A60
   clear A60
   simp only [Option.some.injEq, Prod.mk.injEq] at H
   exact τ7
 ·simp only [Option.some.injEq, Prod.mk.injEq] at H
  exact τ7

/-- A state of type 68 at block g of W; what its slices lead to came in by w0. -/
def IsS68 (w0 W : World) (g : Nat) (f0 : List (S42)) (f1 : Int) (f2 : Int) (f3 : Int) : Prop := ∃ A0 c0, W.heap[g]? = some (.cells #[.slice A0 f0.length c0, .int .i64 f1, .int .i64 f2, .int .i64 f3] 68 (0, 0)) ∧ w0.heap.size ≤ g ∧ Kd.C k42 w0 A0 f0.length f0
theorem IsS68.grown {w0 W : World} {g : Nat} {f0 : List (S42)} {f1 : Int} {f2 : Int} {f3 : Int} {W1 : World} {row : Option Nat} (h : IsS68 w0 W g f0 f1 f2 f3) (hw : W.grownBy W1 row) (hne : some g ≠ row) : IsS68 w0 W1 g f0 f1 f2 f3 := by
 obtain ⟨A0, c0, hb, hg, hr0⟩ := h
 exact ⟨A0, c0, blk_grown hb hw hne, hg, hr0⟩
theorem IsS68.own_neN {w0 W : World} {g : Nat} {f0 : List (S42)} {f1 : Int} {f2 : Int} {f3 : Int} {α : Type} {d : Kd α} {e : Nat} {base : Nat} {ok : Nat → Prop} {v : Value} {xs : List α} (h : IsS68 w0 W g f0 f1 f2 f3) (ho : Kd.N d e W base ok v xs) (ht : e ≠ 68) : some g ≠ v.ownBlock := by
 obtain ⟨A0, c0, hb, hg, hr0⟩ := h
 exact Kd.N_ne ho hb ht
theorem IsS68.fresh {w0 W : World} {g : Nat} {f0 : List (S42)} {f1 : Int} {f2 : Int} {f3 : Int} (h : IsS68 w0 W g f0 f1 f2 f3) : ∀ k, W.heap.size ≤ k → k ≠ g := by
 obtain ⟨A0, c0, hb, hg, hr0⟩ := h
 exact Kd.freshB hb
theorem IsS68.kept {w0 W : World} {g : Nat} {f0 : List (S42)} {f1 : Int} {f2 : Int} {f3 : Int} {W1 : World} {S : Nat → Prop} (h : IsS68 w0 W g f0 f1 f2 f3) (hk : Kept W W1 S) (hne : ¬ S g) : IsS68 w0 W1 g f0 f1 f2 f3 := by
 obtain ⟨A0, c0, hb, hg, hr0⟩ := h
 exact ⟨A0, c0, blk_kept hb hk hne, hg, hr0⟩
theorem IsS68.below {w0 W : World} {g : Nat} {f0 : List (S42)} {f1 : Int} {f2 : Int} {f3 : Int} {W1 : World} (h : IsS68 w0 W g f0 f1 f2 f3) (hw : Below W.heap.size W W1) : IsS68 w0 W1 g f0 f1 f2 f3 := h.grown (grown_of_below hw none) ψ8
theorem IsS68.alloc {w0 W : World} {g : Nat} {f0 : List (S42)} {f1 : Int} {f2 : Int} {f3 : Int} (h : IsS68 w0 W g f0 f1 f2 f3) (o : Obj) : IsS68 w0 (W.alloc o) g f0 f1 f2 f3 := h.below (below_alloc (Below.refl _ _) o)
theorem IsS68.drewN {w0 W : World} {g : Nat} {f0 : List (S42)} {f1 : Int} {f2 : Int} {f3 : Int} (h : IsS68 w0 W g f0 f1 f2 f3) (m : Nat) : IsS68 w0 (W.drewN m) g f0 f1 f2 f3 := h
theorem IsS68.drew {w0 W : World} {g : Nat} {f0 : List (S42)} {f1 : Int} {f2 : Int} {f3 : Int} (h : IsS68 w0 W g f0 f1 f2 f3) : IsS68 w0 W.drew g f0 f1 f2 f3 := h
theorem IsS68.at_ {w0 W : World} {g : Nat} {f0 : List (S42)} {f1 : Int} {f2 : Int} {f3 : Int} {w' : World} {m : Nat} (hq : W.drewN m = w') (h : IsS68 w0 W g f0 f1 f2 f3) : IsS68 w0 w' g f0 f1 f2 f3 := by subst hq; exact IsS68.drewN h m
theorem IsS68.apart {w0 W : World} {g : Nat} {f0 : List (S42)} {f1 : Int} {f2 : Int} {f3 : Int} {α : Type} {d : Kd α} {e : Nat} {base : Nat} {ok : Nat → Prop} {v : Value} {xs : List α} (h : IsS68 w0 W g f0 f1 f2 f3) (ho : d.R e W base ok v xs) (ht : ∀ q, q ∈ e :: d.E → q ≠ 68) : d.R e W base (fun k => ok k ∧ k ≠ g) v xs := by
 obtain ⟨A0, c0, hb, hg, hr0⟩ := h
 exact Kd.R_types ho hb ht
theorem IsS68.own_ne {w0 W : World} {g : Nat} {f0 : List (S42)} {f1 : Int} {f2 : Int} {f3 : Int} {α : Type} {d : Kd α} {e : Nat} {base : Nat} {ok : Nat → Prop} {v : Value} {xs : List α} (h : IsS68 w0 W g f0 f1 f2 f3) (ho : d.R e W base ok v xs) (ht : e ≠ 68) : some g ≠ v.ownBlock := by
 obtain ⟨A0, c0, hb, hg, hr0⟩ := h
 exact Kd.R_ne ho hb ht
theorem IsS68.apartQ {w0 W : World} {g : Nat} {f0 : List (S42)} {f1 : Int} {f2 : Int} {f3 : Int} {α : Type} {d : Kd α} {e : Nat} {base : Nat} {ok : Nat → Prop} {v : Value} {xs : List α} (h : IsS68 w0 W g f0 f1 f2 f3) (ho : d.Q e W base ok v xs) (ht : ∀ q, q ∈ e :: d.E → q ≠ 68) : d.Q e W base (fun k => ok k ∧ k ≠ g) v xs := by
 obtain ⟨A0, c0, hb, hg, hr0⟩ := h
 exact Kd.Q_types ho hb ht
theorem IsS68.own_neQ {w0 W : World} {g : Nat} {f0 : List (S42)} {f1 : Int} {f2 : Int} {f3 : Int} {α : Type} {d : Kd α} {e : Nat} {base : Nat} {ok : Nat → Prop} {v : Value} {xs : List α} (h : IsS68 w0 W g f0 f1 f2 f3) (ho : d.Q e W base ok v xs) (ht : e ≠ 68) : some g ≠ v.ownBlock := by
 obtain ⟨A0, c0, hb, hg, hr0⟩ := h
 exact Kd.Q_ne ho hb ht
theorem IsS68.apartS {w0 W : World} {g : Nat} {f0 : List (S42)} {f1 : Int} {f2 : Int} {f3 : Int} {α : Type} {d : Kd α} {e : Nat} {base : Nat} {ok : Nat → Prop} {v : Value} {xs : List α} (h : IsS68 w0 W g f0 f1 f2 f3) (ho : d.S e W base ok v xs) (ht : ∀ q, q ∈ e :: d.E → q ≠ 68) : d.S e W base (fun k => ok k ∧ k ≠ g) v xs := by
 obtain ⟨A0, c0, hb, hg, hr0⟩ := h
 exact Kd.S_types ho hb ht
theorem IsS68.own_neS {w0 W : World} {g : Nat} {f0 : List (S42)} {f1 : Int} {f2 : Int} {f3 : Int} {α : Type} {d : Kd α} {e : Nat} {base : Nat} {ok : Nat → Prop} {v : Value} {xs : List α} (h : IsS68 w0 W g f0 f1 f2 f3) (ho : d.S e W base ok v xs) (ht : e ≠ 68) : some g ≠ v.ownBlock := by
 obtain ⟨A0, c0, hb, hg, hr0⟩ := h
 exact Kd.S_ne ho hb ht
theorem IsS68.lt {w0 W : World} {g : Nat} {f0 : List (S42)} {f1 : Int} {f2 : Int} {f3 : Int} (h : IsS68 w0 W g f0 f1 f2 f3) : g < W.heap.size := by
 obtain ⟨A0, c0, hb, hg, hr0⟩ := h
 exact blk_lt hb
theorem IsS68.ge {w0 W : World} {g : Nat} {f0 : List (S42)} {f1 : Int} {f2 : Int} {f3 : Int} (h : IsS68 w0 W g f0 f1 f2 f3) : w0.heap.size ≤ g := by
 obtain ⟨A0, c0, hb, hg, hr0⟩ := h
 exact hg
theorem IsS68.ne_blk {w0 W : World} {g : Nat} {f0 : List (S42)} {f1 : Int} {f2 : Int} {f3 : Int} {a : Nat} {cs : Array Value} {t : TypeId} {fr : Nat × Nat} (h : IsS68 w0 W g f0 f1 f2 f3) (hb2 : W.heap[a]? = some (.cells cs t fr)) (ht : t ≠ 68) : g ≠ a := by
 obtain ⟨A0, c0, hb, hg, hr0⟩ := h
 rintro rfl
 rw [hb] at hb2
 injection hb2 with hb2
 injection hb2 with _ ht2
 exact ht ht2.symm
theorem IsS68.far {w0 W : World} {g : Nat} {f0 : List (S42)} {f1 : Int} {f2 : Int} {f3 : Int} {p : Addr} (h : IsS68 w0 W g f0 f1 f2 f3) (hne : g ≠ p.block) (u : Value) : IsS68 w0 (W.setCell p u) g f0 f1 f2 f3 := by
 obtain ⟨A0, c0, hb, hg, hr0⟩ := h
 exact ⟨A0, c0, blk_far hb hne u, hg, hr0⟩
theorem cellS68_0 {W : World} {g : Nat} {A0 : Option Addr} {c0 : Nat} {f0 : List (S42)} {f1 : Int} {f2 : Int} {f3 : Int} (h : W.heap[g]? = some (.cells #[.slice A0 f0.length c0, .int .i64 f1, .int .i64 f2, .int .i64 f3] 68 (0, 0))) : W.cell? ⟨g, 0, none⟩ = some (.slice A0 f0.length c0) := (blk_cell h 0).trans rfl
theorem cellS68_1 {W : World} {g : Nat} {A0 : Option Addr} {c0 : Nat} {f0 : List (S42)} {f1 : Int} {f2 : Int} {f3 : Int} (h : W.heap[g]? = some (.cells #[.slice A0 f0.length c0, .int .i64 f1, .int .i64 f2, .int .i64 f3] 68 (0, 0))) : W.cell? ⟨g, 1, none⟩ = some (.int .i64 f1) := (blk_cell h 1).trans rfl
theorem IsS68.cell_1 {w0 W : World} {g : Nat} {f0 : List (S42)} {f1 : Int} {f2 : Int} {f3 : Int} (h : IsS68 w0 W g f0 f1 f2 f3) : W.cell? ⟨g, 1, none⟩ = some (.int .i64 f1) := by
 obtain ⟨A0, c0, hb, hg, hr0⟩ := h
 exact cellS68_1 hb
theorem IsS68.set_1 {w0 W : World} {g : Nat} {f0 : List (S42)} {f1 : Int} {f2 : Int} {f3 : Int} (h : IsS68 w0 W g f0 f1 f2 f3) (x : Int) : IsS68 w0 (W.setCell ⟨g, 1, none⟩ (.int .i64 x)) g f0 x f2 f3 := by
 obtain ⟨A0, c0, hb, hg, hr0⟩ := h
 exact ⟨A0, c0, by simpa using blk_set hb 1 (.int .i64 x), hg, hr0⟩
theorem cellS68_2 {W : World} {g : Nat} {A0 : Option Addr} {c0 : Nat} {f0 : List (S42)} {f1 : Int} {f2 : Int} {f3 : Int} (h : W.heap[g]? = some (.cells #[.slice A0 f0.length c0, .int .i64 f1, .int .i64 f2, .int .i64 f3] 68 (0, 0))) : W.cell? ⟨g, 2, none⟩ = some (.int .i64 f2) := (blk_cell h 2).trans rfl
theorem IsS68.cell_2 {w0 W : World} {g : Nat} {f0 : List (S42)} {f1 : Int} {f2 : Int} {f3 : Int} (h : IsS68 w0 W g f0 f1 f2 f3) : W.cell? ⟨g, 2, none⟩ = some (.int .i64 f2) := by
 obtain ⟨A0, c0, hb, hg, hr0⟩ := h
 exact cellS68_2 hb
theorem IsS68.set_2 {w0 W : World} {g : Nat} {f0 : List (S42)} {f1 : Int} {f2 : Int} {f3 : Int} (h : IsS68 w0 W g f0 f1 f2 f3) (x : Int) : IsS68 w0 (W.setCell ⟨g, 2, none⟩ (.int .i64 x)) g f0 f1 x f3 := by
 obtain ⟨A0, c0, hb, hg, hr0⟩ := h
 exact ⟨A0, c0, by simpa using blk_set hb 2 (.int .i64 x), hg, hr0⟩
theorem cellS68_3 {W : World} {g : Nat} {A0 : Option Addr} {c0 : Nat} {f0 : List (S42)} {f1 : Int} {f2 : Int} {f3 : Int} (h : W.heap[g]? = some (.cells #[.slice A0 f0.length c0, .int .i64 f1, .int .i64 f2, .int .i64 f3] 68 (0, 0))) : W.cell? ⟨g, 3, none⟩ = some (.int .i64 f3) := (blk_cell h 3).trans rfl
theorem IsS68.cell_3 {w0 W : World} {g : Nat} {f0 : List (S42)} {f1 : Int} {f2 : Int} {f3 : Int} (h : IsS68 w0 W g f0 f1 f2 f3) : W.cell? ⟨g, 3, none⟩ = some (.int .i64 f3) := by
 obtain ⟨A0, c0, hb, hg, hr0⟩ := h
 exact cellS68_3 hb
theorem IsS68.set_3 {w0 W : World} {g : Nat} {f0 : List (S42)} {f1 : Int} {f2 : Int} {f3 : Int} (h : IsS68 w0 W g f0 f1 f2 f3) (x : Int) : IsS68 w0 (W.setCell ⟨g, 3, none⟩ (.int .i64 x)) g f0 f1 f2 x := by
 obtain ⟨A0, c0, hb, hg, hr0⟩ := h
 exact ⟨A0, c0, by simpa using blk_set hb 3 (.int .i64 x), hg, hr0⟩
theorem IsS68.new (w0 W : World) (A0 : Option Addr) (c0 : Nat) (f0 : List (S42)) (f1 : Int) (f2 : Int) (f3 : Int) (hB : Below w0.heap.size w0 W) (hr0 : Kd.C k42 w0 A0 f0.length f0) : IsS68 w0 (W.alloc (.cells #[.slice A0 f0.length c0, .int .i64 f1, .int .i64 f2, .int .i64 f3] 68)) W.heap.size f0 f1 f2 f3 := ⟨A0, c0, by simpa using heap_alloc_new W _, hB.size, hr0⟩
/-! ### impl_nester_is: function 81 -/
def impl_nester_is.f (s0_0 : List (S42)) (s0_1 : Int) (s0_2 : Int) (s0_3 : Int) (a1 : Int) : Option (Bool) := if s0_1 < (s0_0.length : Int) then (if 0 ≤ s0_1 then (some (((rd_T42 s0_0 s0_1).f0) == a1)) else (none)) else (some false)
set_option maxRecDepth 100000 in
theorem τ8 {P : Prop} (h : P := by
 obtain rfl := Option.some.inj H
 obtain ⟨ASzS0_0, cSzS0_0, HGzS0, hgzS0, HSzS0_0⟩ := HI0.out
 have hczS0_0 := cellS68_0 HGzS0
 have hczS0_1 := cellS68_1 HGzS0
 have hczS0_2 := cellS68_2 HGzS0
 have hczS0_3 := cellS68_3 HGzS0
 have hfzS0_1 := blk_frozen HGzS0 1
 have hfzS0_2 := blk_frozen HGzS0 2
 have hfzS0_3 := blk_frozen HGzS0 3
 clear HGzS0 hgzS0
 try (have p136 : 0 ≤ (s0_1 : Int) := of_decide_eq_true ψ2; have q136 : s0_1 < (s0_0.length : Int) := of_decide_eq_true ψ2; obtain ⟨ad136, A136_2, c136_2, A136_3, c136_3, e136, hx136_0, hx136_1, hx136_2, hx136_3, hl136_2, hi136_2, hl136_3, hi136_3⟩ := at_T42 HSzS0_0 s0_1 p136 q136; cases e136; replace hx136_0 := pw_cell_below HB.out hx136_0; replace hx136_1 := pw_cell_below HB.out hx136_1; replace hx136_2 := pw_cell_below HB.out hx136_2; replace hx136_3 := pw_cell_below HB.out hx136_3; have HR136_2 := Aside0.mk hi136_2; have HC136_2 := Aside0.mk hl136_2; clear hi136_2 hl136_2; have HR136_3 := Aside0.mk hi136_3; have HC136_3 := Aside0.mk hl136_3; clear hi136_3 hl136_3; replace p136 := eq_true p136; replace q136 := eq_true q136)
 go_enter Try.func81, Try.ntmps81
 go_wp2_with (first | ((with_reducible refine qR_ ?_)) | ((with_reducible refine wpQuiet_step (fun K hK => ?_)); go_simp; first | (refine hK _ ?_; clear hK K) | (apply Exists.intro; refine ⟨fun _ => ?_, hK _ ?_⟩)) | ((with_reducible refine wpQuiet_nil ?_); rintro _ ⟨nq, rfl⟩))
 go_ret
 exact ⟨ψ9, ψ10, by repeat (first | (with_reducible first | exact HB.out | apply below_alloc | apply pw_below_drewN | apply below_drew1 | refine below_set ?_ (IsS68.ge HI0.out)) | exact HB.out), ψ11⟩) : P := h
set_option maxHeartbeats 8000000 in
set_option maxRecDepth 100000 in
theorem impl_nester_is.calls (g : Nat) (s0_0 : List (S42)) (s0_1 : Int) (s0_2 : Int) (s0_3 : Int) (a1 : Int) (r : Bool) (w0 w : World) (hI : IsS68 w0 w g s0_0 s0_1 s0_2 s0_3) (hB : Below w0.heap.size w0 w) (h : impl_nester_is.f s0_0 s0_1 s0_2 s0_3 a1 = some r) :
 Calls Try.prog 81 #[.pointer (some ⟨g, 0, none⟩), .int .i64 a1] w fun e w' => e = .returned (.bool r) ∧ IsS68 w0 w' g s0_0 s0_1 s0_2 s0_3 ∧ Below w0.heap.size w0 w' ∧ KeepBut w w' g none := by
 have HI0 := Aside0.mk hI
 have HK := Aside0.mk (KeepBut.refl w g none)
 have HL := Aside0.mk hB.size
 clear hI
 have HW0 := Aside0.mk hB.size
 have HB := Aside0.mk hB
 clear hB
 have H : (if s0_1 < (s0_0.length : Int) then (if 0 ≤ s0_1 then (some (((rd_T42 s0_0 s0_1).f0) == a1)) else (none)) else (some false)) = some r := h
 clear h
 replace H := ifD H; rcases H with ⟨c3b0, H⟩ | ⟨c3b0, H⟩
 ·replace H := ifN H; obtain ⟨c4b0, H⟩ := H
  exact τ8
 ·exact τ8

/-! ### impl_nester_many: function 80 -/

end Go.Proofs.Ytbjmhdoagjmmcaa.PCore

/- The walks of the functions that the laws come to, part 6: turned out of the kit's print, and mended where that fell. -/
import Derived.Test.YtakmkdlkipfnhaaPCoreg
import Derived.Test.YtakmkdlkipfnhaaPCoreg5
namespace Go.Proofs.Ytakmkdlkipfnhaa.PCore
open Go.RowKit Go.Proofs.YtakmkdlkipfnhaaW.PrintWords Go.Proofs.YtakmkdlkipfnhaaW.PrintLast Go.Proofs.YtakmkdlkipfnhaaW.PrintMore
attribute [local go_sem] max2_int min2_int max_two min_two max_three min_three max_four min_four   -- for this text's walks alone
set_option linter.unusedVariables false
set_option maxHeartbeats 8000000
set_option maxRecDepth 100000
set_option linter.unusedSimpArgs false

theorem ψ50 {P : Prop} (h : P := by have := HJ1.out; have := HJ4.out; first | omega | exact Nat.le_refl _) : P := h
theorem ψ51 {P : Prop} (h : P := by have := World.block_lt_of_cell? _ _ hx459_0; first | rwa [add_block] at this | exact this) : P := h
theorem ψ52 {P : Prop} (h : P := by first | (rw [add_block]; exact hn459_0) | (show (Addr.add _ _).block ≠ _; rw [add_block]; exact hn459_0) | exact hn459_0) : P := h
theorem ψ53 {P : Prop} (h : P := by first | (rw [add_block]; exact hn459_1) | (show (Addr.add _ _).block ≠ _; rw [add_block]; exact hn459_1) | exact hn459_1) : P := h
theorem ψ54 {P : Prop} (h : P := by repeat (first | exact HR1.out | (with_reducible refine Kd.C_alloc ?_ _) | (with_reducible refine Kd.C_drewN ?_ _) | (with_reducible refine Kd.C_drew ?_))) : P := h
theorem ψ126 {P : Prop} (h : P := by first | exact Nat.ne_of_lt (Nat.lt_of_lt_of_le (ψ51) GW10.out) | exact Nat.ne_of_lt (Nat.lt_of_lt_of_le (ψ51) GE10.out)) : P := h
/-! ### impl_roomRight: function 136 -/
mutual
def impl_roomRight.j0 : Nat → List (S36) → Bool → Option (Bool)
 | 0, _, _ => none
 | k + 1, x0, x32 => if x32 = true then (some false) else (impl_roomRight.l0 k ((rd_T36 x0 0).f4) (((rd_T36 x0 0).f4).length : Int) 0)
def impl_roomRight.l0 : Nat → List Int → Int → Int → Option (Bool)
 | 0, _, _, _ => none
 | k + 1, x36, x37, x38 => if x38 < x37 then (if 0 ≤ x38 then (if x38 < (x36.length : Int) then (if (rd x36 x38) < 1 then (some false) else (if (rd x36 x38) > 6 then (some false) else (impl_roomRight.l0 k x36 x37 (wrap64 (x38 + 1))))) else (none)) else (none)) else (some true)
end
def impl_roomRight.f (k : Nat) (l0 : List (S36)) : Option (Bool) := if ((rd_T36 l0 0).f3) < 0 then (impl_roomRight.j0 k l0 true) else (if ((rd_T36 l0 0).f3) > 6 then (impl_roomRight.j0 k l0 true) else (if (((rd_T36 l0 0).f4).length : Int) > 2 then (impl_roomRight.j0 k l0 true) else (impl_roomRight.j0 k l0 (decide ((((rd_T36 l0 0).f5).length : Int) > 40)))))
theorem τ40 {P : Prop} (h : P := by
 have H' := Aside0.mk H
 clear H
 have p432 : 0 ≤ (0 : Int) := ψ21
 have q432 : 0 < (l0.length : Int) := ψ125
 obtain ⟨ad432, A432_1, c432_1, A432_2, c432_2, A432_4, c432_4, A432_5, c432_5, e432, hx432_0, hx432_1, hx432_2, hx432_3, hx432_4, hx432_5, hl432_1, hi432_1, hl432_2, hi432_2, hl432_4, hi432_4, hl432_5, hi432_5⟩ := at_T36 HR0.out 0 p432 q432
 cases e432
 have qi432 : (0 < l0.length) = True := eq_true ψ21
 (try rw [show ((0 : Int)).toNat = 0 from rfl] at hx432_0)
 (try rw [show 0 * 6 = 0 from rfl] at hx432_0)
 (try rw [Addr.add_zero'] at hx432_0)
 (try rw [show ((0 : Int)).toNat = 0 from rfl] at hx432_1)
 (try rw [show 0 * 6 = 0 from rfl] at hx432_1)
 (try rw [Addr.add_zero'] at hx432_1)
 (try rw [show ((0 : Int)).toNat = 0 from rfl] at hx432_2)
 (try rw [show 0 * 6 = 0 from rfl] at hx432_2)
 (try rw [Addr.add_zero'] at hx432_2)
 (try rw [show ((0 : Int)).toNat = 0 from rfl] at hx432_3)
 (try rw [show 0 * 6 = 0 from rfl] at hx432_3)
 (try rw [Addr.add_zero'] at hx432_3)
 (try rw [show ((0 : Int)).toNat = 0 from rfl] at hx432_4)
 (try rw [show 0 * 6 = 0 from rfl] at hx432_4)
 (try rw [Addr.add_zero'] at hx432_4)
 (try rw [show ((0 : Int)).toNat = 0 from rfl] at hx432_5)
 (try rw [show 0 * 6 = 0 from rfl] at hx432_5)
 (try rw [Addr.add_zero'] at hx432_5)
 have q := n8_ hi432_1 hl432_1 hi432_2 hl432_2 hi432_4 hl432_4 hi432_5 hl432_5
 clear hi432_1 hl432_1 hi432_2 hl432_2 hi432_4 hl432_4 hi432_5 hl432_5
 obtain ⟨HR432_1, HC432_1, HR432_2, HC432_2, HR432_4, HC432_4, HR432_5, HC432_5⟩ := q
 replace p432 := eq_true p432
 replace q432 := eq_true q432
 try (have p433 : 0 ≤ (0 : Int) := ψ21; have q433 : 0 < (l0.length : Int) := ψ125; obtain ⟨ad433, A433_1, c433_1, A433_2, c433_2, A433_4, c433_4, A433_5, c433_5, e433, hx433_0, hx433_1, hx433_2, hx433_3, hx433_4, hx433_5, hl433_1, hi433_1, hl433_2, hi433_2, hl433_4, hi433_4, hl433_5, hi433_5⟩ := at_T36 HR0.out 0 p433 q433; obtain rfl : ad432 = ad433 := (by injection e433); have qi433 : (0 < l0.length) = True := eq_true ψ21; (try rw [show ((0 : Int)).toNat = 0 from rfl] at hx433_0); (try rw [show 0 * 6 = 0 from rfl] at hx433_0); (try rw [Addr.add_zero'] at hx433_0); (try rw [show ((0 : Int)).toNat = 0 from rfl] at hx433_1); (try rw [show 0 * 6 = 0 from rfl] at hx433_1); (try rw [Addr.add_zero'] at hx433_1); (try rw [show ((0 : Int)).toNat = 0 from rfl] at hx433_2); (try rw [show 0 * 6 = 0 from rfl] at hx433_2); (try rw [Addr.add_zero'] at hx433_2); (try rw [show ((0 : Int)).toNat = 0 from rfl] at hx433_3); (try rw [show 0 * 6 = 0 from rfl] at hx433_3); (try rw [Addr.add_zero'] at hx433_3); (try rw [show ((0 : Int)).toNat = 0 from rfl] at hx433_4); (try rw [show 0 * 6 = 0 from rfl] at hx433_4); (try rw [Addr.add_zero'] at hx433_4); (try rw [show ((0 : Int)).toNat = 0 from rfl] at hx433_5); (try rw [show 0 * 6 = 0 from rfl] at hx433_5); (try rw [Addr.add_zero'] at hx433_5); have q := n8_ hi433_1 hl433_1 hi433_2 hl433_2 hi433_4 hl433_4 hi433_5 hl433_5; clear hi433_1 hl433_1 hi433_2 hl433_2 hi433_4 hl433_4 hi433_5 hl433_5; obtain ⟨HR433_1, HC433_1, HR433_2, HC433_2, HR433_4, HC433_4, HR433_5, HC433_5⟩ := q; replace p433 := eq_true p433; replace q433 := eq_true q433)
 try (have ea_ := Option.some.inj (hx432_1.symm.trans hx433_1))
 try (injection ea_ with ea_ en_ ec_)
 try (subst ea_)
 try (subst ec_)
 try (clear en_)
 try (have ea_ := Option.some.inj (hx432_2.symm.trans hx433_2))
 try (have ea_ := Option.some.inj (hx432_4.symm.trans hx433_4))
 try (have ea_ := Option.some.inj (hx432_5.symm.trans hx433_5))
 try (have p434 : 0 ≤ (0 : Int) := ψ21; have q434 : 0 < (l0.length : Int) := ψ125; obtain ⟨ad434, A434_1, c434_1, A434_2, c434_2, A434_4, c434_4, A434_5, c434_5, e434, hx434_0, hx434_1, hx434_2, hx434_3, hx434_4, hx434_5, hl434_1, hi434_1, hl434_2, hi434_2, hl434_4, hi434_4, hl434_5, hi434_5⟩ := at_T36 HR0.out 0 p434 q434; obtain rfl : ad432 = ad434 := (by injection e434); have qi434 : (0 < l0.length) = True := eq_true ψ21; (try rw [show ((0 : Int)).toNat = 0 from rfl] at hx434_0); (try rw [show 0 * 6 = 0 from rfl] at hx434_0); (try rw [Addr.add_zero'] at hx434_0); (try rw [show ((0 : Int)).toNat = 0 from rfl] at hx434_1); (try rw [show 0 * 6 = 0 from rfl] at hx434_1); (try rw [Addr.add_zero'] at hx434_1); (try rw [show ((0 : Int)).toNat = 0 from rfl] at hx434_2); (try rw [show 0 * 6 = 0 from rfl] at hx434_2); (try rw [Addr.add_zero'] at hx434_2); (try rw [show ((0 : Int)).toNat = 0 from rfl] at hx434_3); (try rw [show 0 * 6 = 0 from rfl] at hx434_3); (try rw [Addr.add_zero'] at hx434_3); (try rw [show ((0 : Int)).toNat = 0 from rfl] at hx434_4); (try rw [show 0 * 6 = 0 from rfl] at hx434_4); (try rw [Addr.add_zero'] at hx434_4); (try rw [show ((0 : Int)).toNat = 0 from rfl] at hx434_5); (try rw [show 0 * 6 = 0 from rfl] at hx434_5); (try rw [Addr.add_zero'] at hx434_5); have q := n8_ hi434_1 hl434_1 hi434_2 hl434_2 hi434_4 hl434_4 hi434_5 hl434_5; clear hi434_1 hl434_1 hi434_2 hl434_2 hi434_4 hl434_4 hi434_5 hl434_5; obtain ⟨HR434_1, HC434_1, HR434_2, HC434_2, HR434_4, HC434_4, HR434_5, HC434_5⟩ := q; replace p434 := eq_true p434; replace q434 := eq_true q434)
 try (have ea_ := Option.some.inj (hx432_1.symm.trans hx434_1))
 try (have ea_ := Option.some.inj (hx432_2.symm.trans hx434_2))
 try (have ea_ := Option.some.inj (hx432_4.symm.trans hx434_4))
 try (have ea_ := Option.some.inj (hx432_5.symm.trans hx434_5))
 try (have p435 : 0 ≤ (0 : Int) := ψ21; have q435 : 0 < (l0.length : Int) := ψ125; obtain ⟨ad435, A435_1, c435_1, A435_2, c435_2, A435_4, c435_4, A435_5, c435_5, e435, hx435_0, hx435_1, hx435_2, hx435_3, hx435_4, hx435_5, hl435_1, hi435_1, hl435_2, hi435_2, hl435_4, hi435_4, hl435_5, hi435_5⟩ := at_T36 HR0.out 0 p435 q435; obtain rfl : ad432 = ad435 := (by injection e435); have qi435 : (0 < l0.length) = True := eq_true ψ21; (try rw [show ((0 : Int)).toNat = 0 from rfl] at hx435_0); (try rw [show 0 * 6 = 0 from rfl] at hx435_0); (try rw [Addr.add_zero'] at hx435_0); (try rw [show ((0 : Int)).toNat = 0 from rfl] at hx435_1); (try rw [show 0 * 6 = 0 from rfl] at hx435_1); (try rw [Addr.add_zero'] at hx435_1); (try rw [show ((0 : Int)).toNat = 0 from rfl] at hx435_2); (try rw [show 0 * 6 = 0 from rfl] at hx435_2); (try rw [Addr.add_zero'] at hx435_2); (try rw [show ((0 : Int)).toNat = 0 from rfl] at hx435_3); (try rw [show 0 * 6 = 0 from rfl] at hx435_3); (try rw [Addr.add_zero'] at hx435_3); (try rw [show ((0 : Int)).toNat = 0 from rfl] at hx435_4); (try rw [show 0 * 6 = 0 from rfl] at hx435_4); (try rw [Addr.add_zero'] at hx435_4); (try rw [show ((0 : Int)).toNat = 0 from rfl] at hx435_5); (try rw [show 0 * 6 = 0 from rfl] at hx435_5); (try rw [Addr.add_zero'] at hx435_5); have q := n8_ hi435_1 hl435_1 hi435_2 hl435_2 hi435_4 hl435_4 hi435_5 hl435_5; clear hi435_1 hl435_1 hi435_2 hl435_2 hi435_4 hl435_4 hi435_5 hl435_5; obtain ⟨HR435_1, HC435_1, HR435_2, HC435_2, HR435_4, HC435_4, HR435_5, HC435_5⟩ := q; replace p435 := eq_true p435; replace q435 := eq_true q435)
 try (have ea_ := Option.some.inj (hx432_1.symm.trans hx435_1))
 try (have ea_ := Option.some.inj (hx432_2.symm.trans hx435_2))
 try (have ea_ := Option.some.inj (hx432_4.symm.trans hx435_4))
 try (have ea_ := Option.some.inj (hx432_5.symm.trans hx435_5))
 go_wp2
 first | (go_meet; (case rel => exact ⟨_, (true), ψ7, H', ⟨ψ19⟩, ψ1⟩)) | (go_meet; (case rel => exact ⟨_, (decide ((((rd_T36 l0 0).f5).length : Int) > 40)), ψ7, H', ⟨ψ19⟩, ψ1⟩))) : P := h
theorem τ41 {P : Prop} (h : P := by
 first | obtain rfl := Option.some.inj H | (have H' := Aside0.mk H; clear H)
 try (have p437 : 0 ≤ (x38_2 : Int) := of_decide_eq_true ψ5; have q437 : x38_2 < (((rd_T36 l0 0).f4).length : Int) := of_decide_eq_true ψ5; obtain ⟨ad437, e437, hx437_0⟩ := Kd.at_int HR436_4.out x38_2 p437 q437; cases e437; replace p437 := eq_true p437; replace q437 := eq_true q437)
 go_wp2
 first | (go_ret; exact ⟨ψ7, ψ1⟩) | (go_roundg k2; (case measure => have := HJ1.out; have := HK2.out; omega); (case rel => exact ⟨(wrap64 (x38_2 + 1)), ψ7, H', ⟨ψ20⟩, ψ1⟩))) : P := h
theorem impl_roomRight.calls (k : Nat) (A0 : Option Addr) (c0 : Nat) (l0 : List (S36)) (r : Bool) (w : World) (hn0 : l0.length = 1) (hr0 : Kd.C k36 w A0 l0.length l0) (hc0 : l0.length ≤ c0) (h : impl_roomRight.f k l0 = some r) :
 Calls Try.prog 136 #[.pointer A0] w fun e w' => e = .returned (.bool r) ∧ Drawn0 w w' := by
 have q := n2_ hr0 hc0
 clear hr0 hc0
 obtain ⟨HR0, HC0⟩ := q
 unfold impl_roomRight.f at h
 have H := h
 clear h
 have HC2 := Aside0.mk H
 clear H
 go_enter Try.func136, Try.ntmps136
 go_upto_region 1 with (fail)
 go_cut [32] (fun v32 wc => ∃ (kq : Nat) (x32_1 : Bool), v32 = .bool x32_1 ∧ Aside0 (impl_roomRight.j0 kq l0 x32_1 = some r) ∧ Aside0 (kq ≤ k) ∧ Drawn0 w wc)
 case first =>
  have H := HC2.out
  clear HC2
  replace H := ifD H; rcases H with ⟨c3b0, H⟩ | ⟨c3b0, H⟩
  ·(first | rw [c3b0] | (simp only [i64_w, i32_w]; rw [c3b0]) | skip)
   exact τ40
  ·(first | rw [c3b0] | (simp only [i64_w, i32_w]; rw [c3b0]) | skip)
   replace H := ifG H; rcases H with ⟨c4b0, H⟩ | ⟨c4b0, H⟩
   ·exact τ40
   ·by_cases c5 : (((rd_T36 l0 0).f4).length : Int) > 2
    ·rw [if_pos c5] at H
     have c5b0 : decide (2 < (((rd_T36 l0 0).f4).length : Int)) = true := decide_eq_true c5
     have c5b1 : decide (2 < ((rd_T36 l0 0).f4).length) = true := decide_eq_true ψ21
     clear c5
     exact τ40
    ·rw [if_neg c5] at H
     have c5b0 : decide (2 < (((rd_T36 l0 0).f4).length : Int)) = false := decide_eq_false c5
     have c5b1 : decide (2 < ((rd_T36 l0 0).f4).length) = false := decide_eq_false ψ21
     clear c5
     exact τ40
 case rest =>
  clear HC2
  try clear c3
  try clear c3b0
  try clear c4
  try clear c4b0
  try clear c5
  try clear c5b0
  try clear c5b1
  try clear hx432_0
  try clear hx432_1
  try clear hx432_2
  try clear hx432_3
  try clear hx432_4
  try clear hx432_5
  try clear hx433_0
  try clear hx433_1
  try clear hx433_2
  try clear hx433_3
  try clear hx433_4
  try clear hx433_5
  try clear hx434_0
  try clear hx434_1
  try clear hx434_2
  try clear hx434_3
  try clear hx434_4
  try clear hx434_5
  try clear hx435_0
  try clear hx435_1
  try clear hx435_2
  try clear hx435_3
  try clear hx435_4
  try clear hx435_5
  try clear p432
  try clear p433
  try clear p434
  try clear p435
  try clear q432
  try clear q433
  try clear q434
  try clear q435
  obtain ⟨kq, x32_1, rfl, HA, HJ1, ⟨mc1, rfl⟩⟩ := hcut
  cases kq with
  | zero => exact absurd HA.out (by simp [impl_roomRight.j0])
  | succ kj1 =>
   have H := HA.out
   clear HA
   simp only [impl_roomRight.j0] at H
   replace H := ifB H; rcases H with ⟨rfl, H⟩ | ⟨rfl, H⟩
   ·obtain rfl := Option.some.inj H
    go_wp2
    go_ret
    exact ⟨ψ7, ψ1⟩
   ·have H' := Aside0.mk H
    clear H
    have p436 : 0 ≤ (0 : Int) := ψ21
    have q436 : 0 < (l0.length : Int) := ψ125
    obtain ⟨ad436, A436_1, c436_1, A436_2, c436_2, A436_4, c436_4, A436_5, c436_5, e436, hx436_0, hx436_1, hx436_2, hx436_3, hx436_4, hx436_5, hl436_1, hi436_1, hl436_2, hi436_2, hl436_4, hi436_4, hl436_5, hi436_5⟩ := at_T36 HR0.out 0 p436 q436
    cases e436
    have qi436 : (0 < l0.length) = True := eq_true ψ21
    (try rw [show ((0 : Int)).toNat = 0 from rfl] at hx436_0)
    (try rw [show 0 * 6 = 0 from rfl] at hx436_0)
    (try rw [Addr.add_zero'] at hx436_0)
    (try rw [show ((0 : Int)).toNat = 0 from rfl] at hx436_1)
    (try rw [show 0 * 6 = 0 from rfl] at hx436_1)
    (try rw [Addr.add_zero'] at hx436_1)
    (try rw [show ((0 : Int)).toNat = 0 from rfl] at hx436_2)
    (try rw [show 0 * 6 = 0 from rfl] at hx436_2)
    (try rw [Addr.add_zero'] at hx436_2)
    (try rw [show ((0 : Int)).toNat = 0 from rfl] at hx436_3)
    (try rw [show 0 * 6 = 0 from rfl] at hx436_3)
    (try rw [Addr.add_zero'] at hx436_3)
    (try rw [show ((0 : Int)).toNat = 0 from rfl] at hx436_4)
    (try rw [show 0 * 6 = 0 from rfl] at hx436_4)
    (try rw [Addr.add_zero'] at hx436_4)
    (try rw [show ((0 : Int)).toNat = 0 from rfl] at hx436_5)
    (try rw [show 0 * 6 = 0 from rfl] at hx436_5)
    (try rw [Addr.add_zero'] at hx436_5)
    have q := n8_ hi436_1 hl436_1 hi436_2 hl436_2 hi436_4 hl436_4 hi436_5 hl436_5
    clear hi436_1 hl436_1 hi436_2 hl436_2 hi436_4 hl436_4 hi436_5 hl436_5
    obtain ⟨HR436_1, HC436_1, HR436_2, HC436_2, HR436_4, HC436_4, HR436_5, HC436_5⟩ := q
    replace p436 := eq_true p436
    replace q436 := eq_true q436
    go_wp2
    go_loopg [38] kj1 (fun kq v38 w' => ∃ (x38_2 : Int), v38 = .int .i64 x38_2 ∧ Aside0 (impl_roomRight.l0 kq ((rd_T36 l0 0).f4) (((rd_T36 l0 0).f4).length : Int) x38_2 = some r) ∧ Aside0 (kq ≤ kj1) ∧ Drawn0 w w')
    case atStart => exact ⟨(0), ψ7, H', ⟨Nat.le_refl _⟩, ψ1⟩
    case round =>
     clear H'
     try clear c3
     try clear c3b0
     try clear c4
     try clear c4b0
     try clear c5
     try clear c5b0
     try clear c5b1
     try clear c6
     try clear hx432_0
     try clear hx432_1
     try clear hx432_2
     try clear hx432_3
     try clear hx432_4
     try clear hx432_5
     try clear hx433_0
     try clear hx433_1
     try clear hx433_2
     try clear hx433_3
     try clear hx433_4
     try clear hx433_5
     try clear hx434_0
     try clear hx434_1
     try clear hx434_2
     try clear hx434_3
     try clear hx434_4
     try clear hx434_5
     try clear hx435_0
     try clear hx435_1
     try clear hx435_2
     try clear hx435_3
     try clear hx435_4
     try clear hx435_5
     try clear hx436_0
     try clear hx436_1
     try clear hx436_2
     try clear hx436_3
     try clear hx436_4
     try clear hx436_5
     try clear p432
     try clear p433
     try clear p434
     try clear p435
     try clear p436
     try clear q432
     try clear q433
     try clear q434
     try clear q435
     try clear q436
     obtain ⟨x38_2, rfl, HA, HK2, ⟨m2, rfl⟩⟩ := hrel
     cases gk with
     | zero => exact absurd HA.out (by simp [impl_roomRight.l0])
     | succ k2 =>
      have H := HA.out
      clear HA
      simp only [impl_roomRight.l0] at H
      replace H := ifD H; rcases H with ⟨c7b0, H⟩ | ⟨c7b0, H⟩
      ·replace H := ifN H; obtain ⟨c8b0, H⟩ := H
       replace H := ifN H; obtain ⟨c9b0, H⟩ := H
       replace H := ifD H; rcases H with ⟨c10b0, H⟩ | ⟨c10b0, H⟩
       ·exact τ41
       ·by_cases c11 : (rd ((rd_T36 l0 0).f4) x38_2) > 6
        ·rw [if_pos c11] at H
         have c11b0 : decide (6 < (rd ((rd_T36 l0 0).f4) x38_2)) = true := decide_eq_true c11
         clear c11
         exact τ41
        ·rw [if_neg c11] at H
         have c11b0 : decide (6 < (rd ((rd_T36 l0 0).f4) x38_2)) = false := decide_eq_false c11
         clear c11
         exact τ41
      ·exact τ41

/-! ### impl_inputsOf: function 140 -/
def impl_inputsOf.f (l0 : List (S36)) : Option (Int) := some (wrap64 ((((rd_T36 l0 0).f1).length : Int) + (((rd_T36 l0 0).f2).length : Int)))
theorem impl_inputsOf.calls (A0 : Option Addr) (c0 : Nat) (l0 : List (S36)) (r : Int) (w : World) (hn0 : l0.length = 1) (hr0 : Kd.C k36 w A0 l0.length l0) (hc0 : l0.length ≤ c0) (h : impl_inputsOf.f l0 = some r) :
 Calls Try.prog 140 #[.pointer A0] w fun e w' => e = .returned (.int .i64 r) ∧ Drawn0 w w' := by
 have q := n2_ hr0 hc0
 clear hr0 hc0
 obtain ⟨HR0, HC0⟩ := q
 unfold impl_inputsOf.f at h
 have H := h
 clear h
 obtain rfl := Option.some.inj H
 have p438 : 0 ≤ (0 : Int) := ψ21
 have q438 : 0 < (l0.length : Int) := ψ125
 obtain ⟨ad438, A438_1, c438_1, A438_2, c438_2, A438_4, c438_4, A438_5, c438_5, e438, hx438_0, hx438_1, hx438_2, hx438_3, hx438_4, hx438_5, hl438_1, hi438_1, hl438_2, hi438_2, hl438_4, hi438_4, hl438_5, hi438_5⟩ := at_T36 HR0.out 0 p438 q438
 cases e438
 have qi438 : (0 < l0.length) = True := eq_true ψ21
 (try rw [show ((0 : Int)).toNat = 0 from rfl] at hx438_0)
 (try rw [show 0 * 6 = 0 from rfl] at hx438_0)
 (try rw [Addr.add_zero'] at hx438_0)
 (try rw [show ((0 : Int)).toNat = 0 from rfl] at hx438_1)
 (try rw [show 0 * 6 = 0 from rfl] at hx438_1)
 (try rw [Addr.add_zero'] at hx438_1)
 (try rw [show ((0 : Int)).toNat = 0 from rfl] at hx438_2)
 (try rw [show 0 * 6 = 0 from rfl] at hx438_2)
 (try rw [Addr.add_zero'] at hx438_2)
 (try rw [show ((0 : Int)).toNat = 0 from rfl] at hx438_3)
 (try rw [show 0 * 6 = 0 from rfl] at hx438_3)
 (try rw [Addr.add_zero'] at hx438_3)
 (try rw [show ((0 : Int)).toNat = 0 from rfl] at hx438_4)
 (try rw [show 0 * 6 = 0 from rfl] at hx438_4)
 (try rw [Addr.add_zero'] at hx438_4)
 (try rw [show ((0 : Int)).toNat = 0 from rfl] at hx438_5)
 (try rw [show 0 * 6 = 0 from rfl] at hx438_5)
 (try rw [Addr.add_zero'] at hx438_5)
 have q := n8_ hi438_1 hl438_1 hi438_2 hl438_2 hi438_4 hl438_4 hi438_5 hl438_5
 clear hi438_1 hl438_1 hi438_2 hl438_2 hi438_4 hl438_4 hi438_5 hl438_5
 obtain ⟨HR438_1, HC438_1, HR438_2, HC438_2, HR438_4, HC438_4, HR438_5, HC438_5⟩ := q
 replace p438 := eq_true p438
 replace q438 := eq_true q438
 have p439 : 0 ≤ (0 : Int) := ψ21
 have q439 : 0 < (l0.length : Int) := ψ125
 obtain ⟨ad439, A439_1, c439_1, A439_2, c439_2, A439_4, c439_4, A439_5, c439_5, e439, hx439_0, hx439_1, hx439_2, hx439_3, hx439_4, hx439_5, hl439_1, hi439_1, hl439_2, hi439_2, hl439_4, hi439_4, hl439_5, hi439_5⟩ := at_T36 HR0.out 0 p439 q439
 obtain rfl : ad438 = ad439 := (by injection e439)
 have qi439 : (0 < l0.length) = True := eq_true ψ21
 (try rw [show ((0 : Int)).toNat = 0 from rfl] at hx439_0)
 (try rw [show 0 * 6 = 0 from rfl] at hx439_0)
 (try rw [Addr.add_zero'] at hx439_0)
 (try rw [show ((0 : Int)).toNat = 0 from rfl] at hx439_1)
 (try rw [show 0 * 6 = 0 from rfl] at hx439_1)
 (try rw [Addr.add_zero'] at hx439_1)
 (try rw [show ((0 : Int)).toNat = 0 from rfl] at hx439_2)
 (try rw [show 0 * 6 = 0 from rfl] at hx439_2)
 (try rw [Addr.add_zero'] at hx439_2)
 (try rw [show ((0 : Int)).toNat = 0 from rfl] at hx439_3)
 (try rw [show 0 * 6 = 0 from rfl] at hx439_3)
 (try rw [Addr.add_zero'] at hx439_3)
 (try rw [show ((0 : Int)).toNat = 0 from rfl] at hx439_4)
 (try rw [show 0 * 6 = 0 from rfl] at hx439_4)
 (try rw [Addr.add_zero'] at hx439_4)
 (try rw [show ((0 : Int)).toNat = 0 from rfl] at hx439_5)
 (try rw [show 0 * 6 = 0 from rfl] at hx439_5)
 (try rw [Addr.add_zero'] at hx439_5)
 have q := n8_ hi439_1 hl439_1 hi439_2 hl439_2 hi439_4 hl439_4 hi439_5 hl439_5
 clear hi439_1 hl439_1 hi439_2 hl439_2 hi439_4 hl439_4 hi439_5 hl439_5
 obtain ⟨HR439_1, HC439_1, HR439_2, HC439_2, HR439_4, HC439_4, HR439_5, HC439_5⟩ := q
 replace p439 := eq_true p439
 replace q439 := eq_true q439
 have ea_ := Option.some.inj (hx438_1.symm.trans hx439_1)
 injection ea_ with ea_ en_ ec_
 subst ea_
 subst ec_
 clear en_
 have ea_ := Option.some.inj (hx438_2.symm.trans hx439_2)
 injection ea_ with ea_ en_ ec_
 subst ea_
 subst ec_
 clear en_
 have ea_ := Option.some.inj (hx438_4.symm.trans hx439_4)
 injection ea_ with ea_ en_ ec_
 subst ea_
 subst ec_
 clear en_
 have ea_ := Option.some.inj (hx438_5.symm.trans hx439_5)
 injection ea_ with ea_ en_ ec_
 subst ea_
 subst ec_
 clear en_
 go_enter Try.func140, Try.ntmps140
 go_wp2_with (first | ((with_reducible refine qR_ ?_)) | ((with_reducible refine wpQuiet_step (fun K hK => ?_)); go_simp; first | (refine hK _ ?_; clear hK K) | (apply Exists.intro; refine ⟨fun _ => ?_, hK _ ?_⟩)) | ((with_reducible refine wpQuiet_nil ?_); rintro _ ⟨nq, rfl⟩))
 go_ret
 exact ⟨ψ7, ψ1⟩

/-! ### impl_varsOf: function 112 -/
def impl_varsOf.f (l0 : List (S36)) : Option (Int) := (impl_inputsOf.f l0).bind fun t440 => (some (wrap64 (t440 + ((rd_T36 l0 0).f3))))
theorem impl_varsOf.calls (A0 : Option Addr) (c0 : Nat) (l0 : List (S36)) (r : Int) (w : World) (hn0 : l0.length = 1) (hr0 : Kd.C k36 w A0 l0.length l0) (hc0 : l0.length ≤ c0) (h : impl_varsOf.f l0 = some r) :
 Calls Try.prog 112 #[.pointer A0] w fun e w' => e = .returned (.int .i64 r) ∧ Drawn0 w w' := by
 have q := n2_ hr0 hc0
 clear hr0 hc0
 obtain ⟨HR0, HC0⟩ := q
 unfold impl_varsOf.f at h
 have H := h
 clear h
 replace H := bS H; obtain ⟨t440, A2, H⟩ := H
 obtain rfl := Option.some.inj H
 go_enter Try.func112, Try.ntmps112
 go_wp2_with (first | (go_at_call 140; (with_reducible refine (impl_inputsOf.calls _ c0 l0 _ _ ?_ ?_ ?_ A2.out).mono ?_); exact hn0; exact ψ30; exact HC0.out; rintro e w' ⟨rfl, ⟨nd, rfl⟩⟩; (try first | exact ⟨rfl, _, World.drewN_drewN _ _ _⟩ | exact ⟨rfl, _, Eq.trans (World.drewN_drewN _ _ _) (congrArg (World.drewN _) (Nat.add_assoc _ _ _))⟩); have p441 : 0 ≤ (0 : Int) := ψ21; have q441 : 0 < (l0.length : Int) := ψ125; obtain ⟨ad441, A441_1, c441_1, A441_2, c441_2, A441_4, c441_4, A441_5, c441_5, e441, hx441_0, hx441_1, hx441_2, hx441_3, hx441_4, hx441_5, hl441_1, hi441_1, hl441_2, hi441_2, hl441_4, hi441_4, hl441_5, hi441_5⟩ := at_T36 HR0.out 0 p441 q441; cases e441; have qi441 : (0 < l0.length) = True := eq_true ψ21; (try rw [show ((0 : Int)).toNat = 0 from rfl] at hx441_0); (try rw [show 0 * 6 = 0 from rfl] at hx441_0); (try rw [Addr.add_zero'] at hx441_0); (try rw [show ((0 : Int)).toNat = 0 from rfl] at hx441_1); (try rw [show 0 * 6 = 0 from rfl] at hx441_1); (try rw [Addr.add_zero'] at hx441_1); (try rw [show ((0 : Int)).toNat = 0 from rfl] at hx441_2); (try rw [show 0 * 6 = 0 from rfl] at hx441_2); (try rw [Addr.add_zero'] at hx441_2); (try rw [show ((0 : Int)).toNat = 0 from rfl] at hx441_3); (try rw [show 0 * 6 = 0 from rfl] at hx441_3); (try rw [Addr.add_zero'] at hx441_3); (try rw [show ((0 : Int)).toNat = 0 from rfl] at hx441_4); (try rw [show 0 * 6 = 0 from rfl] at hx441_4); (try rw [Addr.add_zero'] at hx441_4); (try rw [show ((0 : Int)).toNat = 0 from rfl] at hx441_5); (try rw [show 0 * 6 = 0 from rfl] at hx441_5); (try rw [Addr.add_zero'] at hx441_5); have q := n8_ hi441_1 hl441_1 hi441_2 hl441_2 hi441_4 hl441_4 hi441_5 hl441_5; clear hi441_1 hl441_1 hi441_2 hl441_2 hi441_4 hl441_4 hi441_5 hl441_5; obtain ⟨HR441_1, HC441_1, HR441_2, HC441_2, HR441_4, HC441_4, HR441_5, HC441_5⟩ := q; replace p441 := eq_true p441; replace q441 := eq_true q441) | ((with_reducible refine qR_ ?_)) | ((with_reducible refine wpQuiet_step (fun K hK => ?_)); go_simp; first | (refine hK _ ?_; clear hK K) | (apply Exists.intro; refine ⟨fun _ => ?_, hK _ ?_⟩; (first | (go_at_call 140; (with_reducible refine (impl_inputsOf.calls _ c0 l0 _ _ ?_ ?_ ?_ A2.out).mono ?_); exact hn0; exact ψ30; exact HC0.out; rintro e w' ⟨rfl, ⟨nd, rfl⟩⟩; (try first | exact ⟨rfl, _, World.drewN_drewN _ _ _⟩ | exact ⟨rfl, _, Eq.trans (World.drewN_drewN _ _ _) (congrArg (World.drewN _) (Nat.add_assoc _ _ _))⟩); have p441 : 0 ≤ (0 : Int) := ψ21; have q441 : 0 < (l0.length : Int) := ψ125; obtain ⟨ad441, A441_1, c441_1, A441_2, c441_2, A441_4, c441_4, A441_5, c441_5, e441, hx441_0, hx441_1, hx441_2, hx441_3, hx441_4, hx441_5, hl441_1, hi441_1, hl441_2, hi441_2, hl441_4, hi441_4, hl441_5, hi441_5⟩ := at_T36 HR0.out 0 p441 q441; cases e441; have qi441 : (0 < l0.length) = True := eq_true ψ21; (try rw [show ((0 : Int)).toNat = 0 from rfl] at hx441_0); (try rw [show 0 * 6 = 0 from rfl] at hx441_0); (try rw [Addr.add_zero'] at hx441_0); (try rw [show ((0 : Int)).toNat = 0 from rfl] at hx441_1); (try rw [show 0 * 6 = 0 from rfl] at hx441_1); (try rw [Addr.add_zero'] at hx441_1); (try rw [show ((0 : Int)).toNat = 0 from rfl] at hx441_2); (try rw [show 0 * 6 = 0 from rfl] at hx441_2); (try rw [Addr.add_zero'] at hx441_2); (try rw [show ((0 : Int)).toNat = 0 from rfl] at hx441_3); (try rw [show 0 * 6 = 0 from rfl] at hx441_3); (try rw [Addr.add_zero'] at hx441_3); (try rw [show ((0 : Int)).toNat = 0 from rfl] at hx441_4); (try rw [show 0 * 6 = 0 from rfl] at hx441_4); (try rw [Addr.add_zero'] at hx441_4); (try rw [show ((0 : Int)).toNat = 0 from rfl] at hx441_5); (try rw [show 0 * 6 = 0 from rfl] at hx441_5); (try rw [Addr.add_zero'] at hx441_5); have q := n8_ hi441_1 hl441_1 hi441_2 hl441_2 hi441_4 hl441_4 hi441_5 hl441_5; clear hi441_1 hl441_1 hi441_2 hl441_2 hi441_4 hl441_4 hi441_5 hl441_5; obtain ⟨HR441_1, HC441_1, HR441_2, HC441_2, HR441_4, HC441_4, HR441_5, HC441_5⟩ := q; replace p441 := eq_true p441; replace q441 := eq_true q441)); clear hK K)) | ((with_reducible refine wpQuiet_nil ?_); rintro _ ⟨nq, rfl⟩))
 go_ret
 exact ⟨ψ7, ψ1⟩

/-! ### impl_TakesOf: function 120 -/
mutual
def impl_TakesOf.j0 : Nat → Int → Bool → Option (Int)
 | 0, _, _ => none
 | k + 1, x0, x3 => if x3 = true then (some 0) else (if x0 = 2 then (impl_TakesOf.j1 k x0 true) else (if x0 = 3 then (impl_TakesOf.j1 k x0 true) else (impl_TakesOf.j1 k x0 (x0 == 4))))
def impl_TakesOf.j1 : Nat → Int → Bool → Option (Int)
 | 0, _, _ => none
 | k + 1, x0, x10 => if x10 = true then (some 1) else (if x0 ≥ 5 then (impl_TakesOf.j2 k x0 (decide (x0 ≤ 16))) else (impl_TakesOf.j2 k x0 false))
def impl_TakesOf.j2 : Nat → Int → Bool → Option (Int)
 | 0, _, _ => none
 | k + 1, x0, x21 => if x21 = true then (some 2) else (if x0 = 17 then (some 3) else (some (-1)))
end
def impl_TakesOf.f (k : Nat) (a0 : Int) : Option (Int) := if a0 = 0 then (impl_TakesOf.j0 k a0 true) else (impl_TakesOf.j0 k a0 (a0 == 1))
theorem τ42 {P : Prop} (h : P := by
 have H' := Aside0.mk H
 clear H
 go_wp2
 first | (go_meet; (case rel => exact ⟨_, (true), ψ7, H', ⟨by have := HJ1.out; first | omega | exact Nat.le_refl _⟩, ψ1⟩)) | (go_meet; (case rel => exact ⟨_, ((a0 == 4)), ψ7, H', ⟨by have := HJ1.out; first | omega | exact Nat.le_refl _⟩, ψ1⟩))) : P := h
theorem τ43 {P : Prop} (h : P := by
 obtain rfl := Option.some.inj H
 go_wp2
 go_ret
 exact ⟨ψ0, ψ1⟩) : P := h
theorem impl_TakesOf.calls (k : Nat) (a0 : Int) (r : Int) (w : World) (h : impl_TakesOf.f k a0 = some r) :
 Calls Try.prog 120 #[.int .i64 a0] w fun e w' => e = .returned (.int .i64 r) ∧ Drawn0 w w' := by
 unfold impl_TakesOf.f at h
 have H := h
 clear h
 have HC2 := Aside0.mk H
 clear H
 go_enter Try.func120, Try.ntmps120
 go_upto_region 1 with (fail)
 go_cut [3] (fun v3 wc => ∃ (kq : Nat) (x3_1 : Bool), v3 = .bool x3_1 ∧ Aside0 (impl_TakesOf.j0 kq a0 x3_1 = some r) ∧ Aside0 (kq ≤ k) ∧ Drawn0 w wc)
 case first =>
  have H := HC2.out
  clear HC2
  replace H := ifF H; rcases H with ⟨c3b0, c3b1, H⟩ | ⟨c3b0, c3b1, c3, H⟩
  ·(first | rw [c3b0] | rw [c3b1] | (simp only [i64_w, i32_w]; rw [c3b0]) | skip)
   have H' := Aside0.mk H
   clear H
   go_wp2
   go_meet
   case rel => exact ⟨_, (true), ψ7, H', ⟨ψ19⟩, ψ1⟩
  ·(first | rw [c3b0] | rw [c3b1] | (simp only [i64_w, i32_w]; rw [c3b0]) | skip)
   have H' := Aside0.mk H
   clear H
   go_wp2
   go_meet
   case rel => exact ⟨_, ((a0 == 1)), ψ7, H', ⟨ψ19⟩, ψ1⟩
 case rest =>
  clear HC2
  try clear c3
  try clear c3b0
  try clear c3b1
  obtain ⟨kq, x3_1, rfl, HA, HJ1, ⟨mc1, rfl⟩⟩ := hcut
  cases kq with
  | zero => exact absurd HA.out (by simp [impl_TakesOf.j0])
  | succ kj1 =>
   have H := HA.out
   clear HA
   simp only [impl_TakesOf.j0] at H
   replace H := ifB H; rcases H with ⟨rfl, H⟩ | ⟨rfl, H⟩
   ·obtain rfl := Option.some.inj H
    go_wp2
    go_ret
    exact ⟨ψ0, ψ1⟩
   ·have HC5 := Aside0.mk H
    clear H
    go_upto_region 3 with (fail)
    go_cut [10] (fun v10 wc => ∃ (kq : Nat) (x10_4 : Bool), v10 = .bool x10_4 ∧ Aside0 (impl_TakesOf.j1 kq a0 x10_4 = some r) ∧ Aside0 (kq ≤ kj1) ∧ Drawn0 w wc)
    case first =>
     have H := HC5.out
     clear HC5
     replace H := ifF H; rcases H with ⟨c6b0, c6b1, H⟩ | ⟨c6b0, c6b1, c6, H⟩
     ·(first | rw [c6b0] | rw [c6b1] | (simp only [i64_w, i32_w]; rw [c6b0]) | skip)
      exact τ42
     ·(first | rw [c6b0] | rw [c6b1] | (simp only [i64_w, i32_w]; rw [c6b0]) | skip)
      replace H := ifF H; rcases H with ⟨c7b0, c7b1, H⟩ | ⟨c7b0, c7b1, c7, H⟩
      ·exact τ42
      ·exact τ42
    case rest =>
     clear HC5
     try clear c3
     try clear c3b0
     try clear c3b1
     try clear c4
     try clear c6
     try clear c6b0
     try clear c6b1
     try clear c7
     try clear c7b0
     try clear c7b1
     obtain ⟨kq, x10_4, rfl, HA, HJ4, ⟨mc4, rfl⟩⟩ := hcut
     cases kq with
     | zero => exact absurd HA.out (by simp [impl_TakesOf.j1])
     | succ kj4 =>
      have H := HA.out
      clear HA
      simp only [impl_TakesOf.j1] at H
      replace H := ifB H; rcases H with ⟨rfl, H⟩ | ⟨rfl, H⟩
      ·obtain rfl := Option.some.inj H
       go_wp2
       go_ret
       exact ⟨ψ0, ψ1⟩
      ·have HC9 := Aside0.mk H
       clear H
       go_upto_region 5 with (fail)
       go_cut [21] (fun v21 wc => ∃ (kq : Nat) (x21_8 : Bool), v21 = .bool x21_8 ∧ Aside0 (impl_TakesOf.j2 kq a0 x21_8 = some r) ∧ Aside0 (kq ≤ kj4) ∧ Drawn0 w wc)
       case first =>
        have H := HC9.out
        clear HC9
        replace H := ifL H; rcases H with ⟨c10b0, H⟩ | ⟨c10b0, H⟩
        ·(first | rw [c10b0] | (simp only [i64_w, i32_w]; rw [c10b0]) | skip)
         have H' := Aside0.mk H
         clear H
         go_wp2
         go_meet
         case rel => exact ⟨_, (decide (a0 ≤ 16)), ψ7, H', ⟨ψ50⟩, ψ1⟩
        ·(first | rw [c10b0] | (simp only [i64_w, i32_w]; rw [c10b0]) | skip)
         have H' := Aside0.mk H
         clear H
         go_wp2
         go_meet
         case rel => exact ⟨_, (false), ψ7, H', ⟨ψ50⟩, ψ1⟩
       case rest =>
        clear HC9
        try clear c3
        try clear c3b0
        try clear c3b1
        try clear c4
        try clear c6
        try clear c6b0
        try clear c6b1
        try clear c7
        try clear c7b0
        try clear c7b1
        try clear c8
        try clear c10
        try clear c10b0
        obtain ⟨kq, x21_8, rfl, HA, HJ8, ⟨mc8, rfl⟩⟩ := hcut
        cases kq with
        | zero => exact absurd HA.out (by simp [impl_TakesOf.j2])
        | succ kj8 =>
         have H := HA.out
         clear HA
         simp only [impl_TakesOf.j2] at H
         replace H := ifB H; rcases H with ⟨rfl, H⟩ | ⟨rfl, H⟩
         ·exact τ43
         ·by_cases c12 : a0 = 17
          ·rw [if_pos c12] at H
           have c12b0 : (a0 == 17) = true := beq_iff_eq.mpr c12
           have c12b1 : (a0 != 17) = false := bne_eq_false_iff_eq.mpr c12
           clear c12
           exact τ43
          ·rw [if_neg c12] at H
           have c12b0 : (a0 == 17) = false := beq_eq_false_iff_ne.mpr c12
           have c12b1 : (a0 != 17) = true := bne_iff_ne.mpr c12
           exact τ43

/-! ### impl_ExpOk: function 118 -/
mutual
def impl_ExpOk.j0 : Nat → List (S74) → Bool → Option (Bool)
 | 0, _, _ => none
 | k + 1, x0, x14 => if x14 = true then (some false) else (impl_ExpOk.l0 k 0 x0 (x0.length : Int) 0)
def impl_ExpOk.l0 : Nat → Int → List (S74) → Int → Int → Option (Bool)
 | 0, _, _, _, _ => none
 | k + 1, x3, x15, x16, x17 => if x17 < x16 then (if 0 ≤ x17 then (if x17 < (x15.length : Int) then ((impl_TakesOf.f k ((rd_T74 x15 x17).f0)).bind fun t445 => (if t445 < 0 then (some false) else (if t445 > x3 then (some false) else (if ((rd_T74 x15 x17).f1) < 0 then (some false) else (if ((rd_T74 x15 x17).f1) > 255 then (some false) else (if ((rd_T74 x15 x17).f0) > 2 then (if ((rd_T74 x15 x17).f1) = 0 then (impl_ExpOk.l0 k (wrap64 (x3 + (wrap64 (1 - t445)))) x15 x16 (wrap64 (x17 + 1))) else (some false)) else (impl_ExpOk.l0 k (wrap64 (x3 + (wrap64 (1 - t445)))) x15 x16 (wrap64 (x17 + 1))))))))) else (none)) else (none)) else (some (x3 == 1))
end
def impl_ExpOk.f (k : Nat) (l0 : List (S74)) : Option (Bool) := if (l0.length : Int) = 0 then (impl_ExpOk.j0 k l0 true) else (impl_ExpOk.j0 k l0 (decide ((l0.length : Int) > 3000)))
theorem τ44 {P : Prop} (h : P := by
 first | obtain rfl := Option.some.inj H | (have H' := Aside0.mk H; clear H)
 try (have p442 : 0 ≤ (x17_2 : Int) := of_decide_eq_true ψ5; have q442 : x17_2 < (l0.length : Int) := of_decide_eq_true ψ5; obtain ⟨ad442, e442, hx442_0, hx442_1⟩ := at_T74 HR0.out x17_2 p442 q442; cases e442; replace hx442_0 := cB HB hx442_0; replace hx442_1 := cB HB hx442_1; replace p442 := eq_true p442; replace q442 := eq_true q442)
 go_wp2_with (first | ((with_reducible refine gate_dst (N := 5) rfl ?_); (try (refine gate_guard ψ14 ?_; dsimp only)); refine bE 5 #[.int .i64 0, .int .i64 0] 74 ?_; intro gb10 hg w1_ hbox hb; have q := n4_ (below_step ψ2 hb) (hbox) ((ψ113 : w.heap.size ≤ gb10)) ((ψ113 : w.heap.size ≤ gb10)); clear HB; obtain ⟨HB, BK10, GW10, GE10⟩ := q; clear hb hbox hg; obtain ⟨hczB10_0, hczB10_1, hfzB10_0, hfzB10_1⟩ := cells2 BK10.out) | ((with_reducible refine gate_callee (f := 120) rfl ?_); refine gL 23 Try.func120 #[.int .i64 ((rd_T74 l0 x17_2).f0)] ?_; (with_reducible refine (impl_TakesOf.calls k2 ((rd_T74 l0 x17_2).f0) _ _ A8.out).mono ?_); rintro e w' ⟨rfl, ⟨nd, rfl⟩⟩; refine ⟨_, rfl, ?_⟩))
 first | (go_ret; exact ⟨ψ4, ψ2⟩) | (go_roundg k2; (case measure => have := HJ1.out; have := HK2.out; omega); (case rel => exact ⟨(wrap64 (x3_2 + (wrap64 (1 - t445)))), (wrap64 (x17_2 + 1)), ψ7, ψ7, H', ⟨ψ20⟩, ⟨ψ2⟩⟩))) : P := h
theorem impl_ExpOk.calls (k : Nat) (A0 : Option Addr) (c0 : Nat) (l0 : List (S74)) (r : Bool) (w : World) (hr0 : Kd.C k74 w A0 l0.length l0) (hc0 : l0.length ≤ c0) (h : impl_ExpOk.f k l0 = some r) :
 Calls Try.prog 118 #[.slice A0 l0.length c0] w fun e w' => e = .returned (.bool r) ∧ Below w.heap.size w w' := by
 have hu74 := Try.underlying74
 have q := n2_ hr0 hc0
 clear hr0 hc0
 obtain ⟨HR0, HC0⟩ := q
 have HB := Aside0.mk (Below.refl w.heap.size w)
 unfold impl_ExpOk.f at h
 have H := h
 clear h
 have HC2 := Aside0.mk H
 clear H
 go_enter Try.func118, Try.ntmps118
 go_upto_region 1 with (fail)
 go_cut [14] (fun v14 wc => ∃ (kq : Nat) (x14_1 : Bool), v14 = .bool x14_1 ∧ Aside0 (impl_ExpOk.j0 kq l0 x14_1 = some r) ∧ Aside0 (kq ≤ k) ∧ Aside0 (Below w.heap.size w wc))
 case first =>
  have H := HC2.out
  clear HC2
  replace H := ifF H; rcases H with ⟨c3b0, c3b1, H⟩ | ⟨c3b0, c3b1, c3, H⟩
  ·(first | rw [c3b0] | rw [c3b1] | (simp only [i64_w, i32_w]; rw [c3b0]) | skip)
   have H' := Aside0.mk H
   clear H
   go_wp2
   go_meet
   case rel => exact ⟨_, (true), ψ7, H', ⟨ψ19⟩, ⟨ψ2⟩⟩
  ·have c3b2 : ¬ (l0 = []) := fun h_ => c3 (by rw [h_]; rfl)
   (first | rw [c3b0] | rw [c3b1] | (simp only [i64_w, i32_w]; rw [c3b0]) | skip)
   have H' := Aside0.mk H
   clear H
   go_wp2
   go_meet
   case rel => exact ⟨_, (decide ((l0.length : Int) > 3000)), ψ7, H', ⟨ψ19⟩, ⟨ψ2⟩⟩
 case rest =>
  clear HC2
  try clear c3
  try clear c3b0
  try clear c3b1
  try clear c3b2
  obtain ⟨kq, x14_1, rfl, HA, HJ1, HB⟩ := hcut
  cases kq with
  | zero => exact absurd HA.out (by simp [impl_ExpOk.j0])
  | succ kj1 =>
   have H := HA.out
   clear HA
   simp only [impl_ExpOk.j0] at H
   replace H := ifB H; rcases H with ⟨rfl, H⟩ | ⟨rfl, H⟩
   ·obtain rfl := Option.some.inj H
    go_wp2
    go_ret
    exact ⟨ψ4, ψ2⟩
   ·have H' := Aside0.mk H
    clear H
    go_wp2
    go_loopg [3, 17] kj1 (fun kq v3 v17 w' => ∃ (x3_2 : Int) (x17_2 : Int), v3 = .int .i64 x3_2 ∧ v17 = .int .i64 x17_2 ∧ Aside0 (impl_ExpOk.l0 kq x3_2 l0 (l0.length : Int) x17_2 = some r) ∧ Aside0 (kq ≤ kj1) ∧ Aside0 (Below w.heap.size w w'))
    case atStart => exact ⟨(0), (0), ψ7, ψ7, H', ⟨Nat.le_refl _⟩, ⟨ψ2⟩⟩
    case round =>
     clear H'
     try clear c3
     try clear c3b0
     try clear c3b1
     try clear c3b2
     try clear c4
     obtain ⟨x3_2, x17_2, rfl, rfl, HA, HK2, HB⟩ := hrel
     cases gk with
     | zero => exact absurd HA.out (by simp [impl_ExpOk.l0])
     | succ k2 =>
      have H := HA.out
      clear HA
      simp only [impl_ExpOk.l0] at H
      replace H := ifD H; rcases H with ⟨c5b0, H⟩ | ⟨c5b0, H⟩
      ·replace H := ifN H; obtain ⟨c6b0, H⟩ := H
       replace H := ifN H; obtain ⟨c7b0, H⟩ := H
       replace H := bS H; obtain ⟨t445, A8, H⟩ := H
       replace H := ifD H; rcases H with ⟨c9b0, H⟩ | ⟨c9b0, H⟩
       ·exact τ44
       ·by_cases c12 : t445 > x3_2
        ·rw [if_pos c12] at H
         have c12b0 : decide (x3_2 < t445) = true := decide_eq_true c12
         clear c12
         exact τ44
        ·rw [if_neg c12] at H
         have c12b0 : decide (x3_2 < t445) = false := decide_eq_false c12
         clear c12
         replace H := ifD H; rcases H with ⟨c15b0, H⟩ | ⟨c15b0, H⟩
         ·exact τ44
         ·by_cases c18 : ((rd_T74 l0 x17_2).f1) > 255
          ·rw [if_pos c18] at H
           have c18b0 : decide (255 < ((rd_T74 l0 x17_2).f1)) = true := decide_eq_true c18
           clear c18
           exact τ44
          ·rw [if_neg c18] at H
           have c18b0 : decide (255 < ((rd_T74 l0 x17_2).f1)) = false := decide_eq_false c18
           clear c18
           replace H := ifG H; rcases H with ⟨c21b0, H⟩ | ⟨c21b0, H⟩
           ·by_cases c22 : ((rd_T74 l0 x17_2).f1) = 0
            ·rw [if_pos c22] at H
             have c22b0 : (((rd_T74 l0 x17_2).f1) == 0) = true := beq_iff_eq.mpr c22
             have c22b1 : (((rd_T74 l0 x17_2).f1) != 0) = false := bne_eq_false_iff_eq.mpr c22
             clear c22
             exact τ44
            ·rw [if_neg c22] at H
             have c22b0 : (((rd_T74 l0 x17_2).f1) == 0) = false := beq_eq_false_iff_ne.mpr c22
             have c22b1 : (((rd_T74 l0 x17_2).f1) != 0) = true := bne_iff_ne.mpr c22
             exact τ44
           ·exact τ44
      ·exact τ44

/-! ### impl_reckonable: function 97 -/
def impl_reckonable.l0 : Nat → List (S36) → List (S74) → Int → Int → Option (Bool)
 | 0, _, _, _, _ => none
 | k + 1, x0, x10, x11, x12 => if x12 < x11 then (if 0 ≤ x12 then (if x12 < (x10.length : Int) then (if ((rd_T74 x10 x12).f0) = 0 then ((impl_greatest.f x0).bind fun t455 => (if ((rd_T74 x10 x12).f1) > t455 then (some false) else (impl_reckonable.l0 k x0 x10 x11 (wrap64 (x12 + 1))))) else (if ((rd_T74 x10 x12).f0) = 1 then ((impl_varsOf.f x0).bind fun t457 => (if ((rd_T74 x10 x12).f1) ≥ t457 then (some false) else (impl_reckonable.l0 k x0 x10 x11 (wrap64 (x12 + 1))))) else (if ((rd_T74 x10 x12).f0) = 2 then (if ((rd_T74 x10 x12).f1) ≥ (((rd_T36 x0 0).f4).length : Int) then (some false) else (impl_reckonable.l0 k x0 x10 x11 (wrap64 (x12 + 1)))) else (impl_reckonable.l0 k x0 x10 x11 (wrap64 (x12 + 1)))))) else (none)) else (none)) else (some true)
def impl_reckonable.f (k : Nat) (l0 : List (S36)) (l1 : List (S74)) : Option (Bool) := (impl_ExpOk.f k l1).bind fun t450 => (if t450 = true then (impl_reckonable.l0 k l0 l1 (l1.length : Int) 0) else (some false))
theorem τ45 {P : Prop} (h : P := by
 first | obtain rfl := Option.some.inj H | (have H' := Aside0.mk H; clear H)
 try (have p451 : 0 ≤ (x12_1 : Int) := of_decide_eq_true ψ5; have q451 : x12_1 < (l1.length : Int) := of_decide_eq_true ψ5; obtain ⟨ad451, e451, hx451_0, hx451_1⟩ := at_T74 HR1.out x12_1 p451 q451; cases e451; replace hx451_0 := cB HB hx451_0; replace hx451_1 := cB HB hx451_1; replace p451 := eq_true p451; replace q451 := eq_true q451)
 go_wp2_with (first | ((with_reducible refine gate_dst (N := 6) rfl ?_); refine bE 6 #[.int .i64 0, .int .i64 0] 74 ?_; intro gb10 hg w1_ hbox hb; have q := n4_ (below_step ψ2 hb) (hbox) ((ψ113 : w.heap.size ≤ gb10)) ((ψ113 : w.heap.size ≤ gb10)); clear HB; obtain ⟨HB, BK10, GW10, GE10⟩ := q; clear hb hbox hg; obtain ⟨hczB10_0, hczB10_1, hfzB10_0, hfzB10_1⟩ := cells2 BK10.out; (try (have p459 : 0 ≤ (0 : Int) := ψ21; have q459 : 0 < (l0.length : Int) := ψ125; obtain ⟨ad459, A459_1, c459_1, A459_2, c459_2, A459_4, c459_4, A459_5, c459_5, e459, hx459_0, hx459_1, hx459_2, hx459_3, hx459_4, hx459_5, hl459_1, hi459_1, hl459_2, hi459_2, hl459_4, hi459_4, hl459_5, hi459_5⟩ := at_T36 HR0.out 0 p459 q459; cases e459; have qi459 : (0 < l0.length) = True := eq_true ψ21; (try rw [show ((0 : Int)).toNat = 0 from rfl] at hx459_0); (try rw [show 0 * 6 = 0 from rfl] at hx459_0); (try rw [Addr.add_zero'] at hx459_0); (try rw [show ((0 : Int)).toNat = 0 from rfl] at hx459_1); (try rw [show 0 * 6 = 0 from rfl] at hx459_1); (try rw [Addr.add_zero'] at hx459_1); (try rw [show ((0 : Int)).toNat = 0 from rfl] at hx459_2); (try rw [show 0 * 6 = 0 from rfl] at hx459_2); (try rw [Addr.add_zero'] at hx459_2); (try rw [show ((0 : Int)).toNat = 0 from rfl] at hx459_3); (try rw [show 0 * 6 = 0 from rfl] at hx459_3); (try rw [Addr.add_zero'] at hx459_3); (try rw [show ((0 : Int)).toNat = 0 from rfl] at hx459_4); (try rw [show 0 * 6 = 0 from rfl] at hx459_4); (try rw [Addr.add_zero'] at hx459_4); (try rw [show ((0 : Int)).toNat = 0 from rfl] at hx459_5); (try rw [show 0 * 6 = 0 from rfl] at hx459_5); (try rw [Addr.add_zero'] at hx459_5); have hn459_0 : ad459.block ≠ gb10 := ψ126; have hn459_1 : ad459.block ≠ gb10 := ψ126; replace hx459_0 := cB HB hx459_0; replace hx459_1 := cB HB hx459_1; replace hx459_2 := cB HB hx459_2; replace hx459_3 := cB HB hx459_3; replace hx459_4 := cB HB hx459_4; replace hx459_5 := cB HB hx459_5; have q := n8_ hi459_1 hl459_1 hi459_2 hl459_2 hi459_4 hl459_4 hi459_5 hl459_5; clear hi459_1 hl459_1 hi459_2 hl459_2 hi459_4 hl459_4 hi459_5 hl459_5; obtain ⟨HR459_1, HC459_1, HR459_2, HC459_2, HR459_4, HC459_4, HR459_5, HC459_5⟩ := q; replace hx459_0 := (cell_far (p := ⟨gb10, 0, none⟩) ψ52 (.int .i64 ((rd_T74 l1 x12_1).f0))).trans hx459_0; replace hx459_1 := (cell_far (p := ⟨gb10, 0, none⟩) ψ52 (.int .i64 ((rd_T74 l1 x12_1).f0))).trans hx459_1; replace hx459_2 := (cell_far (p := ⟨gb10, 0, none⟩) ψ52 (.int .i64 ((rd_T74 l1 x12_1).f0))).trans hx459_2; replace hx459_3 := (cell_far (p := ⟨gb10, 0, none⟩) ψ52 (.int .i64 ((rd_T74 l1 x12_1).f0))).trans hx459_3; replace hx459_4 := (cell_far (p := ⟨gb10, 0, none⟩) ψ52 (.int .i64 ((rd_T74 l1 x12_1).f0))).trans hx459_4; replace hx459_5 := (cell_far (p := ⟨gb10, 0, none⟩) ψ52 (.int .i64 ((rd_T74 l1 x12_1).f0))).trans hx459_5; replace hx459_0 := (cell_far (p := ⟨gb10, 1, none⟩) ψ53 (.int .i64 ((rd_T74 l1 x12_1).f1))).trans hx459_0; replace hx459_1 := (cell_far (p := ⟨gb10, 1, none⟩) ψ53 (.int .i64 ((rd_T74 l1 x12_1).f1))).trans hx459_1; replace hx459_2 := (cell_far (p := ⟨gb10, 1, none⟩) ψ53 (.int .i64 ((rd_T74 l1 x12_1).f1))).trans hx459_2; replace hx459_3 := (cell_far (p := ⟨gb10, 1, none⟩) ψ53 (.int .i64 ((rd_T74 l1 x12_1).f1))).trans hx459_3; replace hx459_4 := (cell_far (p := ⟨gb10, 1, none⟩) ψ53 (.int .i64 ((rd_T74 l1 x12_1).f1))).trans hx459_4; replace hx459_5 := (cell_far (p := ⟨gb10, 1, none⟩) ψ53 (.int .i64 ((rd_T74 l1 x12_1).f1))).trans hx459_5; (try have hy459_0 := fun (n_ : Nat) => (show ((((w1_.drewN n_).setCell ⟨gb10, 0, none⟩ (.int .i64 ((rd_T74 l1 x12_1).f0))).setCell ⟨gb10, 1, none⟩ (.int .i64 ((rd_T74 l1 x12_1).f1)))).cell? _ = some _ from hx459_0)); (try have hy459_1 := fun (n_ : Nat) => (show ((((w1_.drewN n_).setCell ⟨gb10, 0, none⟩ (.int .i64 ((rd_T74 l1 x12_1).f0))).setCell ⟨gb10, 1, none⟩ (.int .i64 ((rd_T74 l1 x12_1).f1)))).cell? _ = some _ from hx459_1)); (try have hy459_2 := fun (n_ : Nat) => (show ((((w1_.drewN n_).setCell ⟨gb10, 0, none⟩ (.int .i64 ((rd_T74 l1 x12_1).f0))).setCell ⟨gb10, 1, none⟩ (.int .i64 ((rd_T74 l1 x12_1).f1)))).cell? _ = some _ from hx459_2)); (try have hy459_3 := fun (n_ : Nat) => (show ((((w1_.drewN n_).setCell ⟨gb10, 0, none⟩ (.int .i64 ((rd_T74 l1 x12_1).f0))).setCell ⟨gb10, 1, none⟩ (.int .i64 ((rd_T74 l1 x12_1).f1)))).cell? _ = some _ from hx459_3)); (try have hy459_4 := fun (n_ : Nat) => (show ((((w1_.drewN n_).setCell ⟨gb10, 0, none⟩ (.int .i64 ((rd_T74 l1 x12_1).f0))).setCell ⟨gb10, 1, none⟩ (.int .i64 ((rd_T74 l1 x12_1).f1)))).cell? _ = some _ from hx459_4)); (try have hy459_5 := fun (n_ : Nat) => (show ((((w1_.drewN n_).setCell ⟨gb10, 0, none⟩ (.int .i64 ((rd_T74 l1 x12_1).f0))).setCell ⟨gb10, 1, none⟩ (.int .i64 ((rd_T74 l1 x12_1).f1)))).cell? _ = some _ from hx459_5)); clear hn459_0; clear hn459_1; replace p459 := eq_true p459; replace q459 := eq_true q459))) | (go_at_call 119; (with_reducible refine (impl_greatest.calls _ c0 l0 _ _ ?_ ?_ ?_ A10.out).mono ?_); exact hn0; exact Kd.C_below HR0.out ψ2; exact HC0.out; rintro e w' ⟨rfl, ⟨nd, rfl⟩⟩; (try first | exact ⟨rfl, _, World.drewN_drewN _ _ _⟩ | exact ⟨rfl, _, Eq.trans (World.drewN_drewN _ _ _) (congrArg (World.drewN _) (Nat.add_assoc _ _ _))⟩)) | (go_at_call 112; (with_reducible refine (impl_varsOf.calls _ c0 l0 _ _ ?_ ?_ ?_ A17.out).mono ?_); exact hn0; exact Kd.C_below HR0.out ψ2; exact HC0.out; rintro e w' ⟨rfl, ⟨nd, rfl⟩⟩; (try first | exact ⟨rfl, _, World.drewN_drewN _ _ _⟩ | exact ⟨rfl, _, Eq.trans (World.drewN_drewN _ _ _) (congrArg (World.drewN _) (Nat.add_assoc _ _ _))⟩)) | ((with_reducible refine qR_ ?_)) | ((with_reducible refine wpQuiet_step (fun K hK => ?_)); go_simp; first | (refine hK _ ?_; clear hK K) | (apply Exists.intro; refine ⟨fun _ => ?_, hK _ ?_⟩)) | ((with_reducible refine wpQuiet_nil ?_); rintro _ ⟨nq, rfl⟩))
 first | (go_ret; exact ⟨ψ4, ψ2⟩) | (go_roundg k1; (case measure => have := HK1.out; omega); (case rel => exact ⟨(wrap64 (x12_1 + 1)), ψ7, H', ⟨ψ8⟩, ⟨ψ2⟩⟩))) : P := h
theorem impl_reckonable.calls (k : Nat) (A0 : Option Addr) (c0 : Nat) (l0 : List (S36)) (A1 : Option Addr) (c1 : Nat) (l1 : List (S74)) (r : Bool) (w : World) (hn0 : l0.length = 1) (hr0 : Kd.C k36 w A0 l0.length l0) (hc0 : l0.length ≤ c0) (hr1 : Kd.C k74 w A1 l1.length l1) (hc1 : l1.length ≤ c1) (h : impl_reckonable.f k l0 l1 = some r) :
 Calls Try.prog 97 #[.pointer A0, .slice A1 l1.length c1] w fun e w' => e = .returned (.bool r) ∧ Below w.heap.size w w' := by
 have hu74 := Try.underlying74
 have q := n4_ hr0 hc0 hr1 hc1
 clear hr0 hc0 hr1 hc1
 obtain ⟨HR0, HC0, HR1, HC1⟩ := q
 have HB := Aside0.mk (Below.refl w.heap.size w)
 unfold impl_reckonable.f at h
 have H := h
 clear h
 replace H := bS H; obtain ⟨t450, A3, H⟩ := H
 replace H := ifB H; rcases H with ⟨rfl, H⟩ | ⟨rfl, H⟩
 ·have H' := Aside0.mk H
  clear H
  go_enter Try.func97, Try.ntmps97
  go_wp2_with (first | (go_at_call 118; (with_reducible refine (impl_ExpOk.calls k _ _ l1 _ _ ?_ ?_ A3.out).mono ?_); exact ψ54; exact HC1.out; rintro e w5 ⟨rfl, hb⟩; replace HB := Aside0.mk (below_step ψ2 hb); (try clear hb)) | ((with_reducible refine qR_ ?_)) | ((with_reducible refine wpQuiet_step (fun K hK => ?_)); go_simp; first | (refine hK _ ?_; clear hK K) | (apply Exists.intro; refine ⟨fun _ => ?_, hK _ ?_⟩)) | ((with_reducible refine wpQuiet_nil ?_); rintro _ ⟨nq, rfl⟩))
  go_loopg [12] k (fun kq v12 w' => ∃ (x12_1 : Int), v12 = .int .i64 x12_1 ∧ Aside0 (impl_reckonable.l0 kq l0 l1 (l1.length : Int) x12_1 = some r) ∧ Aside0 (kq ≤ k) ∧ Aside0 (Below w.heap.size w w'))
  case atStart => exact ⟨(0), ψ7, H', ⟨Nat.le_refl _⟩, ⟨ψ2⟩⟩
  case round =>
   clear H'
   try clear c1
   try clear c4
   obtain ⟨x12_1, rfl, HA, HK1, HB⟩ := hrel
   cases gk with
   | zero => exact absurd HA.out (by simp [impl_reckonable.l0])
   | succ k1 =>
    have H := HA.out
    clear HA
    simp only [impl_reckonable.l0] at H
    replace H := ifD H; rcases H with ⟨c6b0, H⟩ | ⟨c6b0, H⟩
    ·replace H := ifN H; obtain ⟨c7b0, H⟩ := H
     replace H := ifN H; obtain ⟨c8b0, H⟩ := H
     replace H := ifF H; rcases H with ⟨c9b0, c9b1, H⟩ | ⟨c9b0, c9b1, c9, H⟩
     ·replace H := bS H; obtain ⟨t455, A10, H⟩ := H
      replace H := ifG H; rcases H with ⟨c11b0, H⟩ | ⟨c11b0, H⟩
      ·exact τ45
      ·exact τ45
     ·by_cases c16 : ((rd_T74 l1 x12_1).f0) = 1
      ·rw [if_pos c16] at H
       have c16b0 : (((rd_T74 l1 x12_1).f0) == 1) = true := beq_iff_eq.mpr c16
       have c16b1 : (((rd_T74 l1 x12_1).f0) != 1) = false := bne_eq_false_iff_eq.mpr c16
       clear c16
       replace H := bS H; obtain ⟨t457, A17, H⟩ := H
       replace H := ifL H; rcases H with ⟨c18b0, H⟩ | ⟨c18b0, H⟩
       ·exact τ45
       ·exact τ45
      ·rw [if_neg c16] at H
       have c16b0 : (((rd_T74 l1 x12_1).f0) == 1) = false := beq_eq_false_iff_ne.mpr c16
       have c16b1 : (((rd_T74 l1 x12_1).f0) != 1) = true := bne_iff_ne.mpr c16
       replace H := ifF H; rcases H with ⟨c23b0, c23b1, H⟩ | ⟨c23b0, c23b1, c23, H⟩
       ·by_cases c24 : ((rd_T74 l1 x12_1).f1) ≥ (((rd_T36 l0 0).f4).length : Int)
        ·rw [if_pos c24] at H
         have c24b0 : decide ((((rd_T36 l0 0).f4).length : Int) ≤ ((rd_T74 l1 x12_1).f1)) = true := decide_eq_true c24
         clear c24
         exact τ45
        ·rw [if_neg c24] at H
         have c24b0 : decide ((((rd_T36 l0 0).f4).length : Int) ≤ ((rd_T74 l1 x12_1).f1)) = false := decide_eq_false c24
         clear c24
         exact τ45
       ·exact τ45
    ·exact τ45
 ·obtain rfl := Option.some.inj H
  go_enter Try.func97, Try.ntmps97
  go_wp2_with (first | (go_at_call 118; (with_reducible refine (impl_ExpOk.calls k _ _ l1 _ _ ?_ ?_ A3.out).mono ?_); exact ψ54; exact HC1.out; rintro e w31 ⟨rfl, hb⟩; replace HB := Aside0.mk (below_step ψ2 hb); (try clear hb)) | ((with_reducible refine qR_ ?_)) | ((with_reducible refine wpQuiet_step (fun K hK => ?_)); go_simp; first | (refine hK _ ?_; clear hK K) | (apply Exists.intro; refine ⟨fun _ => ?_, hK _ ?_⟩)) | ((with_reducible refine wpQuiet_nil ?_); rintro _ ⟨nq, rfl⟩))
  go_ret
  exact ⟨ψ4, ψ2⟩

/-! ### impl_mayStand: function 99 -/
mutual
def impl_mayStand.j0 : Nat → List (S74) → Bool → Option (Bool)
 | 0, _, _ => none
 | k + 1, x1, x15 => if x15 = true then (some false) else (impl_mayStand.l0 k x1 (x1.length : Int) 0)
def impl_mayStand.l0 : Nat → List (S74) → Int → Int → Option (Bool)
 | 0, _, _, _ => none
 | k + 1, x16, x17, x18 => if x18 < x17 then (if 0 ≤ x18 then (if x18 < (x16.length : Int) then (if ((rd_T74 x16 x18).f0) = 17 then (some false) else (impl_mayStand.l0 k x16 x17 (wrap64 (x18 + 1)))) else (none)) else (none)) else (some true)
end
def impl_mayStand.f (k : Nat) (l0 : List (S36)) (l1 : List (S74)) : Option (Bool) := if (l1.length : Int) > 40 then (impl_mayStand.j0 k l1 true) else ((impl_reckonable.f k l0 l1).bind fun t460 => (impl_mayStand.j0 k l1 (!t460)))
theorem τ46 {P : Prop} (h : P := by
 first | obtain rfl := Option.some.inj H | (have H' := Aside0.mk H; clear H)
 try (have p461 : 0 ≤ (x18_2 : Int) := of_decide_eq_true ψ5; have q461 : x18_2 < (l1.length : Int) := of_decide_eq_true ψ5; obtain ⟨ad461, e461, hx461_0, hx461_1⟩ := at_T74 HR1.out x18_2 p461 q461; cases e461; replace hx461_0 := cB HB hx461_0; replace hx461_1 := cB HB hx461_1; replace p461 := eq_true p461; replace q461 := eq_true q461)
 go_wp2_with (first | ((with_reducible refine gate_dst (N := 6) rfl ?_); refine bE 6 #[.int .i64 0, .int .i64 0] 74 ?_; intro gb10 hg w1_ hbox hb; have q := n4_ (below_step ψ2 hb) (hbox) ((ψ113 : w.heap.size ≤ gb10)) ((ψ113 : w.heap.size ≤ gb10)); clear HB; obtain ⟨HB, BK10, GW10, GE10⟩ := q; clear hb hbox hg; obtain ⟨hczB10_0, hczB10_1, hfzB10_0, hfzB10_1⟩ := cells2 BK10.out))
 first | (go_ret; exact ⟨ψ4, ψ2⟩) | (go_roundg k2; (case measure => have := HJ2.out; have := HK2.out; omega); (case rel => exact ⟨(wrap64 (x18_2 + 1)), ψ7, H', ⟨ψ33⟩, ⟨ψ2⟩⟩))) : P := h
theorem impl_mayStand.calls (k : Nat) (A0 : Option Addr) (c0 : Nat) (l0 : List (S36)) (A1 : Option Addr) (c1 : Nat) (l1 : List (S74)) (r : Bool) (w : World) (hn0 : l0.length = 1) (hr0 : Kd.C k36 w A0 l0.length l0) (hc0 : l0.length ≤ c0) (hr1 : Kd.C k74 w A1 l1.length l1) (hc1 : l1.length ≤ c1) (h : impl_mayStand.f k l0 l1 = some r) :
 Calls Try.prog 99 #[.pointer A0, .slice A1 l1.length c1] w fun e w' => e = .returned (.bool r) ∧ Below w.heap.size w w' := by
 have hu74 := Try.underlying74
 have q := n4_ hr0 hc0 hr1 hc1
 clear hr0 hc0 hr1 hc1
 obtain ⟨HR0, HC0, HR1, HC1⟩ := q
 have HB := Aside0.mk (Below.refl w.heap.size w)
 unfold impl_mayStand.f at h
 have H := h
 clear h
 have HC3 := Aside0.mk H
 clear H
 go_enter Try.func99, Try.ntmps99
 go_upto_region 1 with (fail)
 go_cut [15] (fun v15 wc => ∃ (kq : Nat) (x15_2 : Bool), v15 = .bool x15_2 ∧ Aside0 (impl_mayStand.j0 kq l1 x15_2 = some r) ∧ Aside0 (kq ≤ k) ∧ Aside0 (Below w.heap.size w wc))
 case first =>
  have H := HC3.out
  clear HC3
  by_cases c4 : (l1.length : Int) > 40
  ·rw [if_pos c4] at H
   have c4b0 : decide (40 < (l1.length : Int)) = true := decide_eq_true c4
   have c4b1 : decide (40 < l1.length) = true := decide_eq_true ψ21
   clear c4
   (first | rw [c4b0] | rw [c4b1] | (simp only [i64_w, i32_w]; rw [c4b0]) | skip)
   have H' := Aside0.mk H
   clear H
   go_wp2
   go_meet
   case rel => exact ⟨_, (true), ψ7, H', ⟨ψ19⟩, ⟨ψ2⟩⟩
  ·rw [if_neg c4] at H
   have c4b0 : decide (40 < (l1.length : Int)) = false := decide_eq_false c4
   have c4b1 : decide (40 < l1.length) = false := decide_eq_false ψ21
   clear c4
   (first | rw [c4b0] | rw [c4b1] | (simp only [i64_w, i32_w]; rw [c4b0]) | skip)
   replace H := bS H; obtain ⟨t460, A5, H⟩ := H
   have H' := Aside0.mk H
   clear H
   go_wp2_with (first | (go_at_call 97; (with_reducible refine (impl_reckonable.calls k _ c0 l0 _ _ l1 _ _ ?_ ?_ ?_ ?_ ?_ A5.out).mono ?_); exact hn0; exact ψ32; exact HC0.out; exact ψ23; exact HC1.out; rintro e w6 ⟨rfl, hb⟩; replace HB := Aside0.mk (below_step ψ2 hb); (try clear hb)))
   go_meet
   case rel => exact ⟨_, (!t460), ψ7, H', ⟨ψ19⟩, ⟨ψ2⟩⟩
 case rest =>
  clear HC3
  try clear c1
  try clear c4
  try clear c4b0
  try clear c4b1
  obtain ⟨kq, x15_2, rfl, HA, HJ2, HB⟩ := hcut
  cases kq with
  | zero => exact absurd HA.out (by simp [impl_mayStand.j0])
  | succ kj2 =>
   have H := HA.out
   clear HA
   simp only [impl_mayStand.j0] at H
   replace H := ifB H; rcases H with ⟨rfl, H⟩ | ⟨rfl, H⟩
   ·obtain rfl := Option.some.inj H
    go_wp2
    go_ret
    exact ⟨ψ4, ψ2⟩
   ·have H' := Aside0.mk H
    clear H
    go_wp2
    go_loopg [18] kj2 (fun kq v18 w' => ∃ (x18_2 : Int), v18 = .int .i64 x18_2 ∧ Aside0 (impl_mayStand.l0 kq l1 (l1.length : Int) x18_2 = some r) ∧ Aside0 (kq ≤ kj2) ∧ Aside0 (Below w.heap.size w w'))
    case atStart => exact ⟨(0), ψ7, H', ⟨Nat.le_refl _⟩, ⟨ψ2⟩⟩
    case round =>
     clear H'
     try clear c1
     try clear c4
     try clear c4b0
     try clear c4b1
     try clear c7
     obtain ⟨x18_2, rfl, HA, HK2, HB⟩ := hrel
     cases gk with
     | zero => exact absurd HA.out (by simp [impl_mayStand.l0])
     | succ k2 =>
      have H := HA.out
      clear HA
      simp only [impl_mayStand.l0] at H
      replace H := ifD H; rcases H with ⟨c8b0, H⟩ | ⟨c8b0, H⟩
      ·replace H := ifN H; obtain ⟨c9b0, H⟩ := H
       replace H := ifN H; obtain ⟨c10b0, H⟩ := H
       replace H := ifF H; rcases H with ⟨c11b0, c11b1, H⟩ | ⟨c11b0, c11b1, c11, H⟩
       ·exact τ46
       ·exact τ46
      ·exact τ46

/-! ### impl_holdsPlace: function 149 -/
def impl_holdsPlace.f (k : Nat) (l0 : List (S36)) (l1 : List (S74)) (a2 : Bool) : Option (Bool) := if a2 = true then ((impl_mayStand.f k l0 l1).bind fun t464 => (some t464)) else (some ((l1.length : Int) == 0))
theorem τ47 {P : Prop} (h : P := by
 obtain rfl := Option.some.inj H
 go_enter Try.func149, Try.ntmps149
 go_wp2_with (first | ((with_reducible refine gate_callee (f := 99) rfl ?_); refine gL 14 Try.func99 #[.pointer A0, .slice A1 l1.length c1] ?_; (with_reducible refine (impl_mayStand.calls k _ c0 l0 _ _ l1 _ _ ?_ ?_ ?_ ?_ ?_ A5.out).mono ?_); exact hn0; exact ψ30; exact HC0.out; exact ψ54; exact HC1.out; rintro e w1_ ⟨rfl, hb⟩; refine ⟨_, rfl, ?_⟩; replace HB := Aside0.mk (below_step ψ6 hb); (try clear hb)))
 go_ret
 exact ⟨ψ4, ψ6⟩) : P := h
theorem impl_holdsPlace.calls (k : Nat) (A0 : Option Addr) (c0 : Nat) (l0 : List (S36)) (A1 : Option Addr) (c1 : Nat) (l1 : List (S74)) (a2 : Bool) (r : Bool) (w : World) (hn0 : l0.length = 1) (hr0 : Kd.C k36 w A0 l0.length l0) (hc0 : l0.length ≤ c0) (hr1 : Kd.C k74 w A1 l1.length l1) (hc1 : l1.length ≤ c1) (h : impl_holdsPlace.f k l0 l1 a2 = some r) :
 Calls Try.prog 149 #[.pointer A0, .slice A1 l1.length c1, .bool a2] w fun e w' => e = .returned (.bool r) ∧ Below w.heap.size w w' := by
 have q := n4_ hr0 hc0 hr1 hc1
 clear hr0 hc0 hr1 hc1
 obtain ⟨HR0, HC0, HR1, HC1⟩ := q
 have HB := Aside0.mk (Below.refl w.heap.size w)
 unfold impl_holdsPlace.f at h
 have H := h
 clear h
 replace H := ifB H; rcases H with ⟨rfl, H⟩ | ⟨rfl, H⟩
 ·replace H := bS H; obtain ⟨t464, A5, H⟩ := H
  exact τ47
 ·exact τ47

end Go.Proofs.Ytakmkdlkipfnhaa.PCore

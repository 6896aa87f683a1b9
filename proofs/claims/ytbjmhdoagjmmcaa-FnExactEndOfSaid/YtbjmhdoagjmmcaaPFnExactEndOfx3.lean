/- The walks of the functions that the law FnExactEndOf comes to, part 3: turned out of the kit's print, and mended where that fell. -/
import Derived.Test.YtbjmhdoagjmmcaaPFnExactEndOfx0
import Derived.Test.YtbjmhdoagjmmcaaPFnExactEndOfx2
namespace Go.Proofs.Ytbjmhdoagjmmcaa.PFnExactEndOf
open Go.RowKit Go.Proofs.YtbjmhdoagjmmcaaW.PrintWords Go.Proofs.YtbjmhdoagjmmcaaW.PrintLast Go.Proofs.YtbjmhdoagjmmcaaW.PrintMore
attribute [local go_sem] max2_int min2_int max_two min_two max_three min_three max_four min_four   -- for this text's walks alone
set_option linter.unusedVariables false
set_option linter.unusedSimpArgs false

/-! ### impl_nester_many: function 80 -/
/-! ### impl_nester_one: function 46 -/
mutual
def impl_nester_many.l0 : Nat → List (S71) → List (S42) → Int → Int → Int → Option ((List (S71)) × Bool × Int × Int × Int)
  | 0, _, _, _, _, _ => none
  | k + 1, x4, x1000, x1001, x1002, x1003 => if x1001 < (x1000.length : Int) then ((impl_nester_is.f x1000 x1001 x1002 x1003 3).bind fun t215 => (if t215 = true then (impl_nester_many.j1 k x4 false x1000 x1001 x1002 x1003) else ((impl_nester_is.f x1000 x1001 x1002 x1003 4).bind fun t216 => (if t216 = true then (impl_nester_many.j1 k x4 false x1000 x1001 x1002 x1003) else ((impl_nester_is.f x1000 x1001 x1002 x1003 9).bind fun t217 => (impl_nester_many.j1 k x4 (!t217) x1000 x1001 x1002 x1003)))))) else (impl_nester_many.j1 k x4 false x1000 x1001 x1002 x1003)
def impl_nester_many.j1 : Nat → List (S71) → Bool → List (S42) → Int → Int → Int → Option ((List (S71)) × Bool × Int × Int × Int)
  | 0, _, _, _, _, _, _ => none
  | k + 1, x4, x32, x1000, x1001, x1002, x1003 => if x32 = true then ((impl_nester_one.f k x1000 x1001 x1002 x1003).bind fun bt218 => (if bt218.2.2.2.1 = true then (if x4.length < 2513169434916 then (impl_nester_many.l0 k (x4 ++ [(⟨bt218.1, bt218.2.1, bt218.2.2.1⟩ : S71)]) x1000 bt218.2.2.2.2.1 bt218.2.2.2.2.2.1 bt218.2.2.2.2.2.2) else (none)) else (some (([] : List (S71)), false, bt218.2.2.2.2.1, bt218.2.2.2.2.2.1, bt218.2.2.2.2.2.2)))) else (some (x4, true, x1001, x1002, x1003))
def impl_nester_many.f : Nat → List (S42) → Int → Int → Int → Option ((List (S71)) × Bool × Int × Int × Int)
  | 0, _, _, _, _ => none
  | k + 1, s0_0, s0_1, s0_2, s0_3 => impl_nester_many.l0 k (([] : List (S71))) s0_0 s0_1 s0_2 s0_3
def impl_nester_one.j0 : Nat → Int → Bool → List (S42) → Int → Int → Int → Int → Option (Int × (List (S71)) × (List (S71)) × Bool × Int × Int × Int)
  | 0, _, _, _, _, _, _, _ => none
  | k + 1, x5, x41, x1000, x1001, x1002, x1003, x235000 => if x41 = true then (some (x235000, ([] : List (S71)), ([] : List (S71)), true, x1001, x1002, x1003)) else ((impl_nester_many.f k x1000 x1001 x1002 x1003).bind fun bt236 => (if bt236.2.1 = true then (if x5 = 2 then ((impl_nester_is.f x1000 bt236.2.2.1 bt236.2.2.2.1 bt236.2.2.2.2 3).bind fun t243 => (if t243 = true then (impl_nester_one.j1 k x5 bt236.2.1 (-1) true x1000 bt236.2.2.1 bt236.2.2.2.1 bt236.2.2.2.2 x235000 bt236.1) else (if x5 = 8 then ((impl_nester_is.f x1000 bt236.2.2.1 bt236.2.2.2.1 bt236.2.2.2.2 9).bind fun t244 => (impl_nester_one.j1 k x5 bt236.2.1 (-1) t244 x1000 bt236.2.2.1 bt236.2.2.2.1 bt236.2.2.2.2 x235000 bt236.1)) else (impl_nester_one.j1 k x5 bt236.2.1 (-1) false x1000 bt236.2.2.1 bt236.2.2.2.1 bt236.2.2.2.2 x235000 bt236.1)))) else (if x5 = 8 then ((impl_nester_is.f x1000 bt236.2.2.1 bt236.2.2.2.1 bt236.2.2.2.2 9).bind fun t245 => (impl_nester_one.j1 k x5 bt236.2.1 (-1) t245 x1000 bt236.2.2.1 bt236.2.2.2.1 bt236.2.2.2.2 x235000 bt236.1)) else (impl_nester_one.j1 k x5 bt236.2.1 (-1) false x1000 bt236.2.2.1 bt236.2.2.2.1 bt236.2.2.2.2 x235000 bt236.1))) else (impl_nester_one.j1 k x5 bt236.2.1 (-1) false x1000 bt236.2.2.1 bt236.2.2.2.1 bt236.2.2.2.2 x235000 bt236.1)))
def impl_nester_one.j1 : Nat → Int → Bool → Int → Bool → List (S42) → Int → Int → Int → Int → List (S71) → Option (Int × (List (S71)) × (List (S71)) × Bool × Int × Int × Int)
  | 0, _, _, _, _, _, _, _, _, _, _ => none
  | k + 1, x5, x7, x8, x66, x1000, x1001, x1002, x1003, x235000, x235001 => if x66 = true then ((impl_nester_many.f k x1000 (wrap64 (x1001 + 1)) x1002 x1003).bind fun bt246 => (impl_nester_one.j2 k x5 bt246.2.1 x1001 x1000 bt246.2.2.1 bt246.2.2.2.1 bt246.2.2.2.2 x235000 x235001 bt246.1)) else (impl_nester_one.j2 k x5 x7 x8 x1000 x1001 x1002 x1003 x235000 x235001 ([] : List (S71)))
def impl_nester_one.j2 : Nat → Int → Bool → Int → List (S42) → Int → Int → Int → Int → List (S71) → List (S71) → Option (Int × (List (S71)) × (List (S71)) × Bool × Int × Int × Int)
  | 0, _, _, _, _, _, _, _, _, _, _ => none
  | k + 1, x5, x7, x8, x1000, x1001, x1002, x1003, x235000, x235001, x235002 => if x7 = true then ((impl_nester_is.f x1000 x1001 x1002 x1003 4).bind fun t253 => (if t253 = true then (if x5 = 8 then (impl_nester_one.j3 k x8 (decide (x8 < 0)) x1000 x1001 x1002 x1003 x235000 x235001 x235002) else (impl_nester_one.j3 k x8 false x1000 x1001 x1002 x1003 x235000 x235001 x235002)) else (impl_nester_one.j3 k x8 true x1000 x1001 x1002 x1003 x235000 x235001 x235002))) else (impl_nester_one.j3 k x8 true x1000 x1001 x1002 x1003 x235000 x235001 x235002)
def impl_nester_one.j3 : Nat → Int → Bool → List (S42) → Int → Int → Int → Int → List (S71) → List (S71) → Option (Int × (List (S71)) × (List (S71)) × Bool × Int × Int × Int)
  | 0, _, _, _, _, _, _, _, _, _ => none
  | k + 1, x8, x98, x1000, x1001, x1002, x1003, x235000, x235001, x235002 => if x98 = true then (some (0, ([] : List (S71)), ([] : List (S71)), false, x1001, x1002, x1003)) else (some (x235000, x235001, x235002, true, wrap64 (x1001 + 1), x8, x1001))
def impl_nester_one.f : Nat → List (S42) → Int → Int → Int → Option (Int × (List (S71)) × (List (S71)) × Bool × Int × Int × Int)
  | 0, _, _, _, _ => none
  | k + 1, s0_0, s0_1, s0_2, s0_3 => if 0 ≤ s0_1 then (if s0_1 < (s0_0.length : Int) then (if ((rd_T42 s0_0 s0_1).f0) = 2 then (impl_nester_one.j0 k ((rd_T42 s0_0 s0_1).f0) false s0_0 (wrap64 (s0_1 + 1)) s0_2 s0_3 s0_1) else (if ((rd_T42 s0_0 s0_1).f0) = 5 then (impl_nester_one.j0 k ((rd_T42 s0_0 s0_1).f0) false s0_0 (wrap64 (s0_1 + 1)) s0_2 s0_3 s0_1) else (impl_nester_one.j0 k ((rd_T42 s0_0 s0_1).f0) (((rd_T42 s0_0 s0_1).f0) != 8) s0_0 (wrap64 (s0_1 + 1)) s0_2 s0_3 s0_1))) else (none)) else (none)
end
theorem impl_nester_one.mono_m : ∀ k, (∀ y0 y1 y2 y3 y4, LeO (impl_nester_many.l0 k y0 y1 y2 y3 y4) (impl_nester_many.l0 (k + 1) y0 y1 y2 y3 y4)) ∧ (∀ y0 y1 y2 y3 y4 y5, LeO (impl_nester_many.j1 k y0 y1 y2 y3 y4 y5) (impl_nester_many.j1 (k + 1) y0 y1 y2 y3 y4 y5)) ∧ (∀ y0 y1 y2 y3, LeO (impl_nester_many.f k y0 y1 y2 y3) (impl_nester_many.f (k + 1) y0 y1 y2 y3)) ∧ (∀ y0 y1 y2 y3 y4 y5 y6, LeO (impl_nester_one.j0 k y0 y1 y2 y3 y4 y5 y6) (impl_nester_one.j0 (k + 1) y0 y1 y2 y3 y4 y5 y6)) ∧ (∀ y0 y1 y2 y3 y4 y5 y6 y7 y8 y9, LeO (impl_nester_one.j1 k y0 y1 y2 y3 y4 y5 y6 y7 y8 y9) (impl_nester_one.j1 (k + 1) y0 y1 y2 y3 y4 y5 y6 y7 y8 y9)) ∧ (∀ y0 y1 y2 y3 y4 y5 y6 y7 y8 y9, LeO (impl_nester_one.j2 k y0 y1 y2 y3 y4 y5 y6 y7 y8 y9) (impl_nester_one.j2 (k + 1) y0 y1 y2 y3 y4 y5 y6 y7 y8 y9)) ∧ (∀ y0 y1 y2 y3 y4 y5 y6 y7 y8, LeO (impl_nester_one.j3 k y0 y1 y2 y3 y4 y5 y6 y7 y8) (impl_nester_one.j3 (k + 1) y0 y1 y2 y3 y4 y5 y6 y7 y8)) ∧ (∀ y0 y1 y2 y3, LeO (impl_nester_one.f k y0 y1 y2 y3) (impl_nester_one.f (k + 1) y0 y1 y2 y3))
  | 0 => ⟨fun _ _ _ _ _ r h => by simp [impl_nester_many.l0] at h, fun _ _ _ _ _ _ r h => by simp [impl_nester_many.j1] at h, fun _ _ _ _ r h => by simp [impl_nester_many.f] at h, fun _ _ _ _ _ _ _ r h => by simp [impl_nester_one.j0] at h, fun _ _ _ _ _ _ _ _ _ _ r h => by simp [impl_nester_one.j1] at h, fun _ _ _ _ _ _ _ _ _ _ r h => by simp [impl_nester_one.j2] at h, fun _ _ _ _ _ _ _ _ _ r h => by simp [impl_nester_one.j3] at h, fun _ _ _ _ r h => by simp [impl_nester_one.f] at h⟩
  | k + 1 => by
    obtain ⟨ih0, ih1, ih2, ih3, ih4, ih5, ih6, ih7⟩ := impl_nester_one.mono_m k
    refine ⟨?_, ?_, ?_, ?_, ?_, ?_, ?_, ?_⟩
    · intro y0 y1 y2 y3 y4
      unfold impl_nester_many.l0
      repeat' first
      | (with_reducible exact ih0 _ _ _ _ _)
      | (with_reducible exact ih1 _ _ _ _ _ _)
      | (with_reducible exact ih2 _ _ _ _)
      | (with_reducible exact ih3 _ _ _ _ _ _ _)
      | (with_reducible exact ih4 _ _ _ _ _ _ _ _ _ _)
      | (with_reducible exact ih5 _ _ _ _ _ _ _ _ _ _)
      | (with_reducible exact ih6 _ _ _ _ _ _ _ _ _)
      | (with_reducible exact ih7 _ _ _ _)
      | (with_reducible exact LeO.refl _)
      | (with_reducible exact LeO.none _)
      | (with_reducible refine LeO.ite ?_ ?_)
      | (with_reducible refine LeO.bind ?_ (fun _ => ?_))
      | exact ih0 _ _ _ _ _
      | exact ih1 _ _ _ _ _ _
      | exact ih2 _ _ _ _
      | exact ih3 _ _ _ _ _ _ _
      | exact ih4 _ _ _ _ _ _ _ _ _ _
      | exact ih5 _ _ _ _ _ _ _ _ _ _
      | exact ih6 _ _ _ _ _ _ _ _ _
      | exact ih7 _ _ _ _
      | exact LeO.none _
      | refine LeO.ite ?_ ?_
      | refine LeO.bind ?_ (fun _ => ?_)
    · intro y0 y1 y2 y3 y4 y5
      unfold impl_nester_many.j1
      repeat' first
      | (with_reducible exact ih0 _ _ _ _ _)
      | (with_reducible exact ih1 _ _ _ _ _ _)
      | (with_reducible exact ih2 _ _ _ _)
      | (with_reducible exact ih3 _ _ _ _ _ _ _)
      | (with_reducible exact ih4 _ _ _ _ _ _ _ _ _ _)
      | (with_reducible exact ih5 _ _ _ _ _ _ _ _ _ _)
      | (with_reducible exact ih6 _ _ _ _ _ _ _ _ _)
      | (with_reducible exact ih7 _ _ _ _)
      | (with_reducible exact LeO.refl _)
      | (with_reducible exact LeO.none _)
      | (with_reducible refine LeO.ite ?_ ?_)
      | (with_reducible refine LeO.bind ?_ (fun _ => ?_))
      | exact ih0 _ _ _ _ _
      | exact ih1 _ _ _ _ _ _
      | exact ih2 _ _ _ _
      | exact ih3 _ _ _ _ _ _ _
      | exact ih4 _ _ _ _ _ _ _ _ _ _
      | exact ih5 _ _ _ _ _ _ _ _ _ _
      | exact ih6 _ _ _ _ _ _ _ _ _
      | exact ih7 _ _ _ _
      | exact LeO.none _
      | refine LeO.ite ?_ ?_
      | refine LeO.bind ?_ (fun _ => ?_)
    · intro y0 y1 y2 y3
      unfold impl_nester_many.f
      repeat' first
      | (with_reducible exact ih0 _ _ _ _ _)
      | (with_reducible exact ih1 _ _ _ _ _ _)
      | (with_reducible exact ih2 _ _ _ _)
      | (with_reducible exact ih3 _ _ _ _ _ _ _)
      | (with_reducible exact ih4 _ _ _ _ _ _ _ _ _ _)
      | (with_reducible exact ih5 _ _ _ _ _ _ _ _ _ _)
      | (with_reducible exact ih6 _ _ _ _ _ _ _ _ _)
      | (with_reducible exact ih7 _ _ _ _)
      | (with_reducible exact LeO.refl _)
      | (with_reducible exact LeO.none _)
      | (with_reducible refine LeO.ite ?_ ?_)
      | (with_reducible refine LeO.bind ?_ (fun _ => ?_))
      | exact ih0 _ _ _ _ _
      | exact ih1 _ _ _ _ _ _
      | exact ih2 _ _ _ _
      | exact ih3 _ _ _ _ _ _ _
      | exact ih4 _ _ _ _ _ _ _ _ _ _
      | exact ih5 _ _ _ _ _ _ _ _ _ _
      | exact ih6 _ _ _ _ _ _ _ _ _
      | exact ih7 _ _ _ _
      | exact LeO.none _
      | refine LeO.ite ?_ ?_
      | refine LeO.bind ?_ (fun _ => ?_)
    · intro y0 y1 y2 y3 y4 y5 y6
      unfold impl_nester_one.j0
      repeat' first
      | (with_reducible exact ih0 _ _ _ _ _)
      | (with_reducible exact ih1 _ _ _ _ _ _)
      | (with_reducible exact ih2 _ _ _ _)
      | (with_reducible exact ih3 _ _ _ _ _ _ _)
      | (with_reducible exact ih4 _ _ _ _ _ _ _ _ _ _)
      | (with_reducible exact ih5 _ _ _ _ _ _ _ _ _ _)
      | (with_reducible exact ih6 _ _ _ _ _ _ _ _ _)
      | (with_reducible exact ih7 _ _ _ _)
      | (with_reducible exact LeO.refl _)
      | (with_reducible exact LeO.none _)
      | (with_reducible refine LeO.ite ?_ ?_)
      | (with_reducible refine LeO.bind ?_ (fun _ => ?_))
      | exact ih0 _ _ _ _ _
      | exact ih1 _ _ _ _ _ _
      | exact ih2 _ _ _ _
      | exact ih3 _ _ _ _ _ _ _
      | exact ih4 _ _ _ _ _ _ _ _ _ _
      | exact ih5 _ _ _ _ _ _ _ _ _ _
      | exact ih6 _ _ _ _ _ _ _ _ _
      | exact ih7 _ _ _ _
      | exact LeO.none _
      | refine LeO.ite ?_ ?_
      | refine LeO.bind ?_ (fun _ => ?_)
    · intro y0 y1 y2 y3 y4 y5 y6 y7 y8 y9
      unfold impl_nester_one.j1
      repeat' first
      | (with_reducible exact ih0 _ _ _ _ _)
      | (with_reducible exact ih1 _ _ _ _ _ _)
      | (with_reducible exact ih2 _ _ _ _)
      | (with_reducible exact ih3 _ _ _ _ _ _ _)
      | (with_reducible exact ih4 _ _ _ _ _ _ _ _ _ _)
      | (with_reducible exact ih5 _ _ _ _ _ _ _ _ _ _)
      | (with_reducible exact ih6 _ _ _ _ _ _ _ _ _)
      | (with_reducible exact ih7 _ _ _ _)
      | (with_reducible exact LeO.refl _)
      | (with_reducible exact LeO.none _)
      | (with_reducible refine LeO.ite ?_ ?_)
      | (with_reducible refine LeO.bind ?_ (fun _ => ?_))
      | exact ih0 _ _ _ _ _
      | exact ih1 _ _ _ _ _ _
      | exact ih2 _ _ _ _
      | exact ih3 _ _ _ _ _ _ _
      | exact ih4 _ _ _ _ _ _ _ _ _ _
      | exact ih5 _ _ _ _ _ _ _ _ _ _
      | exact ih6 _ _ _ _ _ _ _ _ _
      | exact ih7 _ _ _ _
      | exact LeO.none _
      | refine LeO.ite ?_ ?_
      | refine LeO.bind ?_ (fun _ => ?_)
    · intro y0 y1 y2 y3 y4 y5 y6 y7 y8 y9
      unfold impl_nester_one.j2
      repeat' first
      | (with_reducible exact ih0 _ _ _ _ _)
      | (with_reducible exact ih1 _ _ _ _ _ _)
      | (with_reducible exact ih2 _ _ _ _)
      | (with_reducible exact ih3 _ _ _ _ _ _ _)
      | (with_reducible exact ih4 _ _ _ _ _ _ _ _ _ _)
      | (with_reducible exact ih5 _ _ _ _ _ _ _ _ _ _)
      | (with_reducible exact ih6 _ _ _ _ _ _ _ _ _)
      | (with_reducible exact ih7 _ _ _ _)
      | (with_reducible exact LeO.refl _)
      | (with_reducible exact LeO.none _)
      | (with_reducible refine LeO.ite ?_ ?_)
      | (with_reducible refine LeO.bind ?_ (fun _ => ?_))
      | exact ih0 _ _ _ _ _
      | exact ih1 _ _ _ _ _ _
      | exact ih2 _ _ _ _
      | exact ih3 _ _ _ _ _ _ _
      | exact ih4 _ _ _ _ _ _ _ _ _ _
      | exact ih5 _ _ _ _ _ _ _ _ _ _
      | exact ih6 _ _ _ _ _ _ _ _ _
      | exact ih7 _ _ _ _
      | exact LeO.none _
      | refine LeO.ite ?_ ?_
      | refine LeO.bind ?_ (fun _ => ?_)
    · intro y0 y1 y2 y3 y4 y5 y6 y7 y8
      unfold impl_nester_one.j3
      repeat' first
      | (with_reducible exact ih0 _ _ _ _ _)
      | (with_reducible exact ih1 _ _ _ _ _ _)
      | (with_reducible exact ih2 _ _ _ _)
      | (with_reducible exact ih3 _ _ _ _ _ _ _)
      | (with_reducible exact ih4 _ _ _ _ _ _ _ _ _ _)
      | (with_reducible exact ih5 _ _ _ _ _ _ _ _ _ _)
      | (with_reducible exact ih6 _ _ _ _ _ _ _ _ _)
      | (with_reducible exact ih7 _ _ _ _)
      | (with_reducible exact LeO.refl _)
      | (with_reducible exact LeO.none _)
      | (with_reducible refine LeO.ite ?_ ?_)
      | (with_reducible refine LeO.bind ?_ (fun _ => ?_))
      | exact ih0 _ _ _ _ _
      | exact ih1 _ _ _ _ _ _
      | exact ih2 _ _ _ _
      | exact ih3 _ _ _ _ _ _ _
      | exact ih4 _ _ _ _ _ _ _ _ _ _
      | exact ih5 _ _ _ _ _ _ _ _ _ _
      | exact ih6 _ _ _ _ _ _ _ _ _
      | exact ih7 _ _ _ _
      | exact LeO.none _
      | refine LeO.ite ?_ ?_
      | refine LeO.bind ?_ (fun _ => ?_)
    · intro y0 y1 y2 y3
      unfold impl_nester_one.f
      repeat' first
      | (with_reducible exact ih0 _ _ _ _ _)
      | (with_reducible exact ih1 _ _ _ _ _ _)
      | (with_reducible exact ih2 _ _ _ _)
      | (with_reducible exact ih3 _ _ _ _ _ _ _)
      | (with_reducible exact ih4 _ _ _ _ _ _ _ _ _ _)
      | (with_reducible exact ih5 _ _ _ _ _ _ _ _ _ _)
      | (with_reducible exact ih6 _ _ _ _ _ _ _ _ _)
      | (with_reducible exact ih7 _ _ _ _)
      | (with_reducible exact LeO.refl _)
      | (with_reducible exact LeO.none _)
      | (with_reducible refine LeO.ite ?_ ?_)
      | (with_reducible refine LeO.bind ?_ (fun _ => ?_))
      | exact ih0 _ _ _ _ _
      | exact ih1 _ _ _ _ _ _
      | exact ih2 _ _ _ _
      | exact ih3 _ _ _ _ _ _ _
      | exact ih4 _ _ _ _ _ _ _ _ _ _
      | exact ih5 _ _ _ _ _ _ _ _ _ _
      | exact ih6 _ _ _ _ _ _ _ _ _
      | exact ih7 _ _ _ _
      | exact LeO.none _
      | refine LeO.ite ?_ ?_
      | refine LeO.bind ?_ (fun _ => ?_)
theorem impl_nester_many.mono : ∀ a0 a1 a2 a3 k, LeO (impl_nester_many.f k a0 a1 a2 a3) (impl_nester_many.f (k + 1) a0 a1 a2 a3) := by
  intro a0 a1 a2 a3 k
  obtain ⟨ih0, ih1, ih2, ih3, ih4, ih5, ih6, ih7⟩ := impl_nester_one.mono_m k
  exact ih2 a0 a1 a2 a3
theorem impl_nester_one.mono : ∀ a0 a1 a2 a3 k, LeO (impl_nester_one.f k a0 a1 a2 a3) (impl_nester_one.f (k + 1) a0 a1 a2 a3) := by
  intro a0 a1 a2 a3 k
  obtain ⟨ih0, ih1, ih2, ih3, ih4, ih5, ih6, ih7⟩ := impl_nester_one.mono_m k
  exact ih7 a0 a1 a2 a3

end Go.Proofs.Ytbjmhdoagjmmcaa.PFnExactEndOf

/- The walks of the functions that the laws come to, part 1: turned out of the kit's print, and mended where that fell. -/
import Derived.Test.YtbjmhdoagjmmcaaPCoreg
import Derived.Test.YtbjmhdoagjmmcaaPCoreg0
namespace Go.Proofs.Ytbjmhdoagjmmcaa.PCore
open Go.RowKit Go.Proofs.YtbjmhdoagjmmcaaW.PrintWords Go.Proofs.YtbjmhdoagjmmcaaW.PrintLast Go.Proofs.YtbjmhdoagjmmcaaW.PrintMore
attribute [local go_sem] max2_int min2_int max_two min_two max_three min_three max_four min_four   -- for this text's walks alone
set_option linter.unusedVariables false
set_option linter.unusedSimpArgs false

theorem ψ13 {P : Prop} (h : P := by repeat (first | (with_reducible first | exact HB.out | apply below_alloc | apply pw_below_drewN | apply below_drew1 | refine below_set ?_ (IsS68.ge HI0.out) | refine below_set ?_ GE10.out) | exact HB.out)) : P := h
theorem ψ18 {P : Prop} (h : P := by (with_reducible repeat (first | apply Kd.R_alloc | apply Kd.R_drewN | apply Kd.R_drew)); exact HO_4.out) : P := h
theorem ψ19 {P : Prop} (h : P := by have := HK1.out; have := HJ3.out; omega) : P := h
theorem ψ20 {P : Prop} (h : P := by (with_reducible repeat (first | apply Kd.R_alloc | apply Kd.R_drewN | apply Kd.R_drew)); exact HO203.out) : P := h
theorem ψ21 {P : Prop} (h : P := by (with_reducible repeat (first | apply Kd.R_alloc | apply Kd.R_drewN | apply Kd.R_drew)); exact HO206.out) : P := h
theorem ψ22 {P : Prop} (h : P := by repeat (first | (with_reducible first | exact HI0.out | apply IsS68.alloc | apply IsS68.drewN | apply IsS68.drew | apply IsS68.set_1 | apply IsS68.set_2 | apply IsS68.set_3 | (apply IsS68.far; (case hne => exact NB0_10.out))) | exact HI0.out)) : P := h
theorem ψ26 {P : Prop} (h : P := by (with_reducible repeat (first | refine blk_drewN ?_ _ | refine blk_drew ?_ | refine blk_alloc ?_ _)); refine blk_far ?_ NB10_0.out _; (with_reducible repeat (first | refine blk_drewN ?_ _ | refine blk_drew ?_ | refine blk_alloc ?_ _)); refine blk_far ?_ NB10_11.out _; (with_reducible repeat (first | refine blk_drewN ?_ _ | refine blk_drew ?_ | refine blk_alloc ?_ _)); refine blk_far ?_ NB10_11.out _; (with_reducible repeat (first | refine blk_drewN ?_ _ | refine blk_drew ?_ | refine blk_alloc ?_ _)); refine blk_far ?_ NB10_11.out _; (with_reducible repeat (first | refine blk_drewN ?_ _ | refine blk_drew ?_ | refine blk_alloc ?_ _)); exact BK10.out) : P := h
theorem ψ27 {P : Prop} (h : P := by (with_reducible repeat (first | refine blk_drewN ?_ _ | refine blk_drew ?_ | refine blk_alloc ?_ _)); refine blk_far ?_ NB11_0.out _; (with_reducible repeat (first | refine blk_drewN ?_ _ | refine blk_drew ?_ | refine blk_alloc ?_ _)); refine blk_put (cs := #[.int .i64 s0_1, .slice none 0 0, .slice none 0 0]) ?_ 2 _ rfl; (with_reducible repeat (first | refine blk_drewN ?_ _ | refine blk_drew ?_ | refine blk_alloc ?_ _)); refine blk_put (cs := #[.int .i64 s0_1, .slice none 0 0, .slice none 0 0]) ?_ 1 _ rfl; (with_reducible repeat (first | refine blk_drewN ?_ _ | refine blk_drew ?_ | refine blk_alloc ?_ _)); refine blk_put (cs := #[.int .i64 0, .slice none 0 0, .slice none 0 0]) ?_ 0 _ rfl; (with_reducible repeat (first | refine blk_drewN ?_ _ | refine blk_drew ?_ | refine blk_alloc ?_ _)); exact BK11.out) : P := h
theorem ψ28 {P : Prop} (h : P := by repeat (first | (with_reducible first | exact HI0.out | apply IsS68.alloc | apply IsS68.drewN | apply IsS68.drew | apply IsS68.set_1 | apply IsS68.set_2 | apply IsS68.set_3 | (apply IsS68.far; (case hne => exact NB0_10.out)) | (apply IsS68.far; (case hne => exact NB0_11.out))) | exact HI0.out)) : P := h
theorem ψ30 {P : Prop} (h : P := by repeat (first | (with_reducible first | exact HB.out | apply below_alloc | apply pw_below_drewN | apply below_drew1 | refine below_set ?_ (IsS68.ge HI0.out) | refine below_set ?_ GE10.out | refine below_set ?_ GE11.out) | exact HB.out)) : P := h
theorem ψ32 {P : Prop} (h : P := by (with_reducible repeat (first | refine blk_drewN ?_ _ | refine blk_drew ?_ | refine blk_alloc ?_ _)); refine blk_put (cs := #[.int .i64 s0_1, .slice none 0 0, .slice none 0 0]) ?_ 1 _ rfl; (with_reducible repeat (first | refine blk_drewN ?_ _ | refine blk_drew ?_ | refine blk_alloc ?_ _)); exact BK11.out) : P := h
theorem ψ33 {P : Prop} (h : P := by (with_reducible repeat (first | apply Kd.R_alloc | apply Kd.R_drewN | apply Kd.R_drew)); exact (Kd.R_mono (Kd.R_far (p := ⟨gb11, 1, none⟩) (Kd.R_mono HO226.out (fun k_ hk => (⟨hk, hk.2⟩ : _ ∧ k_ ≠ gb11))) (fun _ hk => hk.2) (.slice Ao23 t224.length co23)) (fun _ h_ => h_.1))) : P := h
theorem ψ36 {P : Prop} (h : P := by (with_reducible repeat (first | apply Kd.R_alloc | apply Kd.R_drewN | apply Kd.R_drew)); exact Kd.R_mono HO226.out (fun _ hk => ⟨hk.1.2, hk.2⟩)) : P := h
theorem ψ37 {P : Prop} (h : P := by (with_reducible repeat (first | apply Kd.R_alloc | apply Kd.R_drewN | apply Kd.R_drew)); exact HO_219001.out) : P := h
theorem ψ38 {P : Prop} (h : P := by (with_reducible repeat (first | apply Kd.R_alloc | apply Kd.R_drewN | apply Kd.R_drew)); exact HO_219002.out) : P := h
theorem ψ39 {P : Prop} (h : P := by have := HJ3.out; have := HJ20.out; have := HJ39.out; first | omega | exact Nat.le_refl _) : P := h
theorem ψ40 {P : Prop} (h : P := by have := World.block_lt_of_cell? _ _ hx221_0; first | rwa [add_block] at this | exact this) : P := h
theorem ψ41 {P : Prop} (h : P := by first | (rw [add_block]; exact hn221_0) | (show (Addr.add _ _).block ≠ _; rw [add_block]; exact hn221_0) | exact hn221_0) : P := h
theorem ψ42 {P : Prop} (h : P := by first | (rw [add_block]; exact hn221_1) | (show (Addr.add _ _).block ≠ _; rw [add_block]; exact hn221_1) | exact hn221_1) : P := h
theorem ψ43 {P : Prop} (h : P := by first | (rw [add_block]; exact hn221_2) | (show (Addr.add _ _).block ≠ _; rw [add_block]; exact hn221_2) | exact hn221_2) : P := h
theorem ψ44 {P : Prop} (h : P := by have := HJ3.out; have := hm_; omega) : P := h
theorem ψ45 {P : Prop} (h : P := by (with_reducible repeat (first | refine blk_drewN ?_ _ | refine blk_drew ?_ | refine blk_alloc ?_ _)); refine blk_far ?_ NB10_0.out _; (with_reducible repeat (first | refine blk_drewN ?_ _ | refine blk_drew ?_ | refine blk_alloc ?_ _)); exact BK10.out) : P := h
theorem ψ46 {P : Prop} (h : P := by (with_reducible repeat (first | refine blk_drewN ?_ _ | refine blk_drew ?_ | refine blk_alloc ?_ _)); refine blk_far ?_ NB11_0.out _; (with_reducible repeat (first | refine blk_drewN ?_ _ | refine blk_drew ?_ | refine blk_alloc ?_ _)); exact BK11.out) : P := h
theorem ψ47 {P : Prop} (h : P := by have := HJ3.out; have := HJ20.out; first | omega | exact Nat.le_refl _) : P := h
theorem ψ299 {P : Prop} (h : P := by rw [hg]; exact Nat.ne_of_lt (IsS68.lt (show IsS68 w0 _ g s0_0 t208 t209 t210 from ψ10))) : P := h
theorem ψ300 {P : Prop} (h : P := by rw [hg]; exact Nat.ne_of_gt (IsS68.lt (show IsS68 w0 _ g s0_0 t208 t209 t210 from ψ10))) : P := h
theorem ψ302 {P : Prop} (h : P := by rw [hg]; exact Nat.ne_of_lt (IsS68.lt (show IsS68 w0 _ g s0_0 s0_1 s0_2 s0_3 from ψ10))) : P := h
theorem ψ303 {P : Prop} (h : P := by rw [hg]; exact Nat.ne_of_gt (IsS68.lt (show IsS68 w0 _ g s0_0 s0_1 s0_2 s0_3 from ψ10))) : P := h
theorem ψ306 {P : Prop} (h : P := by rw [hg]; exact Nat.ne_of_lt (IsS68.lt (show IsS68 w0 _ g s0_0 s0_1 s0_2 s0_3 from ψ22))) : P := h
theorem ψ307 {P : Prop} (h : P := by rw [hg]; exact Nat.ne_of_gt (IsS68.lt (show IsS68 w0 _ g s0_0 s0_1 s0_2 s0_3 from ψ22))) : P := h
theorem ψ308 {P : Prop} (h : P := by first | exact Nat.ne_of_lt (Nat.lt_of_lt_of_le (ψ40) GW11.out) | exact Nat.ne_of_lt (Nat.lt_of_lt_of_le (ψ40) GE11.out)) : P := h
theorem ψ309 {P : Prop} (h : P := by (with_reducible repeat (first | apply Kd.R_alloc | apply Kd.R_drewN | apply Kd.R_drew)); exact (Kd.R_mono (Kd.R_far (p := ⟨g, 1, none⟩) (IsS68.apart HI0.out HO_219001.out (ψ15)) (fun _ hk => hk.2) (.int .i64 (wrap64 (t228 + 1)))) (fun _ h_ => h_.1))) : P := h
/-! ### impl_nester_one: function 46 -/
mutual
def impl_nester_many.l0 : Nat → List (S71) → List (S42) → Int → Int → Int → Option ((List (S71)) × Bool × Int × Int × Int)
 | 0, _, _, _, _, _ => none
 | k + 1, x4, x1000, x1001, x1002, x1003 => if x1001 < (x1000.length : Int) then ((impl_nester_is.f x1000 x1001 x1002 x1003 3).bind fun t197 => (if t197 = true then (impl_nester_many.j1 k x4 false x1000 x1001 x1002 x1003) else ((impl_nester_is.f x1000 x1001 x1002 x1003 4).bind fun t198 => (if t198 = true then (impl_nester_many.j1 k x4 false x1000 x1001 x1002 x1003) else ((impl_nester_is.f x1000 x1001 x1002 x1003 9).bind fun t199 => (impl_nester_many.j1 k x4 (!t199) x1000 x1001 x1002 x1003)))))) else (impl_nester_many.j1 k x4 false x1000 x1001 x1002 x1003)
def impl_nester_many.j1 : Nat → List (S71) → Bool → List (S42) → Int → Int → Int → Option ((List (S71)) × Bool × Int × Int × Int)
 | 0, _, _, _, _, _, _ => none
 | k + 1, x4, x32, x1000, x1001, x1002, x1003 => if x32 = true then ((impl_nester_one.f k x1000 x1001 x1002 x1003).bind fun bt200 => (if bt200.2.2.2.1 = true then (if x4.length < 2513169434916 then (impl_nester_many.l0 k (x4 ++ [(⟨bt200.1, bt200.2.1, bt200.2.2.1⟩ : S71)]) x1000 bt200.2.2.2.2.1 bt200.2.2.2.2.2.1 bt200.2.2.2.2.2.2) else (none)) else (some (([] : List (S71)), false, bt200.2.2.2.2.1, bt200.2.2.2.2.2.1, bt200.2.2.2.2.2.2)))) else (some (x4, true, x1001, x1002, x1003))
def impl_nester_many.f : Nat → List (S42) → Int → Int → Int → Option ((List (S71)) × Bool × Int × Int × Int)
 | 0, _, _, _, _ => none
 | k + 1, s0_0, s0_1, s0_2, s0_3 => impl_nester_many.l0 k (([] : List (S71))) s0_0 s0_1 s0_2 s0_3
def impl_nester_one.j0 : Nat → Int → Bool → List (S42) → Int → Int → Int → Int → Option (Int × (List (S71)) × (List (S71)) × Bool × Int × Int × Int)
 | 0, _, _, _, _, _, _, _ => none
 | k + 1, x5, x41, x1000, x1001, x1002, x1003, x219000 => if x41 = true then (some (x219000, ([] : List (S71)), ([] : List (S71)), true, x1001, x1002, x1003)) else ((impl_nester_many.f k x1000 x1001 x1002 x1003).bind fun bt224 => (if bt224.2.1 = true then (if x5 = 2 then ((impl_nester_is.f x1000 bt224.2.2.1 bt224.2.2.2.1 bt224.2.2.2.2 3).bind fun t231 => (if t231 = true then (impl_nester_one.j1 k x5 bt224.2.1 (-1) true x1000 bt224.2.2.1 bt224.2.2.2.1 bt224.2.2.2.2 x219000 bt224.1) else (if x5 = 8 then ((impl_nester_is.f x1000 bt224.2.2.1 bt224.2.2.2.1 bt224.2.2.2.2 9).bind fun t232 => (impl_nester_one.j1 k x5 bt224.2.1 (-1) t232 x1000 bt224.2.2.1 bt224.2.2.2.1 bt224.2.2.2.2 x219000 bt224.1)) else (impl_nester_one.j1 k x5 bt224.2.1 (-1) false x1000 bt224.2.2.1 bt224.2.2.2.1 bt224.2.2.2.2 x219000 bt224.1)))) else (if x5 = 8 then ((impl_nester_is.f x1000 bt224.2.2.1 bt224.2.2.2.1 bt224.2.2.2.2 9).bind fun t233 => (impl_nester_one.j1 k x5 bt224.2.1 (-1) t233 x1000 bt224.2.2.1 bt224.2.2.2.1 bt224.2.2.2.2 x219000 bt224.1)) else (impl_nester_one.j1 k x5 bt224.2.1 (-1) false x1000 bt224.2.2.1 bt224.2.2.2.1 bt224.2.2.2.2 x219000 bt224.1))) else (impl_nester_one.j1 k x5 bt224.2.1 (-1) false x1000 bt224.2.2.1 bt224.2.2.2.1 bt224.2.2.2.2 x219000 bt224.1)))
def impl_nester_one.j1 : Nat → Int → Bool → Int → Bool → List (S42) → Int → Int → Int → Int → List (S71) → Option (Int × (List (S71)) × (List (S71)) × Bool × Int × Int × Int)
 | 0, _, _, _, _, _, _, _, _, _, _ => none
 | k + 1, x5, x7, x8, x66, x1000, x1001, x1002, x1003, x219000, x219001 => if x66 = true then ((impl_nester_many.f k x1000 (wrap64 (x1001 + 1)) x1002 x1003).bind fun bt236 => (impl_nester_one.j2 k x5 bt236.2.1 x1001 x1000 bt236.2.2.1 bt236.2.2.2.1 bt236.2.2.2.2 x219000 x219001 bt236.1)) else (impl_nester_one.j2 k x5 x7 x8 x1000 x1001 x1002 x1003 x219000 x219001 ([] : List (S71)))
def impl_nester_one.j2 : Nat → Int → Bool → Int → List (S42) → Int → Int → Int → Int → List (S71) → List (S71) → Option (Int × (List (S71)) × (List (S71)) × Bool × Int × Int × Int)
 | 0, _, _, _, _, _, _, _, _, _, _ => none
 | k + 1, x5, x7, x8, x1000, x1001, x1002, x1003, x219000, x219001, x219002 => if x7 = true then ((impl_nester_is.f x1000 x1001 x1002 x1003 4).bind fun t243 => (if t243 = true then (if x5 = 8 then (impl_nester_one.j3 k x8 (decide (x8 < 0)) x1000 x1001 x1002 x1003 x219000 x219001 x219002) else (impl_nester_one.j3 k x8 false x1000 x1001 x1002 x1003 x219000 x219001 x219002)) else (impl_nester_one.j3 k x8 true x1000 x1001 x1002 x1003 x219000 x219001 x219002))) else (impl_nester_one.j3 k x8 true x1000 x1001 x1002 x1003 x219000 x219001 x219002)
def impl_nester_one.j3 : Nat → Int → Bool → List (S42) → Int → Int → Int → Int → List (S71) → List (S71) → Option (Int × (List (S71)) × (List (S71)) × Bool × Int × Int × Int)
 | 0, _, _, _, _, _, _, _, _, _ => none
 | k + 1, x8, x98, x1000, x1001, x1002, x1003, x219000, x219001, x219002 => if x98 = true then (some (0, ([] : List (S71)), ([] : List (S71)), false, x1001, x1002, x1003)) else (some (x219000, x219001, x219002, true, wrap64 (x1001 + 1), x8, x1001))
def impl_nester_one.f : Nat → List (S42) → Int → Int → Int → Option (Int × (List (S71)) × (List (S71)) × Bool × Int × Int × Int)
 | 0, _, _, _, _ => none
 | k + 1, s0_0, s0_1, s0_2, s0_3 => if 0 ≤ s0_1 then (if s0_1 < (s0_0.length : Int) then (if ((rd_T42 s0_0 s0_1).f0) = 2 then (impl_nester_one.j0 k ((rd_T42 s0_0 s0_1).f0) false s0_0 (wrap64 (s0_1 + 1)) s0_2 s0_3 s0_1) else (if ((rd_T42 s0_0 s0_1).f0) = 5 then (impl_nester_one.j0 k ((rd_T42 s0_0 s0_1).f0) false s0_0 (wrap64 (s0_1 + 1)) s0_2 s0_3 s0_1) else (impl_nester_one.j0 k ((rd_T42 s0_0 s0_1).f0) (((rd_T42 s0_0 s0_1).f0) != 8) s0_0 (wrap64 (s0_1 + 1)) s0_2 s0_3 s0_1))) else (none)) else (none)
end

def impl_nester_many.T2 : Bool × List (List Nat × List Nat) := (true, [([], []), ([0], [0]), ([1], [1]), ([2], [2]), ([], []), ([4], [4]), ([5], [5]), ([6], [6]), ([7], [7]), ([3, 8], [3, 8]), ([9], [9]), ([10], [10]), ([11, 10, 10], [10, 11]), ([12, 10], [10, 12]), ([10, 13], [10, 13]), ([14, 12], [14]), ([15], [15]), ([16, 15, 15], [15, 16]), ([17, 15], [15, 17]), ([15, 18], [15, 18]), ([19, 17], [19]), ([20], [20]), ([21, 20, 20], [20, 21]), ([22, 20], [20, 22]), ([20, 23], [20, 23])])
def impl_nester_many.B2 : List Nat := [0, 1, 3, 7, 0, 16, 48, 112, 240, 511, 1023, 2047, 4095, 8191, 16383, 32767, 65535, 131071, 262143, 524287, 1048575, 2097151, 4194303, 8388607, 16777215]
theorem impl_nester_many.tab2 : rtab .any (opsOf Try.f80 2) = impl_nester_many.T2 := by kernel_rfl
theorem impl_nester_many.bits2 : waitsOk impl_nester_many.T2.2 impl_nester_many.B2 = true := by kernel_rfl
set_option maxHeartbeats 8000000 in
set_option maxRecDepth 100000 in
theorem impl_nester_many.calls_of (k : Nat) (ihm : ∀ m_, m_ < k → (∀ (g : Nat) (s0_0 : List (S42)) (s0_1 : Int) (s0_2 : Int) (s0_3 : Int) (r1 : Int) (r2 : List (S71)) (r3 : List (S71)) (r4 : Bool) (r5 : Int) (r6 : Int) (r7 : Int) (w0 w : World) (hI : IsS68 w0 w g s0_0 s0_1 s0_2 s0_3) (hB : Below w0.heap.size w0 w) (h : impl_nester_one.f m_ s0_0 s0_1 s0_2 s0_3 = some (r1, r2, r3, r4, r5, r6, r7)),
 Calls Try.prog 46 #[.pointer (some ⟨g, 0, none⟩)] w fun e w' => ∃ v1_ v2_ : Value, e = .returned (.tuple #[.agg #[.int .i64 r1, v1_, v2_], .bool r4]) ∧ Kd.R k71 71 w' w.heap.size (fun k_ => some k_ ≠ (v2_ : Value).ownBlock) v1_ r2 ∧ Kd.R k71 71 w' w.heap.size (fun k_ => some k_ ≠ (v1_ : Value).ownBlock) v2_ r3 ∧ IsS68 w0 w' g s0_0 r5 r6 r7 ∧ Below w0.heap.size w0 w' ∧ KeepBut w w' g none)) : ∀ (g : Nat) (s0_0 : List (S42)) (s0_1 : Int) (s0_2 : Int) (s0_3 : Int) (r1 : List (S71)) (r2 : Bool) (r3 : Int) (r4 : Int) (r5 : Int) (w0 w : World) (hI : IsS68 w0 w g s0_0 s0_1 s0_2 s0_3) (hB : Below w0.heap.size w0 w) (h : impl_nester_many.f k s0_0 s0_1 s0_2 s0_3 = some (r1, r2, r3, r4, r5)),
 Calls Try.prog 80 #[.pointer (some ⟨g, 0, none⟩)] w fun e w' => ∃ v0_ : Value, e = .returned (.tuple #[v0_, .bool r2]) ∧ Kd.R k71 71 w' w.heap.size (fun _ => True) v0_ r1 ∧ IsS68 w0 w' g s0_0 r3 r4 r5 ∧ Below w0.heap.size w0 w' ∧ KeepBut w w' g none := by
 intro g s0_0 s0_1 s0_2 s0_3 r1 r2 r3 r4 r5 w0 w hI hB h
 cases k with
 | zero => exact absurd h (by simp [impl_nester_many.f])
 | succ k =>
 simp only [impl_nester_many.f] at h
 have hu71 := Try.underlying71
 have HI0 := Aside0.mk hI
 have HK := Aside0.mk (KeepBut.refl w g none)
 have HL := Aside0.mk hB.size
 clear hI
 have HW0 := Aside0.mk hB.size
 have HB := Aside0.mk hB
 clear hB
 have H : (impl_nester_many.l0 k (([] : List (S71))) s0_0 s0_1 s0_2 s0_3) = some (r1, r2, r3, r4, r5) := h
 clear h
 obtain ⟨y192, hy192⟩ : ∃ y_ : List (S71), y_ = (([] : List (S71))) := ⟨_, rfl⟩
 replace H : (impl_nester_many.l0 k y192 s0_0 s0_1 s0_2 s0_3) = some (r1, r2, r3, r4, r5) := by first | (rw [hy192]; with_reducible exact H) | (have H2_ := (Option.bind_some _ _).symm.trans H; rw [hy192]; with_reducible exact H2_) | (have H2_ := (Option.bind_some _ _).symm.trans H; with_reducible exact H2_) | with_reducible exact H | (rw [hy192]; exact H) | exact H
 have Ny192 := Aside0.mk hy192
 clear hy192
 have H' := Aside0.mk H
 clear H
 go_enter Try.func80, Try.ntmps80
 go_wp2_with (first | ((with_reducible refine gate_dst (N := 7) rfl ?_); refine Kd.R_lit k71 _ 71 ?hg (N := 7) ?hd (xs := ([] : List (S71))) (inner := []) (ok := fun _ => True) (okp := fun _ => True) ?hr ?hp (fun _ hk => hk) trivial (Below.refl _ _) (Nat.le_refl _) ψ8 ?_; (case hd => rfl); (case hg => rfl); (case hr => first | (go_simp; done) | (go_simp; rfl)); (case hp => exact (Reps.none _ _)); intro v193 w2 ho3 hb hg_ hnew_; clear hg_ hnew_; (first | rw [← Ny192.out] at ho3 | (simp only [Int.reduceToNat] at ho3; rw [← Ny192.out] at ho3)); have q := n4_ (Kd.R_lower ho3 (keep_size (w := w) (g := g) (row := none) ψ12)) (IsS68.below ψ10 hb) (KeepBut.trans ψ12 (KeepBut.of_below hb g none) (.inl rfl)) (below_step ψ13 hb); clear HI0 HK HB; obtain ⟨HO194, HI0, HK, HB⟩ := q; clear hb ho3))
 go_loopg [4] k (fun kq v4 w' => ∃ (x4_1 : List (S71)) (x1001_1 : Int) (x1002_1 : Int) (x1003_1 : Int), Aside0 (impl_nester_many.l0 kq x4_1 s0_0 x1001_1 x1002_1 x1003_1 = some (r1, r2, r3, r4, r5)) ∧ Aside0 (kq ≤ k) ∧ Aside0 (Kd.R k71 71 w' w.heap.size (fun _ => True) v4 x4_1) ∧ Aside0 (IsS68 w0 w' g s0_0 x1001_1 x1002_1 x1003_1) ∧ Aside0 (KeepBut w w' g none) ∧ Aside0 (Below w0.heap.size w0 w'))
 case atStart => exact ⟨(y192), (s0_1), (s0_2), (s0_3), H', ⟨Nat.le_refl _⟩, ⟨by (with_reducible repeat (first | apply Kd.R_alloc | apply Kd.R_drewN | apply Kd.R_drew)); exact HO194.out⟩, ⟨ψ10⟩, ⟨ψ12⟩, ⟨ψ13⟩⟩
 case round =>
  clear H'
  try clear p2
  obtain ⟨x4_1, x1001_1, x1002_1, x1003_1, HA, HK1, HO_4, HI0, HK, HB⟩ := hrel
  cases gk with
  | zero => exact absurd HA.out (by simp [impl_nester_many.l0])
  | succ k1 =>
   have H := HA.out
   clear HA
   simp only [impl_nester_many.l0] at H
   have HC4 := Aside0.mk H
   clear H
   go_upto_region 2 with (fail)
   go_cut [32] (fun v32 wc => ∃ (kq : Nat) (x32_3 : Bool), v32 = .bool x32_3 ∧ Aside0 (impl_nester_many.j1 kq x4_1 x32_3 s0_0 x1001_1 x1002_1 x1003_1 = some (r1, r2, r3, r4, r5)) ∧ Aside0 (kq ≤ k1) ∧ Aside0 (Kd.R k71 71 wc w.heap.size (fun _ => True) u4 x4_1) ∧ Aside0 (IsS68 w0 wc g s0_0 x1001_1 x1002_1 x1003_1) ∧ Aside0 (KeepBut w wc g none) ∧ Aside0 (Below w0.heap.size w0 wc))
   case first =>
    have H := HC4.out
    clear HC4
    replace H := ifD H; rcases H with ⟨c5b0, H⟩ | ⟨c5b0, H⟩
    ·(first | rw [c5b0] | (simp only [i64_w, i32_w]; rw [c5b0]) | skip)
     replace H := Option.bind_eq_some_iff.mp H
     obtain ⟨t197, A60, H⟩ := H
     have A6 := Aside0.mk A60
     clear A60
     replace H := ifB H; rcases H with ⟨rfl, H⟩ | ⟨rfl, H⟩
     ·have H' := Aside0.mk H
      clear H
      try go_wp2
      have q := n4_ (Kd.R_drew HO_4.out) (IsS68.drew HI0.out) (keep_drew HK.out) (below_drew1 HB.out)
      clear HO_4 HI0 HK HB
      obtain ⟨HO_4, HI0, HK, HB⟩ := q
      obtain ⟨ASy10_0, cSy10_0, HGy10, hgy10, HSy10_0⟩ := HI0.out
      refine start_ (n := 25) (S := fun w' => w'.cell? ⟨g, 1, none⟩ = some (.int .i64 x1001_1) ∧ w'.cell? ⟨g, 2, none⟩ = some (.int .i64 x1002_1) ∧ w'.cell? ⟨g, 3, none⟩ = some (.int .i64 x1003_1) ∧ w'.cell? ⟨g, 0, none⟩ = some (.slice ASy10_0 s0_0.length cSy10_0)) (ds := [12]) #[false, false, false, false, false, false, false, false, false, false, false, false, false, false, false, false, false, false, false, false, false, false, false, false, false] ψ14 rfl rfl ⟨IsS68.cell_1 HI0.out, IsS68.cell_2 HI0.out, IsS68.cell_3 HI0.out, cellS68_0 HGy10⟩ (fun hHeld => ?_); refine with_tabW impl_nester_many.tab2 impl_nester_many.bits2 (fun HT_ HW_ => ?_)
      generalize wr.drew = w8 at HO_4 HI0 HK HB hHeld ⊢
      refine rP 0 8 ?_; refine rP 1 9 ?_; refine rP 2 10 ?_; refine rP 4 12 ?_; refine rP 5 13 ?_; refine rP 6 14 ?_; refine rT 3 11 ?_; refine rT 7 15 ?_; refine rP 8 16 ?_; refine rP 9 17 ?_; refine rP 10 18 ?_; refine rP 11 19 ?_
      refine last_ (i := 12) (N := some 20) #[true, true, true, true, true, true, true, true, true, true, true, true, true, false, false, false, false, false, false, false, false, false, false, false, false] rfl rfl (one_of HT_.out ψ14) ψ15 (fun K hK => ?_)
      refine goes_ Try.func81 ψ14 rfl #[.pointer (some ⟨g, 0, none⟩), .int .i64 3] ψ16 rfl rfl ψ17 ?_
      with_reducible refine (impl_nester_is.calls g s0_0 x1001_1 x1002_1 x1003_1 3 true w0 _ ?_ ?_ A6.out).mono ?_
      exact ψ10; exact ψ13
      rintro e w9 ⟨rfl, hi, hb, hk⟩
      refine ⟨_, rfl, ?_⟩
      have q := n4_ (Kd.R_mono (Kd.R_keep (IsS68.apart (show IsS68 w0 _ g s0_0 x1001_1 x1002_1 x1003_1 from ψ10) ψ18 ψ15) hk (fun _ h => h.2)) (fun _ h => h.1)) (KeepBut.trans ψ12 hk (.inl rfl)) (hb) (hi)
      clear HO_4 HK HB HI0
      obtain ⟨HO_4, HK, HB, HI0⟩ := q
      (try clear hb hk hi)
      refine hK.out _ _ ?_
      clear hK K
      refine rN 20 ?_; refine rP 13 21 ?_; refine rP 14 22 ?_; refine rP 15 23 ?_; refine rU 16 24 ?_; refine rU 17 25 ?_; refine rU 18 26 ?_; refine rP 19 27 ?_; refine rP 20 28 ?_; refine rU 21 29 ?_; refine rU 22 30 ?_; refine rU 23 31 ?_; refine rP 24 32 ?_
      refine done_ (done_of HT_.out ψ14) ?_
      try go_wp2
      go_meet
      case rel => exact ⟨_, (false), ψ0, H', ⟨ψ3⟩, ⟨ψ18⟩, ⟨ψ10⟩, ⟨ψ12⟩, ⟨ψ13⟩⟩
     ·replace H := Option.bind_eq_some_iff.mp H
      obtain ⟨t198, A110, H⟩ := H
      have A11 := Aside0.mk A110
      clear A110
      replace H := ifB H; rcases H with ⟨rfl, H⟩ | ⟨rfl, H⟩
      ·have H' := Aside0.mk H
       clear H
       try go_wp2
       have q := n4_ (Kd.R_drew HO_4.out) (IsS68.drew HI0.out) (keep_drew HK.out) (below_drew1 HB.out)
       clear HO_4 HI0 HK HB
       obtain ⟨HO_4, HI0, HK, HB⟩ := q
       obtain ⟨ASy16_0, cSy16_0, HGy16, hgy16, HSy16_0⟩ := HI0.out
       refine start_ (n := 25) (S := fun w' => w'.cell? ⟨g, 1, none⟩ = some (.int .i64 x1001_1) ∧ w'.cell? ⟨g, 2, none⟩ = some (.int .i64 x1002_1) ∧ w'.cell? ⟨g, 3, none⟩ = some (.int .i64 x1003_1) ∧ w'.cell? ⟨g, 0, none⟩ = some (.slice ASy16_0 s0_0.length cSy16_0)) (ds := [12, 17]) #[false, false, false, false, false, false, false, false, false, false, false, false, false, false, false, false, false, false, false, false, false, false, false, false, false] ψ14 rfl rfl ⟨IsS68.cell_1 HI0.out, IsS68.cell_2 HI0.out, IsS68.cell_3 HI0.out, cellS68_0 HGy16⟩ (fun hHeld => ?_); refine with_tabW impl_nester_many.tab2 impl_nester_many.bits2 (fun HT_ HW_ => ?_)
       generalize wr.drew = w13 at HO_4 HI0 HK HB hHeld ⊢
       refine rP 0 8 ?_; refine rP 1 9 ?_; refine rP 2 10 ?_; refine rP 4 12 ?_; refine rP 5 13 ?_; refine rP 6 14 ?_; refine rT 3 11 ?_; refine rT 7 15 ?_; refine rP 8 16 ?_; refine rP 9 17 ?_; refine rP 10 18 ?_; refine rP 11 19 ?_
       refine last_ (i := 12) (N := some 20) #[true, true, true, true, true, true, true, true, true, true, true, true, true, false, false, false, false, false, false, false, false, false, false, false, false] rfl rfl (one_of HT_.out ψ14) ψ15 (fun K hK => ?_)
       refine goes_ Try.func81 ψ14 rfl #[.pointer (some ⟨g, 0, none⟩), .int .i64 3] ψ16 rfl rfl ψ17 ?_
       with_reducible refine (impl_nester_is.calls g s0_0 x1001_1 x1002_1 x1003_1 3 false w0 _ ?_ ?_ A6.out).mono ?_
       exact ψ10; exact ψ13
       rintro e w14 ⟨rfl, hi, hb, hk⟩
       refine ⟨_, rfl, ?_⟩
       have q := n4_ (Kd.R_mono (Kd.R_keep (IsS68.apart (show IsS68 w0 _ g s0_0 x1001_1 x1002_1 x1003_1 from ψ10) ψ18 ψ15) hk (fun _ h => h.2)) (fun _ h => h.1)) (KeepBut.trans ψ12 hk (.inl rfl)) (hb) (hi)
       clear HO_4 HK HB HI0
       obtain ⟨HO_4, HK, HB, HI0⟩ := q
       (try clear hb hk hi)
       refine hK.out _ _ ?_
       clear hK K
       refine rN 20 ?_; refine rP 13 21 ?_; refine rP 14 22 ?_; refine rP 15 23 ?_; refine rP 16 24 ?_
       refine last_ (i := 17) (N := some 25) #[true, true, true, true, true, true, true, true, true, true, true, true, true, true, true, true, true, true, false, false, false, false, false, false, false] rfl rfl (one_of HT_.out ψ14) ψ15 (fun K hK => ?_)
       refine goes_ Try.func81 ψ14 rfl #[.pointer (some ⟨g, 0, none⟩), .int .i64 4] ψ16 rfl rfl ψ17 ?_
       with_reducible refine (impl_nester_is.calls g s0_0 x1001_1 x1002_1 x1003_1 4 true w0 _ ?_ ?_ A11.out).mono ?_
       exact ψ10; exact ψ13
       rintro e w15 ⟨rfl, hi, hb, hk⟩
       refine ⟨_, rfl, ?_⟩
       have q := n4_ (Kd.R_mono (Kd.R_keep (IsS68.apart (show IsS68 w0 _ g s0_0 x1001_1 x1002_1 x1003_1 from ψ10) ψ18 ψ15) hk (fun _ h => h.2)) (fun _ h => h.1)) (KeepBut.trans ψ12 hk (.inl rfl)) (hb) (hi)
       clear HO_4 HK HB HI0
       obtain ⟨HO_4, HK, HB, HI0⟩ := q
       (try clear hb hk hi)
       refine hK.out _ _ ?_
       clear hK K
       refine rN 25 ?_; refine rP 18 26 ?_; refine rP 19 27 ?_; refine rP 20 28 ?_; refine rU 21 29 ?_; refine rU 22 30 ?_; refine rU 23 31 ?_; refine rP 24 32 ?_
       refine done_ (done_of HT_.out ψ14) ?_
       try go_wp2
       go_meet
       case rel => exact ⟨_, (false), ψ0, H', ⟨ψ3⟩, ⟨ψ18⟩, ⟨ψ10⟩, ⟨ψ12⟩, ⟨ψ13⟩⟩
      ·replace H := Option.bind_eq_some_iff.mp H
       obtain ⟨t199, A170, H⟩ := H
       have A17 := Aside0.mk A170
       clear A170
       have H' := Aside0.mk H
       clear H
       try go_wp2
       have q := n4_ (Kd.R_drew HO_4.out) (IsS68.drew HI0.out) (keep_drew HK.out) (below_drew1 HB.out)
       clear HO_4 HI0 HK HB
       obtain ⟨HO_4, HI0, HK, HB⟩ := q
       obtain ⟨ASy22_0, cSy22_0, HGy22, hgy22, HSy22_0⟩ := HI0.out
       refine start_ (n := 25) (S := fun w' => w'.cell? ⟨g, 1, none⟩ = some (.int .i64 x1001_1) ∧ w'.cell? ⟨g, 2, none⟩ = some (.int .i64 x1002_1) ∧ w'.cell? ⟨g, 3, none⟩ = some (.int .i64 x1003_1) ∧ w'.cell? ⟨g, 0, none⟩ = some (.slice ASy22_0 s0_0.length cSy22_0)) (ds := [12, 17, 22]) #[false, false, false, false, false, false, false, false, false, false, false, false, false, false, false, false, false, false, false, false, false, false, false, false, false] ψ14 rfl rfl ⟨IsS68.cell_1 HI0.out, IsS68.cell_2 HI0.out, IsS68.cell_3 HI0.out, cellS68_0 HGy22⟩ (fun hHeld => ?_); refine with_tabW impl_nester_many.tab2 impl_nester_many.bits2 (fun HT_ HW_ => ?_)
       generalize wr.drew = w18 at HO_4 HI0 HK HB hHeld ⊢
       refine rP 0 8 ?_; refine rP 1 9 ?_; refine rP 2 10 ?_; refine rP 4 12 ?_; refine rP 5 13 ?_; refine rP 6 14 ?_; refine rT 3 11 ?_; refine rT 7 15 ?_; refine rP 8 16 ?_; refine rP 9 17 ?_; refine rP 10 18 ?_; refine rP 11 19 ?_
       refine last_ (i := 12) (N := some 20) #[true, true, true, true, true, true, true, true, true, true, true, true, true, false, false, false, false, false, false, false, false, false, false, false, false] rfl rfl (one_of HT_.out ψ14) ψ15 (fun K hK => ?_)
       refine goes_ Try.func81 ψ14 rfl #[.pointer (some ⟨g, 0, none⟩), .int .i64 3] ψ16 rfl rfl ψ17 ?_
       with_reducible refine (impl_nester_is.calls g s0_0 x1001_1 x1002_1 x1003_1 3 false w0 _ ?_ ?_ A6.out).mono ?_
       exact ψ10; exact ψ13
       rintro e w19 ⟨rfl, hi, hb, hk⟩
       refine ⟨_, rfl, ?_⟩
       have q := n4_ (Kd.R_mono (Kd.R_keep (IsS68.apart (show IsS68 w0 _ g s0_0 x1001_1 x1002_1 x1003_1 from ψ10) ψ18 ψ15) hk (fun _ h => h.2)) (fun _ h => h.1)) (KeepBut.trans ψ12 hk (.inl rfl)) (hb) (hi)
       clear HO_4 HK HB HI0
       obtain ⟨HO_4, HK, HB, HI0⟩ := q
       (try clear hb hk hi)
       refine hK.out _ _ ?_
       clear hK K
       refine rN 20 ?_; refine rP 13 21 ?_; refine rP 14 22 ?_; refine rP 15 23 ?_; refine rP 16 24 ?_
       refine last_ (i := 17) (N := some 25) #[true, true, true, true, true, true, true, true, true, true, true, true, true, true, true, true, true, true, false, false, false, false, false, false, false] rfl rfl (one_of HT_.out ψ14) ψ15 (fun K hK => ?_)
       refine goes_ Try.func81 ψ14 rfl #[.pointer (some ⟨g, 0, none⟩), .int .i64 4] ψ16 rfl rfl ψ17 ?_
       with_reducible refine (impl_nester_is.calls g s0_0 x1001_1 x1002_1 x1003_1 4 false w0 _ ?_ ?_ A11.out).mono ?_
       exact ψ10; exact ψ13
       rintro e w20 ⟨rfl, hi, hb, hk⟩
       refine ⟨_, rfl, ?_⟩
       have q := n4_ (Kd.R_mono (Kd.R_keep (IsS68.apart (show IsS68 w0 _ g s0_0 x1001_1 x1002_1 x1003_1 from ψ10) ψ18 ψ15) hk (fun _ h => h.2)) (fun _ h => h.1)) (KeepBut.trans ψ12 hk (.inl rfl)) (hb) (hi)
       clear HO_4 HK HB HI0
       obtain ⟨HO_4, HK, HB, HI0⟩ := q
       (try clear hb hk hi)
       refine hK.out _ _ ?_
       clear hK K
       refine rN 25 ?_; refine rP 18 26 ?_; refine rP 19 27 ?_; refine rP 20 28 ?_; refine rP 21 29 ?_
       refine last_ (i := 22) (N := some 30) #[true, true, true, true, true, true, true, true, true, true, true, true, true, true, true, true, true, true, true, true, true, true, true, false, false] rfl rfl (one_of HT_.out ψ14) ψ15 (fun K hK => ?_)
       refine goes_ Try.func81 ψ14 rfl #[.pointer (some ⟨g, 0, none⟩), .int .i64 9] ψ16 rfl rfl ψ17 ?_
       with_reducible refine (impl_nester_is.calls g s0_0 x1001_1 x1002_1 x1003_1 9 t199 w0 _ ?_ ?_ A17.out).mono ?_
       exact ψ10; exact ψ13
       rintro e w21 ⟨rfl, hi, hb, hk⟩
       refine ⟨_, rfl, ?_⟩
       have q := n4_ (Kd.R_mono (Kd.R_keep (IsS68.apart (show IsS68 w0 _ g s0_0 x1001_1 x1002_1 x1003_1 from ψ10) ψ18 ψ15) hk (fun _ h => h.2)) (fun _ h => h.1)) (KeepBut.trans ψ12 hk (.inl rfl)) (hb) (hi)
       clear HO_4 HK HB HI0
       obtain ⟨HO_4, HK, HB, HI0⟩ := q
       (try clear hb hk hi)
       refine hK.out _ _ ?_
       clear hK K
       refine rN 30 ?_; refine rP 23 31 ?_; refine rP 24 32 ?_
       refine done_ (done_of HT_.out ψ14) ?_
       try go_wp2
       go_meet
       case rel => exact ⟨_, (!t199), ψ0, H', ⟨ψ3⟩, ⟨ψ18⟩, ⟨ψ10⟩, ⟨ψ12⟩, ⟨ψ13⟩⟩
    ·(first | rw [c5b0] | (simp only [i64_w, i32_w]; rw [c5b0]) | skip)
     have H' := Aside0.mk H
     clear H
     try go_wp2
     have q := n4_ (Kd.R_drew HO_4.out) (IsS68.drew HI0.out) (keep_drew HK.out) (below_drew1 HB.out)
     clear HO_4 HI0 HK HB
     obtain ⟨HO_4, HI0, HK, HB⟩ := q
     obtain ⟨ASy24_0, cSy24_0, HGy24, hgy24, HSy24_0⟩ := HI0.out
     refine start_ (n := 25) (S := fun w' => w'.cell? ⟨g, 1, none⟩ = some (.int .i64 x1001_1) ∧ w'.cell? ⟨g, 2, none⟩ = some (.int .i64 x1002_1) ∧ w'.cell? ⟨g, 3, none⟩ = some (.int .i64 x1003_1) ∧ w'.cell? ⟨g, 0, none⟩ = some (.slice ASy24_0 s0_0.length cSy24_0)) (ds := []) #[false, false, false, false, false, false, false, false, false, false, false, false, false, false, false, false, false, false, false, false, false, false, false, false, false] ψ14 rfl rfl ⟨IsS68.cell_1 HI0.out, IsS68.cell_2 HI0.out, IsS68.cell_3 HI0.out, cellS68_0 HGy24⟩ (fun hHeld => ?_); refine with_tabW impl_nester_many.tab2 impl_nester_many.bits2 (fun HT_ HW_ => ?_)
     generalize wr.drew = w23 at HO_4 HI0 HK HB hHeld ⊢
     refine rP 0 8 ?_; refine rP 1 9 ?_; refine rP 2 10 ?_; refine rP 4 12 ?_; refine rP 5 13 ?_; refine rP 6 14 ?_; refine rT 3 11 ?_; refine rT 7 15 ?_; refine rP 8 16 ?_; refine rP 9 17 ?_; refine rP 10 18 ?_; refine rU 11 19 ?_; refine rU 12 20 ?_; refine rU 13 21 ?_; refine rP 14 22 ?_; refine rP 15 23 ?_; refine rU 16 24 ?_; refine rU 17 25 ?_; refine rU 18 26 ?_; refine rP 19 27 ?_; refine rP 20 28 ?_; refine rU 21 29 ?_; refine rU 22 30 ?_; refine rU 23 31 ?_; refine rP 24 32 ?_
     refine done_ (done_of HT_.out ψ14) ?_
     try go_wp2
     go_meet
     case rel => exact ⟨_, (false), ψ0, H', ⟨ψ3⟩, ⟨ψ18⟩, ⟨ψ10⟩, ⟨ψ12⟩, ⟨ψ13⟩⟩
   case rest =>
    clear HC4
    try clear c1
    try clear p2
    try clear c5
    try clear c5b0
    try clear c8
    try clear c12
    obtain ⟨kq, x32_3, rfl, HA, HJ3, HO_4, HI0, HK, HB⟩ := hcut
    cases kq with
    | zero => exact absurd HA.out (by simp [impl_nester_many.j1])
    | succ kj3 =>
     have H := HA.out
     clear HA
     simp only [impl_nester_many.j1] at H
     replace H := ifB H; rcases H with ⟨rfl, H⟩ | ⟨rfl, H⟩
     ·replace H := Option.bind_eq_some_iff.mp H
      obtain ⟨⟨t200, t201, t204, t207, t208, t209, t210⟩, A260, H⟩ := H
      have A26 := Aside0.mk A260
      clear A260
      replace H := ifB H; rcases H with ⟨rfl, H⟩ | ⟨rfl, H⟩
      ·by_cases c28 : x4_1.length < 2513169434916
       ·rw [if_pos c28] at H
        have LMc28 := Aside0.mk c28
        clear c28
        obtain ⟨y213, hy213⟩ : ∃ y_ : List (S71), y_ = (x4_1 ++ [(⟨t200, t201, t204⟩ : S71)]) := ⟨_, rfl⟩
        replace H : (impl_nester_many.l0 kj3 y213 s0_0 t208 t209 t210) = some (r1, r2, r3, r4, r5) := by first | (rw [hy213]; with_reducible exact H) | (have H2_ := (Option.bind_some _ _).symm.trans H; rw [hy213]; with_reducible exact H2_) | (have H2_ := (Option.bind_some _ _).symm.trans H; with_reducible exact H2_) | with_reducible exact H | (rw [hy213]; exact H) | exact H
        have Ny213 := Aside0.mk hy213
        clear hy213
        have H' := Aside0.mk H
        clear H
        go_wp2_with (first | ((with_reducible refine gate_callee (f := 46) rfl ?_); refine gL 35 Try.func46 #[.pointer (some ⟨g, 0, none⟩)] ?_; (with_reducible refine (ihm kj3 ψ19 g s0_0 x1001_1 x1002_1 x1003_1 t200 t201 t204 true t208 t209 t210 w0 _ ?_ ?_ A26.out).mono ?_); exact ψ10; exact ψ13; rintro e w29 ⟨v202, v205, rfl, ho0, ho1, hi, hb, hk⟩; refine ⟨_, rfl, ?_⟩; have q := n6_ (Kd.R_mono (Kd.R_told (Kd.R_told (Kd.R_oldK (IsS68.apart (show IsS68 w0 _ g s0_0 x1001_1 x1002_1 x1003_1 from ψ10) ψ18 ψ15) hk) (Kd.R_base ho0)) (Kd.R_base ho1)) (fun _ h_ => h_.1)) (Kd.R_lower (Kd.R_new' ho0 (Kd.R_lt ψ18)) (keep_size (w := w) (g := g) (row := none) ψ12)) (Kd.R_lower (Kd.R_new' ho1 (Kd.R_lt ψ18)) (keep_size (w := w) (g := g) (row := none) ψ12)) (KeepBut.trans ψ12 hk (.inl rfl)) (hb) (hi); clear HO_4 HK HB HI0; obtain ⟨HO_4, HO203, HO206, HK, HB, HI0⟩ := q; (try clear hb hk hi); (try clear ho0); (try clear ho1)) | ((with_reducible refine gate_dst (N := 5) rfl ?_); refine bE 5 #[.int .i64 0, .slice none 0 0, .slice none 0 0] 71 ?_; intro gb10 hg w30 hbox hb; have q := n11_ (Kd.R_below (Kd.R_elderB ψ18 gb10 (Nat.le_of_eq hg.symm)) hb) (Kd.R_below (Kd.R_elderB ψ20 gb10 (Nat.le_of_eq hg.symm)) hb) (Kd.R_below (Kd.R_elderB ψ21 gb10 (Nat.le_of_eq hg.symm)) hb) (IsS68.below ψ10 hb) (KeepBut.trans ψ12 (KeepBut.of_below hb g none) (.inl rfl)) (below_step ψ13 hb) (hbox) ((ψ298 : w.heap.size ≤ gb10)) ((Nat.le_trans HW0.out (ψ298 : w.heap.size ≤ gb10) : w0.heap.size ≤ gb10)) ((ψ299 : g ≠ gb10)) ((ψ300 : gb10 ≠ g)); clear HO_4 HO203 HO206 HI0 HK HB; obtain ⟨HO_4, HO203, HO206, HI0, HK, HB, BK10, GW10, GE10, NB0_10, NB10_0⟩ := q; clear hb hbox hg; have hnb31 := NB10_0.out; have hnc31 := NB0_10.out; obtain ⟨y32_0, y32_1, y32_2, u32_0, u32_1, u32_2⟩ := cells3 BK10.out; obtain ⟨Ao33, co33, eo33⟩ := Kd.R_slice HO203.out; subst eo33; obtain ⟨Ao34, co34, eo34⟩ := Kd.R_slice HO206.out; subst eo34) | ((with_reducible refine gate_store (t := 71) (p := 5) rfl ?_); refine store_event (t := 71) (p := 5) (v := ?vo_w35) (w1 := (((w30.setCell ⟨gb10, 0, none⟩ (.int .i64 t200)).setCell ⟨gb10, 1, none⟩ (.slice Ao33 t201.length co33)).setCell ⟨gb10, 2, none⟩ (.slice Ao34 t204.length co34))) ?hg ?ho ?hn ?hr ?_; (case ho => rfl); (case hg => rfl); (case hn => rfl); (case hr => first | (go_simp; done) | (go_simp; rfl)); intro w35 hw; have q := n7_ (show Kd.R k71 71 w35 w.heap.size (fun k_ => some k_ ≠ (.slice Ao33 t201.length co33 : Value).ownBlock ∧ some k_ ≠ (.slice Ao34 t204.length co34 : Value).ownBlock ∧ k_ ≠ gb10) u4 x4_1 from (by rw [hw]; exact (by (with_reducible repeat (first | apply Kd.R_alloc | apply Kd.R_drewN | apply Kd.R_drew)); exact Kd.R_mono (Kd.R_far (p := ⟨gb10, 2, none⟩) (Kd.R_far (p := ⟨gb10, 1, none⟩) (Kd.R_far (p := ⟨gb10, 0, none⟩) (Kd.R_mono HO_4.out (fun k_ hk => (⟨hk, hk.2⟩ : _ ∧ k_ ≠ gb10))) (fun _ hk => hk.2) (.int .i64 t200)) (fun _ hk => hk.2) (.slice Ao33 t201.length co33)) (fun _ hk => hk.2) (.slice Ao34 t204.length co34)) (fun _ hk => ⟨hk.1.1.1.2, ⟨hk.1.1.2, hk.1.2⟩⟩)))) (show Kd.R k71 71 w35 w.heap.size (fun k_ => some k_ ≠ (u4 : Value).ownBlock ∧ some k_ ≠ (.slice Ao34 t204.length co34 : Value).ownBlock ∧ k_ ≠ gb10) (.slice Ao33 t201.length co33) t201 from (by rw [hw]; exact (by (with_reducible repeat (first | apply Kd.R_alloc | apply Kd.R_drewN | apply Kd.R_drew)); exact Kd.R_mono (Kd.R_far (p := ⟨gb10, 2, none⟩) (Kd.R_far (p := ⟨gb10, 1, none⟩) (Kd.R_far (p := ⟨gb10, 0, none⟩) (Kd.R_mono HO203.out (fun k_ hk => (⟨hk, hk.2⟩ : _ ∧ k_ ≠ gb10))) (fun _ hk => hk.2) (.int .i64 t200)) (fun _ hk => hk.2) (.slice Ao33 t201.length co33)) (fun _ hk => hk.2) (.slice Ao34 t204.length co34)) (fun _ hk => ⟨hk.1.1.2, ⟨hk.1.1.1, hk.1.2⟩⟩)))) (show Kd.R k71 71 w35 w.heap.size (fun k_ => some k_ ≠ (u4 : Value).ownBlock ∧ some k_ ≠ (.slice Ao33 t201.length co33 : Value).ownBlock ∧ k_ ≠ gb10) (.slice Ao34 t204.length co34) t204 from (by rw [hw]; exact (by (with_reducible repeat (first | apply Kd.R_alloc | apply Kd.R_drewN | apply Kd.R_drew)); exact Kd.R_mono (Kd.R_far (p := ⟨gb10, 2, none⟩) (Kd.R_far (p := ⟨gb10, 1, none⟩) (Kd.R_far (p := ⟨gb10, 0, none⟩) (Kd.R_mono HO206.out (fun k_ hk => (⟨hk, hk.2⟩ : _ ∧ k_ ≠ gb10))) (fun _ hk => hk.2) (.int .i64 t200)) (fun _ hk => hk.2) (.slice Ao33 t201.length co33)) (fun _ hk => hk.2) (.slice Ao34 t204.length co34)) (fun _ hk => ⟨hk.1.1.2, ⟨hk.1.1.1, hk.1.2⟩⟩)))) (show w35.heap[gb10]? = some (.cells #[.int .i64 t200, .slice Ao33 t201.length co33, .slice Ao34 t204.length co34] 71 (0, 0)) from (by rw [hw]; exact (by (with_reducible repeat (first | refine blk_drewN ?_ _ | refine blk_drew ?_ | refine blk_alloc ?_ _)); refine blk_put (cs := #[.int .i64 t200, .slice Ao33 t201.length co33, .slice none 0 0]) ?_ 2 _ rfl; (with_reducible repeat (first | refine blk_drewN ?_ _ | refine blk_drew ?_ | refine blk_alloc ?_ _)); refine blk_put (cs := #[.int .i64 t200, .slice none 0 0, .slice none 0 0]) ?_ 1 _ rfl; (with_reducible repeat (first | refine blk_drewN ?_ _ | refine blk_drew ?_ | refine blk_alloc ?_ _)); refine blk_put (cs := #[.int .i64 0, .slice none 0 0, .slice none 0 0]) ?_ 0 _ rfl; (with_reducible repeat (first | refine blk_drewN ?_ _ | refine blk_drew ?_ | refine blk_alloc ?_ _)); exact BK10.out))) (show IsS68 w0 w35 g s0_0 t208 t209 t210 from (by rw [hw]; exact ψ22)) (show KeepBut w w35 g none from (by rw [hw]; exact ψ12)) (show Below w0.heap.size w0 w35 from (by rw [hw]; exact ψ13)); clear hw HO_4 HO203 HO206 BK10 HI0 HK HB; obtain ⟨HO_4, HO203, HO206, BK10, HI0, HK, HB⟩ := q; obtain ⟨y36_0, y36_1, y36_2, u36_0, u36_1, u36_2⟩ := cells3 BK10.out) | ((with_reducible refine gate_builtin (b := .append) (xs := #[.tmp 40, .tmp 42]) rfl ?_); at_builtin; refine Kd.R_append k71 w.heap.size rfl (.tmp 40) (.tmp 42) 69 71 (.agg #[(.int .i64 0), (.slice none 0 0), (.slice none 0 0)]) 56 rfl Try.underlying69 info71 rfl ψ15 ψ7 u4 x4_1 (⟨t200, t201, t204⟩ : S71) [.int .i64 t200, .slice Ao33 t201.length co33, .slice Ao34 t204.length co34] (fun k_ => k_ ≠ gb10) (fun k_ => ((fun k_ => k_ ≠ gb10)) k_ ∧ some k_ ≠ (u4 : Value).ownBlock) rfl rfl ?aP (fun _ hk => hk) ?aF ?aO (Below.refl _ _) ?aS ?aL ?_; (case aP => exact k71_mkM _ _ _ (⟨t200, t201, t204⟩ : S71) (Kd.R_mono (HO203.out) (fun k_ hk => ⟨hk.2.2, hk.1⟩)) (Kd.R_mono (HO206.out) (fun k_ hk => ⟨hk.2.2, hk.1⟩))); (case aF => exact (fun k_ hk => Kd.freshB (g := gb10) ψ23 k_ hk)); (case aO => exact (by (with_reducible repeat (first | apply Kd.R_alloc | apply Kd.R_drewN | apply Kd.R_drew)); exact Kd.R_mono HO_4.out (fun _ hk => hk.2.2))); (case aS => exact (keep_size (w := w) (g := g) (row := none) ψ12)); (case aL => have := LMc28.out; omega); intro v214 w37 ho hb hg hat; rw [← Ny213.out] at ho; have q := n5_ (IsS68.grown ψ22 hg (IsS68.own_ne HI0.out HO_4.out ψ15)) (blk_grown (g := gb10) ψ23 hg (Kd.R_away HO_4.out (fun _ hk => hk.2.2))) (below_weaken ψ13 HL.out hb) (KeepBut.trans ψ12 (KeepBut.of_grown hg g) (Kd.R_base2 HO_4.out)) (ho); clear HI0 BK10 HB HK HO_4 HO203 HO206; obtain ⟨HI0, BK10, HB, HK, HO215⟩ := q; clear ho hb hg hat))
        go_roundg kj3
        case measure => have := HK1.out; have := HJ3.out; omega
        case rel => exact ⟨(y213), (t208), (t209), (t210), H', ⟨ψ19⟩, ⟨by (with_reducible repeat (first | apply Kd.R_alloc | apply Kd.R_drewN | apply Kd.R_drew)); exact Kd.R_mono HO215.out (fun _ hk => trivial)⟩, ⟨ψ22⟩, ⟨ψ12⟩, ⟨ψ13⟩⟩
       ·rw [if_neg c28] at H
        exact absurd H ψ8
      ·simp only [Option.some.injEq, Prod.mk.injEq] at H
       obtain ⟨rfl, rfl, rfl, rfl, rfl⟩ := H
       go_wp2_with (first | ((with_reducible refine gate_callee (f := 46) rfl ?_); refine gL 35 Try.func46 #[.pointer (some ⟨g, 0, none⟩)] ?_; (with_reducible refine (ihm kj3 ψ19 g s0_0 x1001_1 x1002_1 x1003_1 t200 t201 t204 false t208 t209 t210 w0 _ ?_ ?_ A26.out).mono ?_); exact ψ10; exact ψ13; rintro e w38 ⟨v202, v205, rfl, ho0, ho1, hi, hb, hk⟩; refine ⟨_, rfl, ?_⟩; have q := n6_ (Kd.R_mono (Kd.R_told (Kd.R_told (Kd.R_oldK (IsS68.apart (show IsS68 w0 _ g s0_0 x1001_1 x1002_1 x1003_1 from ψ10) ψ18 ψ15) hk) (Kd.R_base ho0)) (Kd.R_base ho1)) (fun _ h_ => h_.1)) (Kd.R_lower (Kd.R_new' ho0 (Kd.R_lt ψ18)) (keep_size (w := w) (g := g) (row := none) ψ12)) (Kd.R_lower (Kd.R_new' ho1 (Kd.R_lt ψ18)) (keep_size (w := w) (g := g) (row := none) ψ12)) (KeepBut.trans ψ12 hk (.inl rfl)) (hb) (hi); clear HO_4 HK HB HI0; obtain ⟨HO_4, HO203, HO206, HK, HB, HI0⟩ := q; (try clear hb hk hi); (try clear ho0); (try clear ho1)) | ((with_reducible refine gate_dst (N := 5) rfl ?_); refine bE 5 #[.int .i64 0, .slice none 0 0, .slice none 0 0] 71 ?_; intro gb10 hg w39 hbox hb; have q := n11_ (Kd.R_below (Kd.R_elderB ψ18 gb10 (Nat.le_of_eq hg.symm)) hb) (Kd.R_below (Kd.R_elderB ψ20 gb10 (Nat.le_of_eq hg.symm)) hb) (Kd.R_below (Kd.R_elderB ψ21 gb10 (Nat.le_of_eq hg.symm)) hb) (IsS68.below ψ10 hb) (KeepBut.trans ψ12 (KeepBut.of_below hb g none) (.inl rfl)) (below_step ψ13 hb) (hbox) ((ψ298 : w.heap.size ≤ gb10)) ((Nat.le_trans HW0.out (ψ298 : w.heap.size ≤ gb10) : w0.heap.size ≤ gb10)) ((ψ299 : g ≠ gb10)) ((ψ300 : gb10 ≠ g)); clear HO_4 HO203 HO206 HI0 HK HB; obtain ⟨HO_4, HO203, HO206, HI0, HK, HB, BK10, GW10, GE10, NB0_10, NB10_0⟩ := q; clear hb hbox hg; have hnb40 := NB10_0.out; have hnc40 := NB0_10.out; obtain ⟨y41_0, y41_1, y41_2, u41_0, u41_1, u41_2⟩ := cells3 BK10.out; obtain ⟨Ao42, co42, eo42⟩ := Kd.R_slice HO203.out; subst eo42; obtain ⟨Ao43, co43, eo43⟩ := Kd.R_slice HO206.out; subst eo43))
       go_ret2
       exact ⟨_, ψ9, ψ24, ψ22, ψ13, ψ12⟩
     ·simp only [Option.some.injEq, Prod.mk.injEq] at H
      obtain ⟨rfl, rfl, rfl, rfl, rfl⟩ := H
      go_wp2
      go_ret2
      exact ⟨_, ψ9, ψ18, ψ10, ψ13, ψ12⟩
set_option maxRecDepth 100000 in
theorem τ9 {P : Prop} (h : P := by
 have H' := Aside0.mk H
 clear H
 go_wp2_with (first | ((with_reducible refine qR_ ?_)) | ((with_reducible refine wpQuiet_step (fun K hK => ?_)); go_simp; first | (refine hK _ ?_; clear hK K) | (apply Exists.intro; refine ⟨fun _ => ?_, hK _ ?_⟩)) | ((with_reducible refine wpQuiet_nil ?_); rintro _ ⟨nq, rfl⟩))
 first | (go_meet; (case rel => exact ⟨_, (false), ψ0, H', ⟨ψ25⟩, ⟨ψ26⟩, ⟨ψ27⟩, ⟨ψ28⟩, ⟨ψ29⟩, ⟨ψ30⟩⟩)) | (go_meet; (case rel => exact ⟨_, ((((rd_T42 s0_0 s0_1).f0) != 8)), ψ0, H', ⟨ψ25⟩, ⟨ψ26⟩, ⟨ψ27⟩, ⟨ψ28⟩, ⟨ψ29⟩, ⟨ψ30⟩⟩))) : P := h
set_option maxRecDepth 100000 in
theorem τ10 {P : Prop} (h : P := by
 have H' := Aside0.mk H
 clear H
 go_wp2_with (first | (go_at_call 81; (with_reducible refine (impl_nester_is.calls g s0_0 t228 t229 t230 3 true w0 _ ?_ ?_ A29.out).mono ?_); exact ψ28; exact ψ30; rintro e w1_ ⟨rfl, hi, hb, hk⟩; have q := n6_ (KeepBut.blk hk (g' := gb10) (o := .cells #[.int .i64 0, .slice none 0 0, .slice none 0 0] 71 (0, 0)) ψ31 NB10_0.out ψ8) (KeepBut.blk hk (g' := gb11) (o := .cells #[.int .i64 s0_1, .slice Ao23 t224.length co23, .slice none 0 0] 71 (0, 0)) ψ32 NB11_0.out ψ8) (Kd.R_mono (Kd.R_keep (IsS68.apart (show IsS68 w0 _ g s0_0 t228 t229 t230 from ψ28) ψ33 ψ15) hk (fun _ h => h.2)) (fun _ h => h.1)) (KeepBut.trans ψ29 hk (.inl rfl)) (hb) (hi); clear BK10 BK11 HO226 HK HB HI0; obtain ⟨BK10, BK11, HO226, HK, HB, HI0⟩ := q; (try clear hb hk hi)) | (go_at_call 81; (with_reducible refine (impl_nester_is.calls g s0_0 t228 t229 t230 3 false w0 _ ?_ ?_ A29.out).mono ?_); exact ψ28; exact ψ30; rintro e w1_ ⟨rfl, hi, hb, hk⟩; have q := n6_ (KeepBut.blk hk (g' := gb10) (o := .cells #[.int .i64 0, .slice none 0 0, .slice none 0 0] 71 (0, 0)) ψ31 NB10_0.out ψ8) (KeepBut.blk hk (g' := gb11) (o := .cells #[.int .i64 s0_1, .slice Ao23 t224.length co23, .slice none 0 0] 71 (0, 0)) ψ32 NB11_0.out ψ8) (Kd.R_mono (Kd.R_keep (IsS68.apart (show IsS68 w0 _ g s0_0 t228 t229 t230 from ψ28) ψ33 ψ15) hk (fun _ h => h.2)) (fun _ h => h.1)) (KeepBut.trans ψ29 hk (.inl rfl)) (hb) (hi); clear BK10 BK11 HO226 HK HB HI0; obtain ⟨BK10, BK11, HO226, HK, HB, HI0⟩ := q; (try clear hb hk hi)) | (go_at_call 81; (with_reducible refine (impl_nester_is.calls g s0_0 t228 t229 t230 9 t232 w0 _ ?_ ?_ A33.out).mono ?_); exact ψ28; exact ψ30; rintro e w2_ ⟨rfl, hi, hb, hk⟩; have q := n6_ (KeepBut.blk hk (g' := gb10) ψ23 NB10_0.out ψ8) (KeepBut.blk hk (g' := gb11) ψ34 NB11_0.out ψ8) (Kd.R_mono (Kd.R_keep (IsS68.apart (show IsS68 w0 _ g s0_0 t228 t229 t230 from ψ28) (by (with_reducible repeat (first | apply Kd.R_alloc | apply Kd.R_drewN | apply Kd.R_drew)); exact HO226.out) ψ15) hk (fun _ h => h.2)) (fun _ h => h.1)) (KeepBut.trans ψ29 hk (.inl rfl)) (hb) (hi); clear BK10 BK11 HO226 HK HB HI0; obtain ⟨BK10, BK11, HO226, HK, HB, HI0⟩ := q; (try clear hb hk hi)) | (go_at_call 81; (with_reducible refine (impl_nester_is.calls g s0_0 t228 t229 t230 9 t233 w0 _ ?_ ?_ A38.out).mono ?_); exact ψ28; exact ψ30; rintro e w1_ ⟨rfl, hi, hb, hk⟩; have q := n6_ (KeepBut.blk hk (g' := gb10) (o := .cells #[.int .i64 0, .slice none 0 0, .slice none 0 0] 71 (0, 0)) ψ31 NB10_0.out ψ8) (KeepBut.blk hk (g' := gb11) (o := .cells #[.int .i64 s0_1, .slice Ao23 t224.length co23, .slice none 0 0] 71 (0, 0)) ψ32 NB11_0.out ψ8) (Kd.R_mono (Kd.R_keep (IsS68.apart (show IsS68 w0 _ g s0_0 t228 t229 t230 from ψ28) ψ33 ψ15) hk (fun _ h => h.2)) (fun _ h => h.1)) (KeepBut.trans ψ29 hk (.inl rfl)) (hb) (hi); clear BK10 BK11 HO226 HK HB HI0; obtain ⟨BK10, BK11, HO226, HK, HB, HI0⟩ := q; (try clear hb hk hi)) | ((with_reducible refine qR_ ?_)) | ((with_reducible refine wpQuiet_step (fun K hK => ?_)); go_simp; first | (refine hK _ ?_; clear hK K) | (apply Exists.intro; refine ⟨fun _ => ?_, hK _ ?_⟩)) | ((with_reducible refine wpQuiet_nil ?_); rintro _ ⟨nq, rfl⟩))
 first | (go_meet; (case rel => exact ⟨_, (true), ψ0, H', ⟨ψ35⟩, ⟨ψ36⟩, ⟨ψ23⟩, ⟨ψ34⟩, ⟨ψ28⟩, ⟨ψ29⟩, ⟨ψ30⟩⟩)) | (go_meet; (case rel => exact ⟨_, (t232), ψ0, H', ⟨ψ35⟩, ⟨ψ36⟩, ⟨ψ23⟩, ⟨ψ34⟩, ⟨ψ28⟩, ⟨ψ29⟩, ⟨ψ30⟩⟩)) | (go_meet; (case rel => exact ⟨_, (false), ψ0, H', ⟨ψ35⟩, ⟨ψ36⟩, ⟨ψ23⟩, ⟨ψ34⟩, ⟨ψ28⟩, ⟨ψ29⟩, ⟨ψ30⟩⟩)) | (go_meet; (case rel => exact ⟨_, (t233), ψ0, H', ⟨ψ35⟩, ⟨ψ36⟩, ⟨ψ23⟩, ⟨ψ34⟩, ⟨ψ28⟩, ⟨ψ29⟩, ⟨ψ30⟩⟩)) | (go_meet; (case rel => exact ⟨_, (false), ψ0, H', ⟨ψ35⟩, ⟨by (with_reducible repeat (first | apply Kd.R_alloc | apply Kd.R_drewN | apply Kd.R_drew)); exact Kd.R_mono (Kd.R_far (p := ⟨gb11, 1, none⟩) (Kd.R_mono HO226.out (fun k_ hk => (⟨hk, hk.2⟩ : _ ∧ k_ ≠ gb11))) (fun _ hk => hk.2) (.slice Ao23 t224.length co23)) (fun _ hk => ⟨hk.1.1.2, hk.1.2⟩)⟩, ⟨ψ31⟩, ⟨ψ32⟩, ⟨ψ28⟩, ⟨ψ29⟩, ⟨ψ30⟩⟩))) : P := h
set_option maxRecDepth 100000 in
theorem τ11 {P : Prop} (h : P := by
 have H' := Aside0.mk H
 clear H
 go_wp2_with (first | (go_at_call 81; (with_reducible refine (impl_nester_is.calls g s0_0 x1001_39 x1002_39 x1003_39 4 true w0 _ ?_ ?_ A51.out).mono ?_); exact ψ28; exact ψ30; rintro e w1_ ⟨rfl, hi, hb, hk⟩; have q := n7_ (Kd.R_mono (Kd.R_keep (IsS68.apart (show IsS68 w0 _ g s0_0 x1001_39 x1002_39 x1003_39 from ψ28) ψ37 ψ15) hk (fun _ h => h.2)) (fun _ h => h.1)) (Kd.R_mono (Kd.R_keep (IsS68.apart (show IsS68 w0 _ g s0_0 x1001_39 x1002_39 x1003_39 from ψ28) ψ38 ψ15) hk (fun _ h => h.2)) (fun _ h => h.1)) (KeepBut.blk hk (g' := gb10) ψ23 NB10_0.out ψ8) (KeepBut.blk hk (g' := gb11) ψ34 NB11_0.out ψ8) (KeepBut.trans ψ29 hk (.inl rfl)) (hb) (hi); clear HO_219001 HO_219002 BK10 BK11 HK HB HI0; obtain ⟨HO_219001, HO_219002, BK10, BK11, HK, HB, HI0⟩ := q; (try clear hb hk hi)) | (go_at_call 81; (with_reducible refine (impl_nester_is.calls g s0_0 x1001_39 x1002_39 x1003_39 4 false w0 _ ?_ ?_ A51.out).mono ?_); exact ψ28; exact ψ30; rintro e w1_ ⟨rfl, hi, hb, hk⟩; have q := n7_ (Kd.R_mono (Kd.R_keep (IsS68.apart (show IsS68 w0 _ g s0_0 x1001_39 x1002_39 x1003_39 from ψ28) ψ37 ψ15) hk (fun _ h => h.2)) (fun _ h => h.1)) (Kd.R_mono (Kd.R_keep (IsS68.apart (show IsS68 w0 _ g s0_0 x1001_39 x1002_39 x1003_39 from ψ28) ψ38 ψ15) hk (fun _ h => h.2)) (fun _ h => h.1)) (KeepBut.blk hk (g' := gb10) ψ23 NB10_0.out ψ8) (KeepBut.blk hk (g' := gb11) ψ34 NB11_0.out ψ8) (KeepBut.trans ψ29 hk (.inl rfl)) (hb) (hi); clear HO_219001 HO_219002 BK10 BK11 HK HB HI0; obtain ⟨HO_219001, HO_219002, BK10, BK11, HK, HB, HI0⟩ := q; (try clear hb hk hi)) | ((with_reducible refine qR_ ?_)) | ((with_reducible refine wpQuiet_step (fun K hK => ?_)); go_simp; first | (refine hK _ ?_; clear hK K) | (apply Exists.intro; refine ⟨fun _ => ?_, hK _ ?_⟩)) | ((with_reducible refine wpQuiet_nil ?_); rintro _ ⟨nq, rfl⟩))
 first | (go_meet; (case rel => exact ⟨_, (decide (x8_39 < 0)), ψ0, H', ⟨ψ39⟩, ⟨ψ37⟩, ⟨ψ38⟩, ⟨ψ23⟩, ⟨ψ34⟩, ⟨ψ28⟩, ⟨ψ29⟩, ⟨ψ30⟩⟩)) | (go_meet; (case rel => exact ⟨_, (false), ψ0, H', ⟨ψ39⟩, ⟨ψ37⟩, ⟨ψ38⟩, ⟨ψ23⟩, ⟨ψ34⟩, ⟨ψ28⟩, ⟨ψ29⟩, ⟨ψ30⟩⟩)) | (go_meet; (case rel => exact ⟨_, (true), ψ0, H', ⟨ψ39⟩, ⟨ψ37⟩, ⟨ψ38⟩, ⟨ψ23⟩, ⟨ψ34⟩, ⟨ψ28⟩, ⟨ψ29⟩, ⟨ψ30⟩⟩))) : P := h
set_option maxRecDepth 100000 in
theorem τ12 {P : Prop} (h : P := by
 obtain ⟨rfl, rfl, rfl, rfl, rfl, rfl, rfl⟩ := H
 try (obtain ⟨ASzS2_0, cSzS2_0, HGzS2, hgzS2, HSzS2_0⟩ := HI0.out)
 try (have hczS2_0 := cellS68_0 HGzS2)
 try (have hczS2_1 := cellS68_1 HGzS2)
 try (have hczS2_2 := cellS68_2 HGzS2)
 try (have hczS2_3 := cellS68_3 HGzS2)
 try (have hfzS2_1 := blk_frozen HGzS2 1)
 try (have hfzS2_2 := blk_frozen HGzS2 2)
 try (have hfzS2_3 := blk_frozen HGzS2 3)
 try (clear HGzS2 hgzS2)
 try (have hnb1_ := NB11_10.out)
 try (have hnc1_ := NB10_11.out)
 try (have hnb2_ := NB11_0.out)
 try (have hnc2_ := NB0_11.out)
 try (obtain ⟨hczB11_0, hczB11_1, hczB11_2, hfzB11_0, hfzB11_1, hfzB11_2⟩ := cells3 BK11.out)
 try (have hnb3_ := NB10_0.out)
 try (have hnc3_ := NB0_10.out)
 try (have hnb1_ := NB10_11.out)
 try (have hnc1_ := NB11_10.out)
 try (have hnb2_ := NB10_0.out)
 try (have hnc2_ := NB0_10.out)
 obtain ⟨hczB10_0, hczB10_1, hczB10_2, hfzB10_0, hfzB10_1, hfzB10_2⟩ := cells3 BK10.out
 try (obtain ⟨Ao1_, co1_, eo1_⟩ := Kd.R_slice HO_219002.out)
 try (subst eo1_)
 go_wp2_with (first | ((with_reducible refine qR_ ?_)) | ((with_reducible refine wpQuiet_step (fun K hK => ?_)); go_simp; first | (refine hK _ ?_; clear hK K) | (apply Exists.intro; refine ⟨fun _ => ?_, hK _ ?_⟩)) | ((with_reducible refine wpQuiet_nil ?_); rintro _ ⟨nq, rfl⟩))
 first | (refine bodyPost_ret (results_ct rfl _ _ gb10 71 #[.int .i64 0, .slice none 0 0, .slice none 0 0] (0, 0) _ rfl (by (with_reducible repeat (first | refine blk_drewN ?_ _ | refine blk_drew ?_ | refine blk_alloc ?_ _)); refine blk_put (cs := #[.int .i64 0, .slice none 0 0, .slice none 0 0]) ?_ 2 _ rfl; (with_reducible repeat (first | refine blk_drewN ?_ _ | refine blk_drew ?_ | refine blk_alloc ?_ _)); refine blk_put (cs := #[.int .i64 0, .slice none 0 0, .slice none 0 0]) ?_ 1 _ rfl; (with_reducible repeat (first | refine blk_drewN ?_ _ | refine blk_drew ?_ | refine blk_alloc ?_ _)); refine blk_put (cs := #[.int .i64 0, .slice none 0 0, .slice none 0 0]) ?_ 0 _ rfl; (with_reducible repeat (first | refine blk_drewN ?_ _ | refine blk_drew ?_ | refine blk_alloc ?_ _)); exact BK10.out) Try.underlying71 rfl ψ14) rfl ?_; exact ⟨_, _, ψ9, ψ24, ψ24, ψ28, ψ30, ψ29⟩) | (refine bodyPost_ret (results_ct rfl _ _ gb10 71 #[.int .i64 s0_1, .slice Ao23 t224.length co23, .slice Ao1_ x219002_39.length co1_] (0, 0) _ rfl (by (with_reducible repeat (first | refine blk_drewN ?_ _ | refine blk_drew ?_ | refine blk_alloc ?_ _)); refine blk_put (cs := #[.int .i64 s0_1, .slice Ao23 t224.length co23, .slice none 0 0]) ?_ 2 _ rfl; (with_reducible repeat (first | refine blk_drewN ?_ _ | refine blk_drew ?_ | refine blk_alloc ?_ _)); refine blk_put (cs := #[.int .i64 s0_1, .slice none 0 0, .slice none 0 0]) ?_ 1 _ rfl; (with_reducible repeat (first | refine blk_drewN ?_ _ | refine blk_drew ?_ | refine blk_alloc ?_ _)); refine blk_put (cs := #[.int .i64 0, .slice none 0 0, .slice none 0 0]) ?_ 0 _ rfl; (with_reducible repeat (first | refine blk_drewN ?_ _ | refine blk_drew ?_ | refine blk_alloc ?_ _)); refine blk_far ?_ NB10_0.out _; (with_reducible repeat (first | refine blk_drewN ?_ _ | refine blk_drew ?_ | refine blk_alloc ?_ _)); refine blk_far ?_ NB10_0.out _; (with_reducible repeat (first | refine blk_drewN ?_ _ | refine blk_drew ?_ | refine blk_alloc ?_ _)); refine blk_far ?_ NB10_0.out _; (with_reducible repeat (first | refine blk_drewN ?_ _ | refine blk_drew ?_ | refine blk_alloc ?_ _)); exact BK10.out) Try.underlying71 rfl ψ14) rfl ?_; exact ⟨_, _, ψ9, by (with_reducible repeat (first | apply Kd.R_alloc | apply Kd.R_drewN | apply Kd.R_drew)); exact Kd.R_mono (Kd.R_far (p := ⟨gb10, 2, none⟩) (Kd.R_far (p := ⟨gb10, 1, none⟩) (Kd.R_far (p := ⟨gb10, 0, none⟩) (Kd.R_far (p := ⟨g, 1, none⟩) (Kd.R_far (p := ⟨g, 3, none⟩) (Kd.R_far (p := ⟨g, 2, none⟩) (Kd.R_mono (IsS68.apart HI0.out HO_219001.out ψ15) (fun k_ hk => (⟨hk, hk.1.2.1⟩ : _ ∧ k_ ≠ gb10))) (fun _ hk => hk.1.2) (.int .i64 x8_39)) (fun _ hk => hk.1.2) (.int .i64 x1001_39)) (fun _ hk => hk.1.2) (.int .i64 (wrap64 (x1001_39 + 1)))) (fun _ hk => hk.2) (.int .i64 s0_1)) (fun _ hk => hk.2) (.slice Ao23 t224.length co23)) (fun _ hk => hk.2) (.slice Ao1_ x219002_39.length co1_)) (fun _ hk => hk.1.1.1), by (with_reducible repeat (first | apply Kd.R_alloc | apply Kd.R_drewN | apply Kd.R_drew)); exact Kd.R_mono (Kd.R_far (p := ⟨gb10, 2, none⟩) (Kd.R_far (p := ⟨gb10, 1, none⟩) (Kd.R_far (p := ⟨gb10, 0, none⟩) (Kd.R_far (p := ⟨g, 1, none⟩) (Kd.R_far (p := ⟨g, 3, none⟩) (Kd.R_far (p := ⟨g, 2, none⟩) (Kd.R_mono (IsS68.apart HI0.out HO_219002.out ψ15) (fun k_ hk => (⟨hk, hk.1.2.1⟩ : _ ∧ k_ ≠ gb10))) (fun _ hk => hk.1.2) (.int .i64 x8_39)) (fun _ hk => hk.1.2) (.int .i64 x1001_39)) (fun _ hk => hk.1.2) (.int .i64 (wrap64 (x1001_39 + 1)))) (fun _ hk => hk.2) (.int .i64 s0_1)) (fun _ hk => hk.2) (.slice Ao23 t224.length co23)) (fun _ hk => hk.2) (.slice Ao1_ x219002_39.length co1_)) (fun _ hk => hk.1.1.1), ψ28, ψ30, ψ29⟩)) : P := h
set_option maxHeartbeats 8000000 in
set_option maxRecDepth 100000 in
theorem impl_nester_one.calls (k : Nat) : ∀ (g : Nat) (s0_0 : List (S42)) (s0_1 : Int) (s0_2 : Int) (s0_3 : Int) (r1 : Int) (r2 : List (S71)) (r3 : List (S71)) (r4 : Bool) (r5 : Int) (r6 : Int) (r7 : Int) (w0 w : World) (hI : IsS68 w0 w g s0_0 s0_1 s0_2 s0_3) (hB : Below w0.heap.size w0 w) (h : impl_nester_one.f k s0_0 s0_1 s0_2 s0_3 = some (r1, r2, r3, r4, r5, r6, r7)),
 Calls Try.prog 46 #[.pointer (some ⟨g, 0, none⟩)] w fun e w' => ∃ v1_ v2_ : Value, e = .returned (.tuple #[.agg #[.int .i64 r1, v1_, v2_], .bool r4]) ∧ Kd.R k71 71 w' w.heap.size (fun k_ => some k_ ≠ (v2_ : Value).ownBlock) v1_ r2 ∧ Kd.R k71 71 w' w.heap.size (fun k_ => some k_ ≠ (v1_ : Value).ownBlock) v2_ r3 ∧ IsS68 w0 w' g s0_0 r5 r6 r7 ∧ Below w0.heap.size w0 w' ∧ KeepBut w w' g none := by
 induction k using Nat.strongRecOn with
 | _ k ih =>
 intro g s0_0 s0_1 s0_2 s0_3 r1 r2 r3 r4 r5 r6 r7 w0 w hI hB h
 cases k with
 | zero => exact absurd h (by simp [impl_nester_one.f])
 | succ k =>
 simp only [impl_nester_one.f] at h
 have hu71 := Try.underlying71
 have HI0 := Aside0.mk hI
 have HK := Aside0.mk (KeepBut.refl w g none)
 have HL := Aside0.mk hB.size
 clear hI
 have HW0 := Aside0.mk hB.size
 have HB := Aside0.mk hB
 clear hB
 have H : (if 0 ≤ s0_1 then (if s0_1 < (s0_0.length : Int) then (if ((rd_T42 s0_0 s0_1).f0) = 2 then (impl_nester_one.j0 k ((rd_T42 s0_0 s0_1).f0) false s0_0 (wrap64 (s0_1 + 1)) s0_2 s0_3 s0_1) else (if ((rd_T42 s0_0 s0_1).f0) = 5 then (impl_nester_one.j0 k ((rd_T42 s0_0 s0_1).f0) false s0_0 (wrap64 (s0_1 + 1)) s0_2 s0_3 s0_1) else (impl_nester_one.j0 k ((rd_T42 s0_0 s0_1).f0) (((rd_T42 s0_0 s0_1).f0) != 8) s0_0 (wrap64 (s0_1 + 1)) s0_2 s0_3 s0_1))) else (none)) else (none)) = some (r1, r2, r3, r4, r5, r6, r7) := h
 clear h
 replace H := ifN H; obtain ⟨c2b0, H⟩ := H
 replace H := ifN H; obtain ⟨c3b0, H⟩ := H
 have HC4 := Aside0.mk H
 clear H
 go_enter Try.func46, Try.ntmps46
 go_upto_region 4 with (first | ((with_reducible refine gate_dst (N := 2) rfl ?_); refine bE 2 #[.int .i64 0, .slice none 0 0, .slice none 0 0] 71 ?_; intro gb10 hg w5 hbox hb; have q := n8_ (IsS68.below ψ10 hb) (KeepBut.trans ψ29 (KeepBut.of_below hb g none) (.inl rfl)) (below_step ψ30 hb) (hbox) ((ψ301 : w.heap.size ≤ gb10)) ((Nat.le_trans HW0.out (ψ301 : w.heap.size ≤ gb10) : w0.heap.size ≤ gb10)) ((ψ302 : g ≠ gb10)) ((ψ303 : gb10 ≠ g)); clear HI0 HK HB; obtain ⟨HI0, HK, HB, BK10, GW10, GE10, NB0_10, NB10_0⟩ := q; clear hb hbox hg; obtain ⟨ASz6_0, cSz6_0, HGz6, hgz6, HSz6_0⟩ := HI0.out; have y6_0 := cellS68_0 HGz6; have y6_1 := cellS68_1 HGz6; have y6_2 := cellS68_2 HGz6; have y6_3 := cellS68_3 HGz6; have u6_1 := blk_frozen HGz6 1; have u6_2 := blk_frozen HGz6 2; have u6_3 := blk_frozen HGz6 3; clear HGz6 hgz6) | ((with_reducible refine gate_dst (N := 4) rfl ?_); refine bE 4 #[.int .i64 0, .slice none 0 0, .slice none 0 0] 71 ?_; intro gb11 hg w7 hbox hb; have q := n11_ (IsS68.below ψ22 hb) (blk_below (g := gb10) ψ23 hb) (KeepBut.trans ψ29 (KeepBut.of_below hb g none) (.inl rfl)) (below_step ψ30 hb) (hbox) ((ψ301 : w.heap.size ≤ gb11)) ((Nat.le_trans HW0.out (ψ301 : w.heap.size ≤ gb11) : w0.heap.size ≤ gb11)) ((ψ304 : gb10 ≠ gb11)) ((ψ305 : gb11 ≠ gb10)) ((ψ306 : g ≠ gb11)) ((ψ307 : gb11 ≠ g)); clear HI0 BK10 HK HB; obtain ⟨HI0, BK10, HK, HB, BK11, GW11, GE11, NB10_11, NB11_10, NB0_11, NB11_0⟩ := q; clear hb hbox hg; have hnb8 := NB11_10.out; have hnc8 := NB10_11.out; have hnb9 := NB11_0.out; have hnc9 := NB0_11.out; obtain ⟨y10_0, y10_1, y10_2, u10_0, u10_1, u10_2⟩ := cells3 BK11.out; obtain ⟨ASz11_0, cSz11_0, HGz11, hgz11, HSz11_0⟩ := HI0.out; have y11_0 := cellS68_0 HGz11; have y11_1 := cellS68_1 HGz11; have y11_2 := cellS68_2 HGz11; have y11_3 := cellS68_3 HGz11; have u11_1 := blk_frozen HGz11 1; have u11_2 := blk_frozen HGz11 2; have u11_3 := blk_frozen HGz11 3; clear HGz11 hgz11; have p221 : 0 ≤ (s0_1 : Int) := of_decide_eq_true ψ2; have q221 : s0_1 < (s0_0.length : Int) := of_decide_eq_true ψ2; obtain ⟨ad221, A221_2, c221_2, A221_3, c221_3, e221, hx221_0, hx221_1, hx221_2, hx221_3, hl221_2, hi221_2, hl221_3, hi221_3⟩ := at_T42 HSz11_0 s0_1 p221 q221; cases e221; have hn221_0 : ad221.block ≠ gb11 := ψ308; have hn221_1 : ad221.block ≠ gb11 := ψ308; have hn221_2 : ad221.block ≠ gb11 := ψ308; replace hx221_0 := pw_cell_below HB.out hx221_0; replace hx221_1 := pw_cell_below HB.out hx221_1; replace hx221_2 := pw_cell_below HB.out hx221_2; replace hx221_3 := pw_cell_below HB.out hx221_3; have HR221_2 := Aside0.mk hi221_2; have HC221_2 := Aside0.mk hl221_2; clear hi221_2 hl221_2; have HR221_3 := Aside0.mk hi221_3; have HC221_3 := Aside0.mk hl221_3; clear hi221_3 hl221_3; replace hx221_0 := (cell_far (p := ⟨gb11, 0, none⟩) ψ41 (.int .i64 s0_1)).trans hx221_0; replace hx221_1 := (cell_far (p := ⟨gb11, 0, none⟩) ψ41 (.int .i64 s0_1)).trans hx221_1; replace hx221_2 := (cell_far (p := ⟨gb11, 0, none⟩) ψ41 (.int .i64 s0_1)).trans hx221_2; replace hx221_3 := (cell_far (p := ⟨gb11, 0, none⟩) ψ41 (.int .i64 s0_1)).trans hx221_3; replace hx221_0 := (cell_far (p := ⟨gb11, 1, none⟩) ψ42 (.slice none 0 0)).trans hx221_0; replace hx221_1 := (cell_far (p := ⟨gb11, 1, none⟩) ψ42 (.slice none 0 0)).trans hx221_1; replace hx221_2 := (cell_far (p := ⟨gb11, 1, none⟩) ψ42 (.slice none 0 0)).trans hx221_2; replace hx221_3 := (cell_far (p := ⟨gb11, 1, none⟩) ψ42 (.slice none 0 0)).trans hx221_3; replace hx221_0 := (cell_far (p := ⟨gb11, 2, none⟩) ψ43 (.slice none 0 0)).trans hx221_0; replace hx221_1 := (cell_far (p := ⟨gb11, 2, none⟩) ψ43 (.slice none 0 0)).trans hx221_1; replace hx221_2 := (cell_far (p := ⟨gb11, 2, none⟩) ψ43 (.slice none 0 0)).trans hx221_2; replace hx221_3 := (cell_far (p := ⟨gb11, 2, none⟩) ψ43 (.slice none 0 0)).trans hx221_3; (try have hy221_0 := fun (n_ : Nat) => (show (((((w7.drewN n_).setCell ⟨gb11, 0, none⟩ (.int .i64 s0_1)).setCell ⟨gb11, 1, none⟩ (.slice none 0 0)).setCell ⟨gb11, 2, none⟩ (.slice none 0 0))).cell? _ = some _ from hx221_0)); (try have hy221_1 := fun (n_ : Nat) => (show (((((w7.drewN n_).setCell ⟨gb11, 0, none⟩ (.int .i64 s0_1)).setCell ⟨gb11, 1, none⟩ (.slice none 0 0)).setCell ⟨gb11, 2, none⟩ (.slice none 0 0))).cell? _ = some _ from hx221_1)); (try have hy221_2 := fun (n_ : Nat) => (show (((((w7.drewN n_).setCell ⟨gb11, 0, none⟩ (.int .i64 s0_1)).setCell ⟨gb11, 1, none⟩ (.slice none 0 0)).setCell ⟨gb11, 2, none⟩ (.slice none 0 0))).cell? _ = some _ from hx221_2)); (try have hy221_3 := fun (n_ : Nat) => (show (((((w7.drewN n_).setCell ⟨gb11, 0, none⟩ (.int .i64 s0_1)).setCell ⟨gb11, 1, none⟩ (.slice none 0 0)).setCell ⟨gb11, 2, none⟩ (.slice none 0 0))).cell? _ = some _ from hx221_3)); clear hn221_0; clear hn221_1; clear hn221_2; replace p221 := eq_true p221; replace q221 := eq_true q221))
 repeat (go_quiet (first | ((with_reducible refine gate_dst (N := 2) rfl ?_); refine bE 2 #[.int .i64 0, .slice none 0 0, .slice none 0 0] 71 ?_; intro gb10 hg w5 hbox hb; have q := n8_ (IsS68.below ψ10 hb) (KeepBut.trans ψ29 (KeepBut.of_below hb g none) (.inl rfl)) (below_step ψ30 hb) (hbox) ((ψ301 : w.heap.size ≤ gb10)) ((Nat.le_trans HW0.out (ψ301 : w.heap.size ≤ gb10) : w0.heap.size ≤ gb10)) ((ψ302 : g ≠ gb10)) ((ψ303 : gb10 ≠ g)); clear HI0 HK HB; obtain ⟨HI0, HK, HB, BK10, GW10, GE10, NB0_10, NB10_0⟩ := q; clear hb hbox hg; obtain ⟨ASz6_0, cSz6_0, HGz6, hgz6, HSz6_0⟩ := HI0.out; have y6_0 := cellS68_0 HGz6; have y6_1 := cellS68_1 HGz6; have y6_2 := cellS68_2 HGz6; have y6_3 := cellS68_3 HGz6; have u6_1 := blk_frozen HGz6 1; have u6_2 := blk_frozen HGz6 2; have u6_3 := blk_frozen HGz6 3; clear HGz6 hgz6) | ((with_reducible refine gate_dst (N := 4) rfl ?_); refine bE 4 #[.int .i64 0, .slice none 0 0, .slice none 0 0] 71 ?_; intro gb11 hg w7 hbox hb; have q := n11_ (IsS68.below ψ22 hb) (blk_below (g := gb10) ψ23 hb) (KeepBut.trans ψ29 (KeepBut.of_below hb g none) (.inl rfl)) (below_step ψ30 hb) (hbox) ((ψ301 : w.heap.size ≤ gb11)) ((Nat.le_trans HW0.out (ψ301 : w.heap.size ≤ gb11) : w0.heap.size ≤ gb11)) ((ψ304 : gb10 ≠ gb11)) ((ψ305 : gb11 ≠ gb10)) ((ψ306 : g ≠ gb11)) ((ψ307 : gb11 ≠ g)); clear HI0 BK10 HK HB; obtain ⟨HI0, BK10, HK, HB, BK11, GW11, GE11, NB10_11, NB11_10, NB0_11, NB11_0⟩ := q; clear hb hbox hg; have hnb8 := NB11_10.out; have hnc8 := NB10_11.out; have hnb9 := NB11_0.out; have hnc9 := NB0_11.out; obtain ⟨y10_0, y10_1, y10_2, u10_0, u10_1, u10_2⟩ := cells3 BK11.out; obtain ⟨ASz11_0, cSz11_0, HGz11, hgz11, HSz11_0⟩ := HI0.out; have y11_0 := cellS68_0 HGz11; have y11_1 := cellS68_1 HGz11; have y11_2 := cellS68_2 HGz11; have y11_3 := cellS68_3 HGz11; have u11_1 := blk_frozen HGz11 1; have u11_2 := blk_frozen HGz11 2; have u11_3 := blk_frozen HGz11 3; clear HGz11 hgz11; have p221 : 0 ≤ (s0_1 : Int) := of_decide_eq_true ψ2; have q221 : s0_1 < (s0_0.length : Int) := of_decide_eq_true ψ2; obtain ⟨ad221, A221_2, c221_2, A221_3, c221_3, e221, hx221_0, hx221_1, hx221_2, hx221_3, hl221_2, hi221_2, hl221_3, hi221_3⟩ := at_T42 HSz11_0 s0_1 p221 q221; cases e221; have hn221_0 : ad221.block ≠ gb11 := ψ308; have hn221_1 : ad221.block ≠ gb11 := ψ308; have hn221_2 : ad221.block ≠ gb11 := ψ308; replace hx221_0 := pw_cell_below HB.out hx221_0; replace hx221_1 := pw_cell_below HB.out hx221_1; replace hx221_2 := pw_cell_below HB.out hx221_2; replace hx221_3 := pw_cell_below HB.out hx221_3; have HR221_2 := Aside0.mk hi221_2; have HC221_2 := Aside0.mk hl221_2; clear hi221_2 hl221_2; have HR221_3 := Aside0.mk hi221_3; have HC221_3 := Aside0.mk hl221_3; clear hi221_3 hl221_3; replace hx221_0 := (cell_far (p := ⟨gb11, 0, none⟩) ψ41 (.int .i64 s0_1)).trans hx221_0; replace hx221_1 := (cell_far (p := ⟨gb11, 0, none⟩) ψ41 (.int .i64 s0_1)).trans hx221_1; replace hx221_2 := (cell_far (p := ⟨gb11, 0, none⟩) ψ41 (.int .i64 s0_1)).trans hx221_2; replace hx221_3 := (cell_far (p := ⟨gb11, 0, none⟩) ψ41 (.int .i64 s0_1)).trans hx221_3; replace hx221_0 := (cell_far (p := ⟨gb11, 1, none⟩) ψ42 (.slice none 0 0)).trans hx221_0; replace hx221_1 := (cell_far (p := ⟨gb11, 1, none⟩) ψ42 (.slice none 0 0)).trans hx221_1; replace hx221_2 := (cell_far (p := ⟨gb11, 1, none⟩) ψ42 (.slice none 0 0)).trans hx221_2; replace hx221_3 := (cell_far (p := ⟨gb11, 1, none⟩) ψ42 (.slice none 0 0)).trans hx221_3; replace hx221_0 := (cell_far (p := ⟨gb11, 2, none⟩) ψ43 (.slice none 0 0)).trans hx221_0; replace hx221_1 := (cell_far (p := ⟨gb11, 2, none⟩) ψ43 (.slice none 0 0)).trans hx221_1; replace hx221_2 := (cell_far (p := ⟨gb11, 2, none⟩) ψ43 (.slice none 0 0)).trans hx221_2; replace hx221_3 := (cell_far (p := ⟨gb11, 2, none⟩) ψ43 (.slice none 0 0)).trans hx221_3; (try have hy221_0 := fun (n_ : Nat) => (show (((((w7.drewN n_).setCell ⟨gb11, 0, none⟩ (.int .i64 s0_1)).setCell ⟨gb11, 1, none⟩ (.slice none 0 0)).setCell ⟨gb11, 2, none⟩ (.slice none 0 0))).cell? _ = some _ from hx221_0)); (try have hy221_1 := fun (n_ : Nat) => (show (((((w7.drewN n_).setCell ⟨gb11, 0, none⟩ (.int .i64 s0_1)).setCell ⟨gb11, 1, none⟩ (.slice none 0 0)).setCell ⟨gb11, 2, none⟩ (.slice none 0 0))).cell? _ = some _ from hx221_1)); (try have hy221_2 := fun (n_ : Nat) => (show (((((w7.drewN n_).setCell ⟨gb11, 0, none⟩ (.int .i64 s0_1)).setCell ⟨gb11, 1, none⟩ (.slice none 0 0)).setCell ⟨gb11, 2, none⟩ (.slice none 0 0))).cell? _ = some _ from hx221_2)); (try have hy221_3 := fun (n_ : Nat) => (show (((((w7.drewN n_).setCell ⟨gb11, 0, none⟩ (.int .i64 s0_1)).setCell ⟨gb11, 1, none⟩ (.slice none 0 0)).setCell ⟨gb11, 2, none⟩ (.slice none 0 0))).cell? _ = some _ from hx221_3)); clear hn221_0; clear hn221_1; clear hn221_2; replace p221 := eq_true p221; replace q221 := eq_true q221)); go_upto_region 4 with (first | ((with_reducible refine gate_dst (N := 2) rfl ?_); refine bE 2 #[.int .i64 0, .slice none 0 0, .slice none 0 0] 71 ?_; intro gb10 hg w5 hbox hb; have q := n8_ (IsS68.below ψ10 hb) (KeepBut.trans ψ29 (KeepBut.of_below hb g none) (.inl rfl)) (below_step ψ30 hb) (hbox) ((ψ301 : w.heap.size ≤ gb10)) ((Nat.le_trans HW0.out (ψ301 : w.heap.size ≤ gb10) : w0.heap.size ≤ gb10)) ((ψ302 : g ≠ gb10)) ((ψ303 : gb10 ≠ g)); clear HI0 HK HB; obtain ⟨HI0, HK, HB, BK10, GW10, GE10, NB0_10, NB10_0⟩ := q; clear hb hbox hg; obtain ⟨ASz6_0, cSz6_0, HGz6, hgz6, HSz6_0⟩ := HI0.out; have y6_0 := cellS68_0 HGz6; have y6_1 := cellS68_1 HGz6; have y6_2 := cellS68_2 HGz6; have y6_3 := cellS68_3 HGz6; have u6_1 := blk_frozen HGz6 1; have u6_2 := blk_frozen HGz6 2; have u6_3 := blk_frozen HGz6 3; clear HGz6 hgz6) | ((with_reducible refine gate_dst (N := 4) rfl ?_); refine bE 4 #[.int .i64 0, .slice none 0 0, .slice none 0 0] 71 ?_; intro gb11 hg w7 hbox hb; have q := n11_ (IsS68.below ψ22 hb) (blk_below (g := gb10) ψ23 hb) (KeepBut.trans ψ29 (KeepBut.of_below hb g none) (.inl rfl)) (below_step ψ30 hb) (hbox) ((ψ301 : w.heap.size ≤ gb11)) ((Nat.le_trans HW0.out (ψ301 : w.heap.size ≤ gb11) : w0.heap.size ≤ gb11)) ((ψ304 : gb10 ≠ gb11)) ((ψ305 : gb11 ≠ gb10)) ((ψ306 : g ≠ gb11)) ((ψ307 : gb11 ≠ g)); clear HI0 BK10 HK HB; obtain ⟨HI0, BK10, HK, HB, BK11, GW11, GE11, NB10_11, NB11_10, NB0_11, NB11_0⟩ := q; clear hb hbox hg; have hnb8 := NB11_10.out; have hnc8 := NB10_11.out; have hnb9 := NB11_0.out; have hnc9 := NB0_11.out; obtain ⟨y10_0, y10_1, y10_2, u10_0, u10_1, u10_2⟩ := cells3 BK11.out; obtain ⟨ASz11_0, cSz11_0, HGz11, hgz11, HSz11_0⟩ := HI0.out; have y11_0 := cellS68_0 HGz11; have y11_1 := cellS68_1 HGz11; have y11_2 := cellS68_2 HGz11; have y11_3 := cellS68_3 HGz11; have u11_1 := blk_frozen HGz11 1; have u11_2 := blk_frozen HGz11 2; have u11_3 := blk_frozen HGz11 3; clear HGz11 hgz11; have p221 : 0 ≤ (s0_1 : Int) := of_decide_eq_true ψ2; have q221 : s0_1 < (s0_0.length : Int) := of_decide_eq_true ψ2; obtain ⟨ad221, A221_2, c221_2, A221_3, c221_3, e221, hx221_0, hx221_1, hx221_2, hx221_3, hl221_2, hi221_2, hl221_3, hi221_3⟩ := at_T42 HSz11_0 s0_1 p221 q221; cases e221; have hn221_0 : ad221.block ≠ gb11 := ψ308; have hn221_1 : ad221.block ≠ gb11 := ψ308; have hn221_2 : ad221.block ≠ gb11 := ψ308; replace hx221_0 := pw_cell_below HB.out hx221_0; replace hx221_1 := pw_cell_below HB.out hx221_1; replace hx221_2 := pw_cell_below HB.out hx221_2; replace hx221_3 := pw_cell_below HB.out hx221_3; have HR221_2 := Aside0.mk hi221_2; have HC221_2 := Aside0.mk hl221_2; clear hi221_2 hl221_2; have HR221_3 := Aside0.mk hi221_3; have HC221_3 := Aside0.mk hl221_3; clear hi221_3 hl221_3; replace hx221_0 := (cell_far (p := ⟨gb11, 0, none⟩) ψ41 (.int .i64 s0_1)).trans hx221_0; replace hx221_1 := (cell_far (p := ⟨gb11, 0, none⟩) ψ41 (.int .i64 s0_1)).trans hx221_1; replace hx221_2 := (cell_far (p := ⟨gb11, 0, none⟩) ψ41 (.int .i64 s0_1)).trans hx221_2; replace hx221_3 := (cell_far (p := ⟨gb11, 0, none⟩) ψ41 (.int .i64 s0_1)).trans hx221_3; replace hx221_0 := (cell_far (p := ⟨gb11, 1, none⟩) ψ42 (.slice none 0 0)).trans hx221_0; replace hx221_1 := (cell_far (p := ⟨gb11, 1, none⟩) ψ42 (.slice none 0 0)).trans hx221_1; replace hx221_2 := (cell_far (p := ⟨gb11, 1, none⟩) ψ42 (.slice none 0 0)).trans hx221_2; replace hx221_3 := (cell_far (p := ⟨gb11, 1, none⟩) ψ42 (.slice none 0 0)).trans hx221_3; replace hx221_0 := (cell_far (p := ⟨gb11, 2, none⟩) ψ43 (.slice none 0 0)).trans hx221_0; replace hx221_1 := (cell_far (p := ⟨gb11, 2, none⟩) ψ43 (.slice none 0 0)).trans hx221_1; replace hx221_2 := (cell_far (p := ⟨gb11, 2, none⟩) ψ43 (.slice none 0 0)).trans hx221_2; replace hx221_3 := (cell_far (p := ⟨gb11, 2, none⟩) ψ43 (.slice none 0 0)).trans hx221_3; (try have hy221_0 := fun (n_ : Nat) => (show (((((w7.drewN n_).setCell ⟨gb11, 0, none⟩ (.int .i64 s0_1)).setCell ⟨gb11, 1, none⟩ (.slice none 0 0)).setCell ⟨gb11, 2, none⟩ (.slice none 0 0))).cell? _ = some _ from hx221_0)); (try have hy221_1 := fun (n_ : Nat) => (show (((((w7.drewN n_).setCell ⟨gb11, 0, none⟩ (.int .i64 s0_1)).setCell ⟨gb11, 1, none⟩ (.slice none 0 0)).setCell ⟨gb11, 2, none⟩ (.slice none 0 0))).cell? _ = some _ from hx221_1)); (try have hy221_2 := fun (n_ : Nat) => (show (((((w7.drewN n_).setCell ⟨gb11, 0, none⟩ (.int .i64 s0_1)).setCell ⟨gb11, 1, none⟩ (.slice none 0 0)).setCell ⟨gb11, 2, none⟩ (.slice none 0 0))).cell? _ = some _ from hx221_2)); (try have hy221_3 := fun (n_ : Nat) => (show (((((w7.drewN n_).setCell ⟨gb11, 0, none⟩ (.int .i64 s0_1)).setCell ⟨gb11, 1, none⟩ (.slice none 0 0)).setCell ⟨gb11, 2, none⟩ (.slice none 0 0))).cell? _ = some _ from hx221_3)); clear hn221_0; clear hn221_1; clear hn221_2; replace p221 := eq_true p221; replace q221 := eq_true q221)))
 (try simp only [Act.put, List.setIfInBounds_toArray, List.set_cons_zero, List.set_cons_succ])
 go_cut [41] (fun v41 wc => ∃ (kq : Nat) (x41_3 : Bool), v41 = .bool x41_3 ∧ Aside0 (impl_nester_one.j0 kq ((rd_T42 s0_0 s0_1).f0) x41_3 s0_0 (wrap64 (s0_1 + 1)) s0_2 s0_3 s0_1 = some (r1, r2, r3, r4, r5, r6, r7)) ∧ Aside0 (kq ≤ k) ∧ Aside0 (wc.heap[gb10]? = some (.cells #[.int .i64 0, (.slice none 0 0), (.slice none 0 0)] 71 (0, 0))) ∧ Aside0 (wc.heap[gb11]? = some (.cells #[.int .i64 s0_1, (.slice none 0 0), (.slice none 0 0)] 71 (0, 0))) ∧ Aside0 (IsS68 w0 wc g s0_0 (wrap64 (s0_1 + 1)) s0_2 s0_3) ∧ Aside0 (KeepBut w wc g none) ∧ Aside0 (Below w0.heap.size w0 wc))
 case first =>
  have H := HC4.out
  clear HC4
  replace H := ifF H; rcases H with ⟨c12b0, c12b1, H⟩ | ⟨c12b0, c12b1, c12, H⟩
  ·(first | rw [c12b0] | rw [c12b1] | (simp only [i64_w, i32_w]; rw [c12b0]) | skip)
   exact τ9
  ·(first | rw [c12b0] | rw [c12b1] | (simp only [i64_w, i32_w]; rw [c12b0]) | skip)
   replace H := ifF H; rcases H with ⟨c13b0, c13b1, H⟩ | ⟨c13b0, c13b1, c13, H⟩
   ·exact τ9
   ·exact τ9
 case rest =>
  clear HC4
  try clear c1
  try clear c2
  try clear c2b0
  try clear p2
  try clear q2
  try clear hx2
  try clear c3
  try clear c3b0
  try clear c4
  try clear p6
  try clear c8
  try clear c9
  try clear c12
  try clear c12b0
  try clear c12b1
  try clear c13
  try clear c13b0
  try clear c13b1
  try clear y10_0 y10_1 y10_2
  try clear y11_0 y11_1 y11_2 y11_3
  try clear y6_0 y6_1 y6_2 y6_3
  try clear u10_0 u10_1 u10_2
  try clear u11_1 u11_2 u11_3
  try clear u6_1 u6_2 u6_3
  try clear hx221_0
  try clear hx221_1
  try clear hx221_2
  try clear hx221_3
  try clear p221
  try clear q221
  obtain ⟨kq, x41_3, rfl, HA, HJ3, BK10, BK11, HI0, HK, HB⟩ := hcut
  cases kq with
  | zero => exact absurd HA.out (by simp [impl_nester_one.j0])
  | succ kj3 =>
   have H := HA.out
   clear HA
   simp only [impl_nester_one.j0] at H
   replace H := ifB H; rcases H with ⟨rfl, H⟩ | ⟨rfl, H⟩
   ·simp only [Option.some.injEq, Prod.mk.injEq] at H
    obtain ⟨rfl, rfl, rfl, rfl, rfl, rfl, rfl⟩ := H
    have hnb15 := NB11_10.out
    have hnc15 := NB10_11.out
    have hnb16 := NB11_0.out
    have hnc16 := NB0_11.out
    obtain ⟨y17_0, y17_1, y17_2, u17_0, u17_1, u17_2⟩ := cells3 BK11.out
    have hnb18 := NB10_0.out
    have hnc18 := NB0_10.out
    obtain ⟨y19_0, y19_1, y19_2, u19_0, u19_1, u19_2⟩ := cells3 BK10.out
    go_wp2_with (first | ((with_reducible refine qR_ ?_)) | ((with_reducible refine wpQuiet_step (fun K hK => ?_)); go_simp; first | (refine hK _ ?_; clear hK K) | (apply Exists.intro; refine ⟨fun _ => ?_, hK _ ?_⟩)) | ((with_reducible refine wpQuiet_nil ?_); rintro _ ⟨nq, rfl⟩))
    refine bodyPost_ret (results_ct rfl _ _ gb10 71 #[.int .i64 s0_1, .slice none 0 0, .slice none 0 0] (0, 0) _ rfl (by (with_reducible repeat (first | refine blk_drewN ?_ _ | refine blk_drew ?_ | refine blk_alloc ?_ _)); refine blk_put (cs := #[.int .i64 s0_1, .slice none 0 0, .slice none 0 0]) ?_ 2 _ rfl; (with_reducible repeat (first | refine blk_drewN ?_ _ | refine blk_drew ?_ | refine blk_alloc ?_ _)); refine blk_put (cs := #[.int .i64 s0_1, .slice none 0 0, .slice none 0 0]) ?_ 1 _ rfl; (with_reducible repeat (first | refine blk_drewN ?_ _ | refine blk_drew ?_ | refine blk_alloc ?_ _)); refine blk_put (cs := #[.int .i64 0, .slice none 0 0, .slice none 0 0]) ?_ 0 _ rfl; (with_reducible repeat (first | refine blk_drewN ?_ _ | refine blk_drew ?_ | refine blk_alloc ?_ _)); exact BK10.out) Try.underlying71 rfl ψ14) rfl ?_
    exact ⟨_, _, ψ9, ψ24, ψ24, ψ28, ψ30, ψ29⟩
   ·replace H := Option.bind_eq_some_iff.mp H
    obtain ⟨⟨t224, t227, t228, t229, t230⟩, A200, H⟩ := H
    have A20 := Aside0.mk A200
    clear A200
    have HC21 := Aside0.mk H
    clear H
    go_upto_region 9 with (first | (go_at_call 80; (with_reducible refine (impl_nester_many.calls_of kj3 (fun m_ hm_ => ih m_ ψ44) g s0_0 (wrap64 (s0_1 + 1)) s0_2 s0_3 t224 t227 t228 t229 t230 w0 _ ?_ ?_ A20.out).mono ?_); exact ψ28; exact ψ30; rintro e w22 ⟨v225, rfl, ho0, hi, hb, hk⟩; have q := n6_ (KeepBut.blk hk (g' := gb10) ψ23 NB10_0.out ψ8) (KeepBut.blk hk (g' := gb11) ψ34 NB11_0.out ψ8) (Kd.R_lower (Kd.R_newB (Kd.R_newB ho0 (g := gb10) ψ23) (g := gb11) ψ34) (keep_size (w := w) (g := g) (row := none) ψ29)) (KeepBut.trans ψ29 hk (.inl rfl)) (hb) (hi); clear BK10 BK11 HK HB HI0; obtain ⟨BK10, BK11, HO226, HK, HB, HI0⟩ := q; (try clear hb hk hi); (try clear ho0); obtain ⟨Ao23, co23, eo23⟩ := Kd.R_slice HO226.out; subst eo23; have hnb24 := NB11_10.out; have hnc24 := NB10_11.out; have hnb25 := NB11_0.out; have hnc25 := NB0_11.out; obtain ⟨y26_0, y26_1, y26_2, u26_0, u26_1, u26_2⟩ := cells3 BK11.out))
    repeat (go_quiet (first | (go_at_call 80; (with_reducible refine (impl_nester_many.calls_of kj3 (fun m_ hm_ => ih m_ ψ44) g s0_0 (wrap64 (s0_1 + 1)) s0_2 s0_3 t224 t227 t228 t229 t230 w0 _ ?_ ?_ A20.out).mono ?_); exact ψ28; exact ψ30; rintro e w22 ⟨v225, rfl, ho0, hi, hb, hk⟩; have q := n6_ (KeepBut.blk hk (g' := gb10) ψ23 NB10_0.out ψ8) (KeepBut.blk hk (g' := gb11) ψ34 NB11_0.out ψ8) (Kd.R_lower (Kd.R_newB (Kd.R_newB ho0 (g := gb10) ψ23) (g := gb11) ψ34) (keep_size (w := w) (g := g) (row := none) ψ29)) (KeepBut.trans ψ29 hk (.inl rfl)) (hb) (hi); clear BK10 BK11 HK HB HI0; obtain ⟨BK10, BK11, HO226, HK, HB, HI0⟩ := q; (try clear hb hk hi); (try clear ho0); obtain ⟨Ao23, co23, eo23⟩ := Kd.R_slice HO226.out; subst eo23; have hnb24 := NB11_10.out; have hnc24 := NB10_11.out; have hnb25 := NB11_0.out; have hnc25 := NB0_11.out; obtain ⟨y26_0, y26_1, y26_2, u26_0, u26_1, u26_2⟩ := cells3 BK11.out)); go_upto_region 9 with (first | (go_at_call 80; (with_reducible refine (impl_nester_many.calls_of kj3 (fun m_ hm_ => ih m_ ψ44) g s0_0 (wrap64 (s0_1 + 1)) s0_2 s0_3 t224 t227 t228 t229 t230 w0 _ ?_ ?_ A20.out).mono ?_); exact ψ28; exact ψ30; rintro e w22 ⟨v225, rfl, ho0, hi, hb, hk⟩; have q := n6_ (KeepBut.blk hk (g' := gb10) ψ23 NB10_0.out ψ8) (KeepBut.blk hk (g' := gb11) ψ34 NB11_0.out ψ8) (Kd.R_lower (Kd.R_newB (Kd.R_newB ho0 (g := gb10) ψ23) (g := gb11) ψ34) (keep_size (w := w) (g := g) (row := none) ψ29)) (KeepBut.trans ψ29 hk (.inl rfl)) (hb) (hi); clear BK10 BK11 HK HB HI0; obtain ⟨BK10, BK11, HO226, HK, HB, HI0⟩ := q; (try clear hb hk hi); (try clear ho0); obtain ⟨Ao23, co23, eo23⟩ := Kd.R_slice HO226.out; subst eo23; have hnb24 := NB11_10.out; have hnc24 := NB10_11.out; have hnb25 := NB11_0.out; have hnc25 := NB0_11.out; obtain ⟨y26_0, y26_1, y26_2, u26_0, u26_1, u26_2⟩ := cells3 BK11.out)))
    (try simp only [Act.put, List.setIfInBounds_toArray, List.set_cons_zero, List.set_cons_succ])
    go_cut [66] (fun v66 wc => ∃ (kq : Nat) (x66_20 : Bool), v66 = .bool x66_20 ∧ Aside0 (impl_nester_one.j1 kq ((rd_T42 s0_0 s0_1).f0) t227 (-1) x66_20 s0_0 t228 t229 t230 s0_1 t224 = some (r1, r2, r3, r4, r5, r6, r7)) ∧ Aside0 (kq ≤ kj3) ∧ Aside0 (Kd.R k71 71 wc w.heap.size (fun k_ => k_ ≠ gb10 ∧ k_ ≠ gb11) (.slice Ao23 t224.length co23) t224) ∧ Aside0 (wc.heap[gb10]? = some (.cells #[.int .i64 0, (.slice none 0 0), (.slice none 0 0)] 71 (0, 0))) ∧ Aside0 (wc.heap[gb11]? = some (.cells #[.int .i64 s0_1, (.slice Ao23 t224.length co23), (.slice none 0 0)] 71 (0, 0))) ∧ Aside0 (IsS68 w0 wc g s0_0 t228 t229 t230) ∧ Aside0 (KeepBut w wc g none) ∧ Aside0 (Below w0.heap.size w0 wc))
    case first =>
     have H := HC21.out
     clear HC21
     replace H := ifB H; rcases H with ⟨rfl, H⟩ | ⟨rfl, H⟩
     ·by_cases c28 : ((rd_T42 s0_0 s0_1).f0) = 2
      ·rw [if_pos c28] at H
       have c28b0 : (((rd_T42 s0_0 s0_1).f0) == 2) = true := beq_iff_eq.mpr c28
       have c28b1 : (((rd_T42 s0_0 s0_1).f0) != 2) = false := bne_eq_false_iff_eq.mpr c28
       clear c28
       (first | rw [c28b0] | rw [c28b1] | (simp only [i64_w, i32_w]; rw [c28b0]) | skip)
       replace H := Option.bind_eq_some_iff.mp H
       obtain ⟨t231, A290, H⟩ := H
       have A29 := Aside0.mk A290
       clear A290
       replace H := ifB H; rcases H with ⟨rfl, H⟩ | ⟨rfl, H⟩
       ·exact τ10
       ·by_cases c32 : ((rd_T42 s0_0 s0_1).f0) = 8
        ·rw [if_pos c32] at H
         have c32b0 : (((rd_T42 s0_0 s0_1).f0) == 8) = true := beq_iff_eq.mpr c32
         have c32b1 : (((rd_T42 s0_0 s0_1).f0) != 8) = false := bne_eq_false_iff_eq.mpr c32
         clear c32
         replace H := Option.bind_eq_some_iff.mp H
         obtain ⟨t232, A330, H⟩ := H
         have A33 := Aside0.mk A330
         clear A330
         exact τ10
        ·rw [if_neg c32] at H
         have c32b0 : (((rd_T42 s0_0 s0_1).f0) == 8) = false := beq_eq_false_iff_ne.mpr c32
         have c32b1 : (((rd_T42 s0_0 s0_1).f0) != 8) = true := bne_iff_ne.mpr c32
         exact τ10
      ·rw [if_neg c28] at H
       have c28b0 : (((rd_T42 s0_0 s0_1).f0) == 2) = false := beq_eq_false_iff_ne.mpr c28
       have c28b1 : (((rd_T42 s0_0 s0_1).f0) != 2) = true := bne_iff_ne.mpr c28
       (first | rw [c28b0] | rw [c28b1] | (simp only [i64_w, i32_w]; rw [c28b0]) | skip)
       replace H := ifF H; rcases H with ⟨c37b0, c37b1, H⟩ | ⟨c37b0, c37b1, c37, H⟩
       ·replace H := Option.bind_eq_some_iff.mp H
        obtain ⟨t233, A380, H⟩ := H
        have A38 := Aside0.mk A380
        clear A380
        exact τ10
       ·exact τ10
     ·exact τ10
    case rest =>
     clear HC21
     try clear c1
     try clear c2
     try clear c2b0
     try clear p2
     try clear q2
     try clear hx2
     try clear c3
     try clear c3b0
     try clear c4
     try clear p6
     try clear c8
     try clear c9
     try clear c12
     try clear c12b0
     try clear c12b1
     try clear c13
     try clear c13b0
     try clear c13b1
     try clear c14
     try clear c15
     try clear c16
     try clear c18
     try clear c22
     try clear p22
     try clear q22
     try clear hx22
     try clear c24
     try clear c25
     try clear c27
     try clear c28
     try clear c28b0
     try clear c28b1
     try clear c30
     try clear c32
     try clear c32b0
     try clear c32b1
     try clear c37
     try clear c37b0
     try clear c37b1
     try clear y10_0 y10_1 y10_2
     try clear y11_0 y11_1 y11_2 y11_3
     try clear y17_0 y17_1 y17_2
     try clear y19_0 y19_1 y19_2
     try clear y26_0 y26_1 y26_2
     try clear y6_0 y6_1 y6_2 y6_3
     try clear u10_0 u10_1 u10_2
     try clear u11_1 u11_2 u11_3
     try clear u17_0 u17_1 u17_2
     try clear u19_0 u19_1 u19_2
     try clear u26_0 u26_1 u26_2
     try clear u6_1 u6_2 u6_3
     try clear hx221_0
     try clear hx221_1
     try clear hx221_2
     try clear hx221_3
     try clear p2
     try clear p221
     try clear p6
     try clear q2
     try clear q221
     obtain ⟨kq, x66_20, rfl, HA, HJ20, HO_219001, BK10, BK11, HI0, HK, HB⟩ := hcut
     cases kq with
     | zero => exact absurd HA.out (by simp [impl_nester_one.j1])
     | succ kj20 =>
      have H := HA.out
      clear HA
      simp only [impl_nester_one.j1] at H
      have HC40 := Aside0.mk H
      clear H
      go_upto_if 66 with (fail)
      repeat (go_quiet (fail); go_upto_if 66 with (fail))
      go_cut [7, 8] (fun v7 v8 wc => ∃ (kq : Nat) (x7_39 : Bool) (x8_39 : Int) (x1001_39 : Int) (x1002_39 : Int) (x1003_39 : Int) (x219002_39 : List (S71)) (u219002 : Value), v7 = .bool x7_39 ∧ v8 = .int .i64 x8_39 ∧ Aside0 (impl_nester_one.j2 kq ((rd_T42 s0_0 s0_1).f0) x7_39 x8_39 s0_0 x1001_39 x1002_39 x1003_39 s0_1 t224 x219002_39 = some (r1, r2, r3, r4, r5, r6, r7)) ∧ Aside0 (kq ≤ kj20) ∧ Aside0 (Kd.R k71 71 wc w.heap.size (fun k_ => some k_ ≠ (u219002 : Value).ownBlock ∧ k_ ≠ gb10 ∧ k_ ≠ gb11) (.slice Ao23 t224.length co23) t224) ∧ Aside0 (Kd.R k71 71 wc w.heap.size (fun k_ => some k_ ≠ ((.slice Ao23 t224.length co23) : Value).ownBlock ∧ k_ ≠ gb10 ∧ k_ ≠ gb11) u219002 x219002_39) ∧ Aside0 (wc.heap[gb10]? = some (.cells #[.int .i64 0, (.slice none 0 0), (.slice none 0 0)] 71 (0, 0))) ∧ Aside0 (wc.heap[gb11]? = some (.cells #[.int .i64 s0_1, (.slice Ao23 t224.length co23), u219002] 71 (0, 0))) ∧ Aside0 (IsS68 w0 wc g s0_0 x1001_39 x1002_39 x1003_39) ∧ Aside0 (KeepBut w wc g none) ∧ Aside0 (Below w0.heap.size w0 wc))
      case first =>
       have H := HC40.out
       clear HC40
       replace H := ifB H; rcases H with ⟨rfl, H⟩ | ⟨rfl, H⟩
       ·replace H := Option.bind_eq_some_iff.mp H
        obtain ⟨⟨t236, t239, t240, t241, t242⟩, A420, H⟩ := H
        have A42 := Aside0.mk A420
        clear A420
        have H' := Aside0.mk H
        clear H
        obtain ⟨ASz43_0, cSz43_0, HGz43, hgz43, HSz43_0⟩ := HI0.out
        have y43_0 := cellS68_0 HGz43
        have y43_1 := cellS68_1 HGz43
        have y43_2 := cellS68_2 HGz43
        have y43_3 := cellS68_3 HGz43
        have u43_1 := blk_frozen HGz43 1
        have u43_2 := blk_frozen HGz43 2
        have u43_3 := blk_frozen HGz43 3
        clear HGz43 hgz43
        go_wp2_with (first | (go_at_call 80; (with_reducible refine (impl_nester_many.calls_of kj20 (fun m_ hm_ => ih m_ (by have := HJ3.out; have := HJ20.out; have := hm_; omega)) g s0_0 (wrap64 (t228 + 1)) t229 t230 t236 t239 t240 t241 t242 w0 _ ?_ ?_ A42.out).mono ?_); exact ψ28; exact ψ30; rintro e w44 ⟨v237, rfl, ho0, hi, hb, hk⟩; have q := n7_ (Kd.R_mono (Kd.R_told (Kd.R_oldK (IsS68.apart (show IsS68 w0 _ g s0_0 (wrap64 (t228 + 1)) t229 t230 from ψ28) ψ309 ψ15) hk) (Kd.R_base ho0)) (fun _ h_ => h_.1)) (KeepBut.blk hk (g' := gb10) (o := .cells #[.int .i64 0, .slice none 0 0, .slice none 0 0] 71 (0, 0)) ψ45 NB10_0.out ψ8) (KeepBut.blk hk (g' := gb11) (o := .cells #[.int .i64 s0_1, .slice Ao23 t224.length co23, .slice none 0 0] 71 (0, 0)) ψ46 NB11_0.out ψ8) (Kd.R_lower (Kd.R_newB (Kd.R_newB (Kd.R_new' ho0 (Kd.R_lt ψ309)) (g := gb10) (o := .cells #[.int .i64 0, .slice none 0 0, .slice none 0 0] 71 (0, 0)) ψ45) (g := gb11) (o := .cells #[.int .i64 s0_1, .slice Ao23 t224.length co23, .slice none 0 0] 71 (0, 0)) ψ46) (keep_size (w := w) (g := g) (row := none) ψ29)) (KeepBut.trans ψ29 hk (.inl rfl)) (hb) (hi); clear HO_219001 BK10 BK11 HK HB HI0; obtain ⟨HO_219001, BK10, BK11, HO238, HK, HB, HI0⟩ := q; (try clear hb hk hi); (try clear ho0); obtain ⟨Ao45, co45, eo45⟩ := Kd.R_slice HO238.out; subst eo45; have hnb46 := NB11_10.out; have hnc46 := NB10_11.out; have hnb47 := NB11_0.out; have hnc47 := NB0_11.out; obtain ⟨y48_0, y48_1, y48_2, u48_0, u48_1, u48_2⟩ := cells3 BK11.out) | ((with_reducible refine qR_ ?_)) | ((with_reducible refine wpQuiet_step (fun K hK => ?_)); go_simp; first | (refine hK _ ?_; clear hK K) | (apply Exists.intro; refine ⟨fun _ => ?_, hK _ ?_⟩)) | ((with_reducible refine wpQuiet_nil ?_); rintro _ ⟨nq, rfl⟩))
        go_meet
        case rel => exact ⟨_, (t239), (t228), (t240), (t241), (t242), (t236), (.slice Ao45 t236.length co45), ψ0, ψ0, H', ⟨ψ47⟩, ⟨by (with_reducible repeat (first | apply Kd.R_alloc | apply Kd.R_drewN | apply Kd.R_drew)); exact Kd.R_mono (Kd.R_far (p := ⟨gb11, 2, none⟩) (Kd.R_mono HO_219001.out (fun k_ hk => (⟨hk, hk.1.2⟩ : _ ∧ k_ ≠ gb11))) (fun _ hk => hk.2) (.slice Ao45 t236.length co45)) (fun _ hk => ⟨hk.1.2, ⟨hk.1.1.1, hk.1.1.2⟩⟩)⟩, ⟨by (with_reducible repeat (first | apply Kd.R_alloc | apply Kd.R_drewN | apply Kd.R_drew)); exact Kd.R_mono (Kd.R_far (p := ⟨gb11, 2, none⟩) (Kd.R_mono HO238.out (fun k_ hk => (⟨hk, hk.2⟩ : _ ∧ k_ ≠ gb11))) (fun _ hk => hk.2) (.slice Ao45 t236.length co45)) (fun _ hk => ⟨hk.1.1.1.2, ⟨hk.1.1.2, hk.1.2⟩⟩)⟩, ⟨ψ31⟩, ⟨by (with_reducible repeat (first | refine blk_drewN ?_ _ | refine blk_drew ?_ | refine blk_alloc ?_ _)); refine blk_put (cs := #[.int .i64 s0_1, .slice Ao23 t224.length co23, .slice none 0 0]) ?_ 2 _ rfl; (with_reducible repeat (first | refine blk_drewN ?_ _ | refine blk_drew ?_ | refine blk_alloc ?_ _)); exact BK11.out⟩, ⟨ψ28⟩, ⟨ψ29⟩, ⟨ψ30⟩⟩
       ·have H' := Aside0.mk H
        clear H
        go_wp2_with (first | ((with_reducible refine qR_ ?_)) | ((with_reducible refine wpQuiet_step (fun K hK => ?_)); go_simp; first | (refine hK _ ?_; clear hK K) | (apply Exists.intro; refine ⟨fun _ => ?_, hK _ ?_⟩)) | ((with_reducible refine wpQuiet_nil ?_); rintro _ ⟨nq, rfl⟩))
        go_meet
        case rel => exact ⟨_, (t227), ((-1)), (t228), (t229), (t230), (([] : List (S71))), (.slice none 0 0), ψ0, ψ0, H', ⟨ψ47⟩, ⟨by (with_reducible repeat (first | apply Kd.R_alloc | apply Kd.R_drewN | apply Kd.R_drew)); exact Kd.R_mono HO_219001.out (fun _ hk => ⟨(by simp [Value.ownBlock]), ⟨hk.1, hk.2⟩⟩)⟩, ⟨ψ24⟩, ⟨ψ23⟩, ⟨ψ34⟩, ⟨ψ28⟩, ⟨ψ29⟩, ⟨ψ30⟩⟩
      case rest =>
       clear HC40
       try clear c1
       try clear c2
       try clear c2b0
       try clear p2
       try clear q2
       try clear hx2
       try clear c3
       try clear c3b0
       try clear c4
       try clear p6
       try clear c8
       try clear c9
       try clear c12
       try clear c12b0
       try clear c12b1
       try clear c13
       try clear c13b0
       try clear c13b1
       try clear c14
       try clear c15
       try clear c16
       try clear c18
       try clear c22
       try clear p22
       try clear q22
       try clear hx22
       try clear c24
       try clear c25
       try clear c27
       try clear c28
       try clear c28b0
       try clear c28b1
       try clear c30
       try clear c32
       try clear c32b0
       try clear c32b1
       try clear c37
       try clear c37b0
       try clear c37b1
       try clear c41
       try clear c46
       try clear c47
       try clear y10_0 y10_1 y10_2
       try clear y11_0 y11_1 y11_2 y11_3
       try clear y17_0 y17_1 y17_2
       try clear y19_0 y19_1 y19_2
       try clear y26_0 y26_1 y26_2
       try clear y43_0 y43_1 y43_2 y43_3
       try clear y48_0 y48_1 y48_2
       try clear y6_0 y6_1 y6_2 y6_3
       try clear u10_0 u10_1 u10_2
       try clear u11_1 u11_2 u11_3
       try clear u17_0 u17_1 u17_2
       try clear u19_0 u19_1 u19_2
       try clear u26_0 u26_1 u26_2
       try clear u43_1 u43_2 u43_3
       try clear u48_0 u48_1 u48_2
       try clear u6_1 u6_2 u6_3
       try clear hx221_0
       try clear hx221_1
       try clear hx221_2
       try clear hx221_3
       try clear p2
       try clear p22
       try clear p221
       try clear p6
       try clear q2
       try clear q22
       try clear q221
       obtain ⟨kq, x7_39, x8_39, x1001_39, x1002_39, x1003_39, x219002_39, u219002, rfl, rfl, HA, HJ39, HO_219001, HO_219002, BK10, BK11, HI0, HK, HB⟩ := hcut
       cases kq with
       | zero => exact absurd HA.out (by simp [impl_nester_one.j2])
       | succ kj39 =>
        have H := HA.out
        clear HA
        simp only [impl_nester_one.j2] at H
        have HC49 := Aside0.mk H
        clear H
        go_upto_region 13 with (fail)
        repeat (go_quiet (fail); go_upto_region 13 with (fail))
        go_cut [98] (fun v98 wc => ∃ (kq : Nat) (x98_48 : Bool), v98 = .bool x98_48 ∧ Aside0 (impl_nester_one.j3 kq x8_39 x98_48 s0_0 x1001_39 x1002_39 x1003_39 s0_1 t224 x219002_39 = some (r1, r2, r3, r4, r5, r6, r7)) ∧ Aside0 (kq ≤ kj39) ∧ Aside0 (Kd.R k71 71 wc w.heap.size (fun k_ => some k_ ≠ (u219002 : Value).ownBlock ∧ k_ ≠ gb10 ∧ k_ ≠ gb11) (.slice Ao23 t224.length co23) t224) ∧ Aside0 (Kd.R k71 71 wc w.heap.size (fun k_ => some k_ ≠ ((.slice Ao23 t224.length co23) : Value).ownBlock ∧ k_ ≠ gb10 ∧ k_ ≠ gb11) u219002 x219002_39) ∧ Aside0 (wc.heap[gb10]? = some (.cells #[.int .i64 0, (.slice none 0 0), (.slice none 0 0)] 71 (0, 0))) ∧ Aside0 (wc.heap[gb11]? = some (.cells #[.int .i64 s0_1, (.slice Ao23 t224.length co23), u219002] 71 (0, 0))) ∧ Aside0 (IsS68 w0 wc g s0_0 x1001_39 x1002_39 x1003_39) ∧ Aside0 (KeepBut w wc g none) ∧ Aside0 (Below w0.heap.size w0 wc))
        case first =>
         have H := HC49.out
         clear HC49
         replace H := ifB H; rcases H with ⟨rfl, H⟩ | ⟨rfl, H⟩
         ·replace H := Option.bind_eq_some_iff.mp H
          obtain ⟨t243, A510, H⟩ := H
          have A51 := Aside0.mk A510
          clear A510
          replace H := ifB H; rcases H with ⟨rfl, H⟩ | ⟨rfl, H⟩
          ·by_cases c53 : ((rd_T42 s0_0 s0_1).f0) = 8
           ·rw [if_pos c53] at H
            have c53b0 : (((rd_T42 s0_0 s0_1).f0) == 8) = true := beq_iff_eq.mpr c53
            have c53b1 : (((rd_T42 s0_0 s0_1).f0) != 8) = false := bne_eq_false_iff_eq.mpr c53
            clear c53
            (first | rw [c53b0] | rw [c53b1] | (simp only [i64_w, i32_w]; rw [c53b0]) | skip)
            exact τ11
           ·rw [if_neg c53] at H
            have c53b0 : (((rd_T42 s0_0 s0_1).f0) == 8) = false := beq_eq_false_iff_ne.mpr c53
            have c53b1 : (((rd_T42 s0_0 s0_1).f0) != 8) = true := bne_iff_ne.mpr c53
            (first | rw [c53b0] | rw [c53b1] | (simp only [i64_w, i32_w]; rw [c53b0]) | skip)
            exact τ11
          ·exact τ11
         ·exact τ11
        case rest =>
         clear HC49
         try clear c1
         try clear c2
         try clear c2b0
         try clear p2
         try clear q2
         try clear hx2
         try clear c3
         try clear c3b0
         try clear c4
         try clear c5
         try clear p6
         try clear c8
         try clear c9
         try clear c12
         try clear c12b0
         try clear c12b1
         try clear c13
         try clear c13b0
         try clear c13b1
         try clear c14
         try clear c15
         try clear c16
         try clear c18
         try clear c22
         try clear p22
         try clear q22
         try clear hx22
         try clear c24
         try clear c25
         try clear c27
         try clear c28
         try clear c28b0
         try clear c28b1
         try clear c30
         try clear c32
         try clear c32b0
         try clear c32b1
         try clear c37
         try clear c37b0
         try clear c37b1
         try clear c41
         try clear c46
         try clear c47
         try clear c50
         try clear c52
         try clear c53
         try clear c53b0
         try clear c53b1
         try clear y10_0 y10_1 y10_2
         try clear y11_0 y11_1 y11_2 y11_3
         try clear y17_0 y17_1 y17_2
         try clear y19_0 y19_1 y19_2
         try clear y26_0 y26_1 y26_2
         try clear y43_0 y43_1 y43_2 y43_3
         try clear y48_0 y48_1 y48_2
         try clear y6_0 y6_1 y6_2 y6_3
         try clear u10_0 u10_1 u10_2
         try clear u11_1 u11_2 u11_3
         try clear u17_0 u17_1 u17_2
         try clear u19_0 u19_1 u19_2
         try clear u26_0 u26_1 u26_2
         try clear u43_1 u43_2 u43_3
         try clear u48_0 u48_1 u48_2
         try clear u6_1 u6_2 u6_3
         try clear hx221_0
         try clear hx221_1
         try clear hx221_2
         try clear hx221_3
         try clear p2
         try clear p22
         try clear p221
         try clear p6
         try clear q2
         try clear q22
         try clear q221
         obtain ⟨kq, x98_48, rfl, HA, HJ48, HO_219001, HO_219002, BK10, BK11, HI0, HK, HB⟩ := hcut
         cases kq with
         | zero => exact absurd HA.out (by simp [impl_nester_one.j3])
         | succ kj48 =>
          have H := HA.out
          clear HA
          simp only [impl_nester_one.j3] at H
          replace H := ifB H; rcases H with ⟨rfl, H⟩ | ⟨rfl, H⟩
          ·simp only [Option.some.injEq, Prod.mk.injEq] at H
           exact τ12
          ·simp only [Option.some.injEq, Prod.mk.injEq] at H
           exact τ12
theorem impl_nester_many.calls (k : Nat) : ∀ (g : Nat) (s0_0 : List (S42)) (s0_1 : Int) (s0_2 : Int) (s0_3 : Int) (r1 : List (S71)) (r2 : Bool) (r3 : Int) (r4 : Int) (r5 : Int) (w0 w : World) (hI : IsS68 w0 w g s0_0 s0_1 s0_2 s0_3) (hB : Below w0.heap.size w0 w) (h : impl_nester_many.f k s0_0 s0_1 s0_2 s0_3 = some (r1, r2, r3, r4, r5)),
 Calls Try.prog 80 #[.pointer (some ⟨g, 0, none⟩)] w fun e w' => ∃ v0_ : Value, e = .returned (.tuple #[v0_, .bool r2]) ∧ Kd.R k71 71 w' w.heap.size (fun _ => True) v0_ r1 ∧ IsS68 w0 w' g s0_0 r3 r4 r5 ∧ Below w0.heap.size w0 w' ∧ KeepBut w w' g none := impl_nester_many.calls_of k (fun m_ _ => impl_nester_one.calls m_)
/-! ### spec_l3Size: function 83 -/
def spec_l3Size.l0 : Nat → Int → Int → Int → List (S77) → List (S77) → Int → List Int → List (S42) → Option (Int)
 | 0, _, _, _, _, _, _, _, _ => none
 | k + 1, x3, x4, x264000, x264001, x264002, x264003, x264004, x264005 => if x4 < x264000 then (spec_l3Size.l0 k (wrap64 (x3 * 2)) (wrap64 (x4 + 1)) x264000 x264001 x264002 x264003 x264004 x264005) else (some x3)
def spec_l3Size.f (k : Nat) (a0_0 : Int) (l0_1 : List (S77)) (l0_2 : List (S77)) (a0_3 : Int) (l0_4 : List Int) (l0_5 : List (S42)) : Option (Int) := spec_l3Size.l0 k 1 0 a0_0 l0_1 l0_2 a0_3 l0_4 l0_5
set_option maxHeartbeats 8000000 in
set_option maxRecDepth 100000 in
theorem spec_l3Size.calls (k : Nat) (a0_0 : Int) (A0_1 : Option Addr) (c0_1 : Nat) (l0_1 : List (S77)) (A0_2 : Option Addr) (c0_2 : Nat) (l0_2 : List (S77)) (a0_3 : Int) (A0_4 : Option Addr) (c0_4 : Nat) (l0_4 : List Int) (A0_5 : Option Addr) (c0_5 : Nat) (l0_5 : List (S42)) (r : Int) (w : World) (hr0_1 : Kd.C k77 w A0_1 l0_1.length l0_1) (hc0_1 : l0_1.length ≤ c0_1) (hr0_2 : Kd.C k77 w A0_2 l0_2.length l0_2) (hc0_2 : l0_2.length ≤ c0_2) (hr0_4 : Kd.C (Kd.int .i64) w A0_4 l0_4.length l0_4) (hc0_4 : l0_4.length ≤ c0_4) (hr0_5 : Kd.C k42 w A0_5 l0_5.length l0_5) (hc0_5 : l0_5.length ≤ c0_5) (h : spec_l3Size.f k a0_0 l0_1 l0_2 a0_3 l0_4 l0_5 = some r) :
 Calls Try.prog 83 #[.agg #[.int .i64 a0_0, .slice A0_1 l0_1.length c0_1, .slice A0_2 l0_2.length c0_2, .int .i64 a0_3, .slice A0_4 l0_4.length c0_4, .slice A0_5 l0_5.length c0_5]] w fun e w' => e = .returned (.int .i64 r) ∧ Below w.heap.size w w' := by
 have hu35 := Try.underlying35
 have HR0_1 := Aside0.mk hr0_1
 have HC0_1 := Aside0.mk hc0_1
 clear hr0_1 hc0_1
 have HR0_2 := Aside0.mk hr0_2
 have HC0_2 := Aside0.mk hc0_2
 clear hr0_2 hc0_2
 have HR0_4 := Aside0.mk hr0_4
 have HC0_4 := Aside0.mk hc0_4
 clear hr0_4 hc0_4
 have HR0_5 := Aside0.mk hr0_5
 have HC0_5 := Aside0.mk hc0_5
 clear hr0_5 hc0_5
 have HB := Aside0.mk (Below.refl w.heap.size w)
 have H : (spec_l3Size.l0 k 1 0 a0_0 l0_1 l0_2 a0_3 l0_4 l0_5) = some r := h
 clear h
 have H' := Aside0.mk H
 clear H
 go_enter Try.func83, Try.ntmps83
 go_wp2_with (first | ((with_reducible refine gate_dst (N := 1) rfl ?_); refine bE 1 #[.int .i64 a0_0, .slice A0_1 l0_1.length c0_1, .slice A0_2 l0_2.length c0_2, .int .i64 a0_3, .slice A0_4 l0_4.length c0_4, .slice A0_5 l0_5.length c0_5] 35 ?_; intro gb10 hg w2 hbox hb; have q := n4_ (below_step ψ52 hb) (hbox) ((ψ311 : w.heap.size ≤ gb10)) ((ψ311 : w.heap.size ≤ gb10)); clear HB; obtain ⟨HB, BK10, GW10, GE10⟩ := q; clear hb hbox hg))
 go_loopg [3, 4] k (fun kq v3 v4 w' => ∃ (x3_1 : Int) (x4_1 : Int), v3 = .int .i64 x3_1 ∧ v4 = .int .i64 x4_1 ∧ Aside0 (spec_l3Size.l0 kq x3_1 x4_1 a0_0 l0_1 l0_2 a0_3 l0_4 l0_5 = some r) ∧ Aside0 (kq ≤ k) ∧ Aside0 (w'.heap[gb10]? = some (.cells #[.int .i64 a0_0, (.slice A0_1 l0_1.length c0_1), (.slice A0_2 l0_2.length c0_2), .int .i64 a0_3, (.slice A0_4 l0_4.length c0_4), (.slice A0_5 l0_5.length c0_5)] 35 (0, 0))) ∧ Aside0 (Below w.heap.size w w'))
 case atStart => exact ⟨(1), (0), ψ0, ψ0, H', ⟨Nat.le_refl _⟩, ⟨ψ23⟩, ⟨ψ52⟩⟩
 case round =>
  clear H'
  try clear p2
  obtain ⟨x3_1, x4_1, rfl, rfl, HA, HK1, BK10, HB⟩ := hrel
  cases gk with
  | zero => exact absurd HA.out (by simp [spec_l3Size.l0])
  | succ k1 =>
   have H := HA.out
   clear HA
   simp only [spec_l3Size.l0] at H
   replace H := ifD H; rcases H with ⟨c3b0, H⟩ | ⟨c3b0, H⟩
   ·have H' := Aside0.mk H
    clear H
    obtain ⟨y4_0, y4_1, y4_2, y4_3, y4_4, y4_5, u4_0, u4_1, u4_2, u4_3, u4_4, u4_5⟩ := cells6 BK10.out
    go_wp2
    go_roundg k1
    case measure => have := HK1.out; omega
    case rel => exact ⟨(wrap64 (x3_1 * 2)), (wrap64 (x4_1 + 1)), ψ0, ψ0, H', ⟨ψ53⟩, ⟨ψ23⟩, ⟨ψ52⟩⟩
   ·obtain rfl := Option.some.inj H
    obtain ⟨y5_0, y5_1, y5_2, y5_3, y5_4, y5_5, u5_0, u5_1, u5_2, u5_3, u5_4, u5_5⟩ := cells6 BK10.out
    go_wp2
    go_ret
    exact ⟨ψ9, ψ52⟩

end Go.Proofs.Ytbjmhdoagjmmcaa.PCore

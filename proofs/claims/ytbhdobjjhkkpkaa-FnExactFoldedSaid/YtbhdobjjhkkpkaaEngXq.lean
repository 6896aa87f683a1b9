/- Contracts of functions, by the engine: what one value becomes, what two give. -/
import Derived.Test.YtbhdobjjhkkpkaaEngPa
import Derived.Test.YtbhdobjjhkkpkaaEngB4
import Derived.Test.YtbhdobjjhkkpkaaEngXb
import Derived.Test.YtbhdobjjhkkpkaaEngXa
namespace Go.Eng.C
open Go Go.Eng Go.RowKit Go.Proofs
set_option linter.unusedVariables false
set_option linter.unusedSimpArgs false
set_option maxRecDepth 10000
variable {X : FuncId → List AV → AV → List AV → Prop}
theorem nm_impl_truth : (Try.f192.name == "runtime.NumGoroutine") = false := by decide
theorem nm_impl_turn : (Try.f148.name == "runtime.NumGoroutine") = false := by decide
theorem nm_impl_join : (Try.f149.name == "runtime.NumGoroutine") = false := by decide
theorem truth {b : Bool} : Ev Try.prog X (.fn 192 [bl b] (i64 (if b = true then 1 else 0)) [.dead]) := by
  refine Ev.fnW (env := [(0, bl b)]) Try.func192 rfl nm_impl_truth rfl rfl (by kernel_rfl) (.cons rfl .nil) ?_
  cases b
  · refine go2 ?_
    exact retV rfl rfl rfl rfl
  · refine go2 ?_
    exact retV rfl rfl rfl rfl
theorem i64_neg (a : Int) (h0 : -256 ≤ a) (h1 : a ≤ 256) : IntKind.i64.wrap (0 - a) = -a := by
  have : IntKind.i64.wrap (0 - a) = wrap64 (0 - a) := by rw [Go.IntWalk.i64_left]
  rw [this, w64 (by omega) (by omega)]; omega
theorem shr_i64 {a b : Int} (k1 : b ≤ 8) : a.fdiv (2 ^ (min b.toNat IntKind.i64.bits)) = a.fdiv (2 ^ b.toNat) := by
  have hb : IntKind.i64.bits = 64 := rfl
  rw [show min b.toNat IntKind.i64.bits = b.toNat by omega]
theorem wrap_div {a b : Int} (h0 : 0 ≤ a) (k0 : 0 ≤ b) (h1 : a ≤ 256) : IntKind.i64.wrap (a.tdiv b) = a.tdiv b := by
  have h : 0 ≤ a.tdiv b := Int.tdiv_nonneg h0 k0
  have h2 : a.tdiv b ≤ a := Int.tdiv_le_self _ h0
  exact i64_small h (by omega)
theorem shl_i64 {a b : Int} (h0 : 0 ≤ a) (h1 : a ≤ 256) (k0 : 0 ≤ b) (k1 : b ≤ 8) : IntKind.i64.wrap (a * 2 ^ (min b.toNat IntKind.i64.bits)) = a * 2 ^ b.toNat := by
  have hb : IntKind.i64.bits = 64 := rfl
  rw [show min b.toNat IntKind.i64.bits = b.toNat by omega]
  have hp := pow8 (k := b.toNat) (by omega)
  have hp2 : (2 : Int) ^ b.toNat = ((2 ^ b.toNat : Nat) : Int) := by simp
  have hb0 : 0 ≤ a * 2 ^ b.toNat := Int.mul_nonneg h0 (by omega)
  have hb1 : a * 2 ^ b.toNat ≤ 256 * 256 := Int.mul_le_mul (by omega) (by omega) (by omega) (by decide)
  exact i64_small hb0 (by omega)
theorem shl_one {w : Int} (w1 : 1 ≤ w) (w8 : w ≤ 8) : IntKind.i64.wrap (1 * 2 ^ (min w.toNat IntKind.i64.bits)) = sizeW w := by
  rw [shl_i64 (by decide) (by decide) (by omega) w8]; unfold sizeW; omega
theorem turn (w op a : Int) (w1 : 1 ≤ w) (w8 : w ≤ 8) (hop : op = 3 ∨ op = 4) (h0 : 0 ≤ a) (h1 : a < sizeW w) : Ev Try.prog X (.fn 148 [i64 w, i64 op, i64 a] (i64 (tn w op a)) [.dead, .dead, .dead]) := by
  have hs := sizeW_bd w8
  refine Ev.fnW (env := [(0, i64 w), (1, i64 op), (2, i64 a)]) Try.func148 rfl nm_impl_turn rfl rfl (by kernel_rfl) (.cons rfl (.cons rfl (.cons rfl .nil))) ?_
  refine go2 ?_
  refine WO.shl (c := sizeW w) rfl rfl rfl (by omega) (shl_one w1 w8) rfl ?_
  rcases hop with rfl | rfl
  · refine go2 ?_
    refine WO.q rfl (QE.cpl (c := xorI (-1) a) rfl rfl) rfl rfl ?_
    refine go2 ?_
    refine WO.binG (op := .and) (k := .i64) (c := .int .i64 (andI (xorI (-1) a) (sizeW w - 1))) rfl rfl rfl rfl rfl rfl ?_
    refine go2 ?_
    exact retV rfl rfl rfl rfl
  · refine go2 ?_
    refine WO.q rfl (QE.neg (c := -a) rfl (i64_neg a (by omega) (by omega))) rfl rfl ?_
    refine go2 ?_
    refine WO.binG (op := .and) (k := .i64) (c := .int .i64 (andI (-a) (sizeW w - 1))) rfl rfl rfl rfl rfl rfl ?_
    refine go2 ?_
    exact retV rfl rfl rfl rfl
set_option maxHeartbeats 8000000 in
theorem join (w op a b : Int) (w1 : 1 ≤ w) (w8 : w ≤ 8) (g0 : 5 ≤ op) (g1 : op ≤ 16) (hz : op = 8 ∨ op = 9 → b ≠ 0) (h0 : 0 ≤ a) (h1 : a < sizeW w) (k0 : 0 ≤ b) (k1 : b < sizeW w) : Ev Try.prog X (.fn 149 [i64 w, i64 op, i64 a, i64 b] (i64 (jn w op a b)) [.dead, .dead, .dead, .dead]) := by
  have hs := sizeW_bd w8
  have hm := mul_bd h0 h1 k0 k1 hs.2
  have mm : bin64 .mul a b = some (.int .i64 (a * b)) := by
    simp only [bin64]; rw [w64 (by omega) (by omega)]
  refine Ev.fnW (env := [(0, i64 w), (1, i64 op), (2, i64 a), (3, i64 b)]) Try.func149 rfl nm_impl_join rfl rfl (by kernel_rfl) (.cons rfl (.cons rfl (.cons rfl (.cons rfl .nil)))) ?_
  refine go2 ?_
  refine WO.shl (c := sizeW w) rfl rfl rfl (by omega) (shl_one w1 w8) rfl ?_
  have hc : op = 5 ∨ op = 6 ∨ op = 7 ∨ op = 8 ∨ op = 9 ∨ op = 10 ∨ op = 11 ∨ op = 12 ∨ op = 13 ∨ op = 14 ∨ op = 15 ∨ op = 16 := by omega
  rcases hc with rfl | rfl | rfl | rfl | rfl | rfl | rfl | rfl | rfl | rfl | rfl | rfl
  · refine go2 ?_
    refine WO.binG (op := .and) (k := .i64) (c := .int .i64 (andI (a + b) (sizeW w - 1))) rfl rfl rfl rfl rfl rfl ?_
    refine go2 ?_
    exact retV rfl rfl rfl rfl
  · refine go2 ?_
    refine WO.binG (op := .and) (k := .i64) (c := .int .i64 (andI (a - b) (sizeW w - 1))) rfl rfl rfl rfl rfl rfl ?_
    refine go2 ?_
    exact retV rfl rfl rfl rfl
  · refine go2 ?_
    refine WO.q rfl (QE.bin rfl rfl mm rfl) rfl rfl ?_
    generalize hX : a * b = x at *
    refine go2 ?_
    refine WO.binG (op := .and) (k := .i64) (c := .int .i64 (andI x (sizeW w - 1))) rfl rfl rfl rfl rfl rfl ?_
    refine go2 ?_
    exact retV rfl (by subst hX; rfl) rfl rfl
  · refine go2 ?_
    have hb := hz (by decide)
    refine WO.binG (op := .quo) (k := .i64) (c := .int .i64 (IntKind.i64.wrap (a.tdiv b))) rfl rfl rfl (by simp [binG, hb]) rfl rfl ?_
    rw [show IntKind.i64.wrap (a.tdiv b) = a.tdiv b from wrap_div h0 k0 (by omega)]
    refine go2 ?_
    exact retV rfl rfl rfl rfl
  · refine go2 ?_
    have hb := hz (by decide)
    refine WO.binG (op := .rem) (k := .i64) (c := .int .i64 (a.tmod b)) rfl rfl rfl (by simp [binG, hb]) rfl rfl ?_
    refine go2 ?_
    exact retV rfl rfl rfl rfl
  · refine go2 ?_
    refine WO.binG (op := .and) (k := .i64) (c := .int .i64 (andI a b)) rfl rfl rfl rfl rfl rfl ?_
    refine go2 ?_
    exact retV rfl rfl rfl rfl
  · refine go2 ?_
    refine WO.binG (op := .or) (k := .i64) (c := .int .i64 (orI a b)) rfl rfl rfl rfl rfl rfl ?_
    refine go2 ?_
    exact retV rfl rfl rfl rfl
  · refine go2 ?_
    refine WO.binG (op := .xor) (k := .i64) (c := .int .i64 (xorI a b)) rfl rfl rfl rfl rfl rfl ?_
    refine go2 ?_
    exact retV rfl rfl rfl rfl
  · by_cases hb : w ≤ b
    · have e : jn w 13 a b = 0 := by simp [jn, hb]
      rw [e]
      refine go2 ?_
      exact retV rfl rfl rfl rfl
    · have e : jn w 13 a b = andI (a * 2 ^ b.toNat) (sizeW w - 1) := by simp [jn, hb]
      rw [e]
      refine go2 ?_
      refine WO.shl (c := a * 2 ^ b.toNat) rfl rfl rfl k0 (shl_i64 h0 (by omega) k0 (by omega)) rfl ?_
      refine go2 ?_
      refine WO.binG (op := .and) (k := .i64) (c := .int .i64 (andI (a * 2 ^ b.toNat) (sizeW w - 1))) rfl rfl rfl rfl rfl rfl ?_
      refine go2 ?_
      exact retV rfl rfl rfl rfl
  · by_cases hb : w ≤ b
    · have e : jn w 14 a b = 0 := by simp [jn, hb]
      rw [e]
      refine go2 ?_
      exact retV rfl rfl rfl rfl
    · have e : jn w 14 a b = a.fdiv (2 ^ b.toNat) := by simp [jn, hb]
      rw [e]
      refine go2 ?_
      refine WO.shr (c := a.fdiv (2 ^ b.toNat)) rfl rfl rfl k0 (shr_i64 (by omega)) rfl ?_
      refine go2 ?_
      exact retV rfl rfl rfl rfl
  · by_cases hb : a = b
    · have e : jn w 15 a b = 1 := by simp [jn, hb]
      rw [e]
      refine go2 ?_
      refine WO.call rfl rfl rfl (truth (b := true)) rfl rfl ?_
      refine go2 ?_
      exact retV rfl rfl rfl rfl
    · have e : jn w 15 a b = 0 := by simp [jn, hb]
      rw [e]
      refine go2 ?_
      refine WO.call rfl rfl rfl (truth (b := false)) rfl rfl ?_
      refine go2 ?_
      exact retV rfl rfl rfl rfl
  · by_cases hb : a < b
    · have e : jn w 16 a b = 1 := by simp [jn, hb]
      rw [e]
      refine go2 ?_
      refine WO.call rfl rfl rfl (truth (b := true)) rfl rfl ?_
      refine go2 ?_
      exact retV rfl rfl rfl rfl
    · have e : jn w 16 a b = 0 := by simp [jn, hb]
      rw [e]
      refine go2 ?_
      refine WO.call rfl rfl rfl (truth (b := false)) rfl rfl ?_
      refine go2 ?_
      exact retV rfl rfl rfl rfl
end Go.Eng.C

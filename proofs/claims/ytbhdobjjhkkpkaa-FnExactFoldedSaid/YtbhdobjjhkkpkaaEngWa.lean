/- Contracts of functions, by the engine: the reference's reckoning, of all widths; surroundings, right or not. -/
import Derived.Test.YtbhdobjjhkkpkaaEngXs
import Derived.Test.YtbhdobjjhkkpkaaEngXh
import Derived.Test.YtbhdobjjhkkpkaaEngB4
namespace Go.Eng.C
open Go Go.Eng Go.RowKit Go.Proofs
set_option linter.unusedVariables false
set_option linter.unusedSimpArgs false
set_option maxRecDepth 10000
variable {X : FuncId → List AV → AV → List AV → Prop}
theorem nm_spec_l5Bit : (Try.f190.name == "runtime.NumGoroutine") = false := by decide
theorem nm_spec_l5Shift : (Try.f189.name == "runtime.NumGoroutine") = false := by decide
theorem nm_spec_l5Bits : (Try.f188.name == "runtime.NumGoroutine") = false := by decide
theorem nm_spec_l5Op : (Try.f141.name == "runtime.NumGoroutine") = false := by decide
theorem nm_spec_l5Values : (Try.f137.name == "runtime.NumGoroutine") = false := by decide
theorem nm_spec_EnvOk : (Try.f67.name == "runtime.NumGoroutine") = false := by decide
theorem l5Bit {b : Bool} : Ev Try.prog X (.fn 190 [bl b] (i64 (if b = true then 1 else 0)) [.dead]) := by
  refine Ev.fnW (env := [(0, bl b)]) Try.func190 rfl nm_spec_l5Bit rfl rfl (by kernel_rfl) (.cons rfl .nil) ?_
  cases b
  · refine go2 ?_
    exact retV rfl rfl rfl rfl
  · refine go2 ?_
    exact retV rfl rfl rfl rfl
theorem up_step (a S : Int) (k : Nat) : (a * 2 % S) * 2 ^ k % S = a * 2 ^ (k + 1) % S := by
  rw [Int.mul_emod, Int.emod_emod_of_dvd _ (Int.dvd_refl S), ← Int.mul_emod, Int.pow_succ]
  congr 1
  rw [Int.mul_assoc, Int.mul_comm 2]
theorem down_step (a : Int) (k : Nat) : (a / 2) / 2 ^ k = a / 2 ^ (k + 1) := by
  rw [Int.ediv_ediv_of_nonneg (by omega), Int.pow_succ, Int.mul_comm]
theorem l5ShiftU (S a : Int) (k : Nat) (hS : 0 < S) (hS2 : S ≤ 256) (h0 : 0 ≤ a) (h1 : a < S) (hk : k ≤ 256) : Ev Try.prog X (.fn 189 [i64 S, i64 a, i64 k, bl true] (i64 (a * 2 ^ k % S)) [.dead, .dead, .dead, .dead]) := by
  refine Ev.fnW (env := [(0, i64 S), (1, i64 a), (2, i64 k), (3, bl true)]) Try.func189 rfl nm_spec_l5Shift rfl rfl (by kernel_rfl) (.cons rfl (.cons rfl (.cons rfl (.cons rfl .nil)))) ?_
  refine go3 ?_
  refine WC.loopS (S := Int × Nat) (fun s => [(0, i64 S), (1, i64 s.1), (2, i64 s.2), (3, bl true)]) (fun s => 0 ≤ s.1 ∧ s.1 < S ∧ s.1 * 2 ^ s.2 % S = a * 2 ^ k % S ∧ s.2 ≤ 256) (fun s => s.2) (a, k) (.cons rfl (.cons rfl (.cons rfl (.cons rfl .nil)))) ⟨h0, h1, rfl, hk⟩ ?_
  rintro ⟨b, m⟩ ⟨q0, q1, q2, q3⟩
  dsimp only at q0 q1 q2 q3 ⊢
  refine go3 ?_
  refine WO.cmp rfl rfl rfl rfl rfl (fun h3 => ?_) (fun h3 => ?_)
  · obtain ⟨m, rfl⟩ : ∃ m', m = m' + 1 := ⟨m - 1, by omega⟩
    refine go3 ?_
    refine WO.cmp rfl rfl rfl rfl rfl (fun h4 => ?_) (fun h4 => ?_)
    · have e1 : ((m + 1 : Nat) : Int) - 1 = m := by omega
      refine go3 ?_
      rw [e1]
      exact lpK.mk (b * 2 % S, m) (.cons rfl (.cons rfl (.cons rfl (.cons rfl .nil)))) ⟨Int.emod_nonneg _ (by omega), Int.emod_lt_of_pos _ hS, by dsimp only; rw [up_step]; exact q2, by dsimp only; omega⟩ (by dsimp only; omega)
    · have : b = 0 := by omega
      subst this
      rw [← q2]
      refine go3 ?_
      exact retV rfl (by simp) rfl rfl
  · have : m = 0 := by omega
    subst this
    rw [← q2]
    refine go3 ?_
    exact retV rfl (by rw [Int.pow_zero, Int.mul_one, Int.emod_eq_of_lt q0 q1]) rfl rfl
theorem l5ShiftD (S a : Int) (k : Nat) (h0 : 0 ≤ a) (h1 : a < S) (hS2 : S ≤ 256) (hk : k ≤ 256) : Ev Try.prog X (.fn 189 [i64 S, i64 a, i64 k, bl false] (i64 (a / 2 ^ k)) [.dead, .dead, .dead, .dead]) := by
  refine Ev.fnW (env := [(0, i64 S), (1, i64 a), (2, i64 k), (3, bl false)]) Try.func189 rfl nm_spec_l5Shift rfl rfl (by kernel_rfl) (.cons rfl (.cons rfl (.cons rfl (.cons rfl .nil)))) ?_
  refine go3 ?_
  refine WC.loopS (S := Int × Nat) (fun s => [(0, i64 S), (1, i64 s.1), (2, i64 s.2), (3, bl false)]) (fun s => 0 ≤ s.1 ∧ s.1 < S ∧ s.1 / 2 ^ s.2 = a / 2 ^ k ∧ s.2 ≤ 256) (fun s => s.2) (a, k) (.cons rfl (.cons rfl (.cons rfl (.cons rfl .nil)))) ⟨h0, h1, rfl, hk⟩ ?_
  rintro ⟨b, m⟩ ⟨q0, q1, q2, q3⟩
  dsimp only at q0 q1 q2 q3 ⊢
  refine go3 ?_
  refine WO.cmp rfl rfl rfl rfl rfl (fun h3 => ?_) (fun h3 => ?_)
  · obtain ⟨m, rfl⟩ : ∃ m', m = m' + 1 := ⟨m - 1, by omega⟩
    refine go3 ?_
    refine WO.cmp rfl rfl rfl rfl rfl (fun h4 => ?_) (fun h4 => ?_)
    · have e1 : ((m + 1 : Nat) : Int) - 1 = m := by omega
      refine go3 ?_
      rw [e1]
      exact lpK.mk (b / 2, m) (.cons rfl (.cons rfl (.cons rfl (.cons rfl .nil)))) ⟨by dsimp only; omega, by dsimp only; omega, by dsimp only; rw [down_step]; exact q2, by dsimp only; omega⟩ (by dsimp only; omega)
    · have : b = 0 := by omega
      subst this
      rw [← q2]
      refine go3 ?_
      exact retV rfl (by simp) rfl rfl
  · have : m = 0 := by omega
    subst this
    rw [← q2]
    refine go3 ?_
    exact retV rfl (by rw [Int.pow_zero, Int.ediv_one]) rfl rfl
theorem bit_cast (a U : Nat) : (a : Int) / (U : Int) % 2 = ((a / U % 2 : Nat) : Int) := by
  rw [Int.natCast_emod, Int.natCast_ediv]; rfl
theorem bitO_small : ∀ how : Fin 3, ∀ x y : Fin 2, bitO how.val x.val y.val = if how.val = 0 then x.val * y.val else if how.val = 1 then max x.val y.val else (x.val + y.val) % 2 := by decide
set_option maxHeartbeats 8000000 in
theorem l5Bits (k : Nat) (hk : k ≤ 8) (a b how : Nat) (ha : a < 2 ^ k) (hb : b < 2 ^ k) (hh : how ≤ 2) : Ev Try.prog X (.fn 188 [i64 ((2 ^ k : Nat) : Int), i64 a, i64 b, i64 how] (i64 (bitO how a b : Nat)) [.dead, .dead, .dead, .dead]) := by
  have hp := pow8 hk
  refine Ev.fnW (env := [(0, i64 ((2 ^ k : Nat) : Int)), (1, i64 a), (2, i64 b), (3, i64 how)]) Try.func188 rfl nm_spec_l5Bits rfl rfl (by kernel_rfl) (.cons rfl (.cons rfl (.cons rfl (.cons rfl .nil)))) ?_
  refine go3 ?_
  refine WC.loopS (S := Nat × Nat × Nat) (fun s => [(0, i64 ((2 ^ k : Nat) : Int)), (1, i64 a), (2, i64 b), (3, i64 how), (9, i64 s.2.1), (10, i64 s.2.2)]) (fun s => s.1 ≤ k ∧ s.2.1 = bitO how (a % 2 ^ s.1) (b % 2 ^ s.1) ∧ s.2.2 = 2 ^ s.1) (fun s => k - s.1) (0, 0, 1) (.cons rfl (.cons rfl (.cons rfl (.cons rfl (.cons rfl (.cons rfl .nil)))))) ⟨Nat.zero_le _, by simp [Nat.mod_one, bitO], rfl⟩ ?_
  rintro ⟨j, n, U⟩ ⟨q0, q1, q2⟩
  dsimp only at q0 q1 q2 ⊢
  have hU : 0 < U := by rw [q2]; exact Nat.two_pow_pos j
  have hn : n < U := by rw [q1, q2]; exact bitO_lt (Nat.mod_lt _ (Nat.two_pow_pos j)) (Nat.mod_lt _ (Nat.two_pow_pos j))
  have hnx := bitO_next how a b j
  refine go3 ?_
  refine WO.cmp rfl rfl rfl rfl rfl (fun h3 => ?_) (fun h3 => ?_)
  · have hj : j < k := by
      rcases Nat.lt_or_ge j k with h | h
      · exact h
      · have : 2 ^ k ≤ 2 ^ j := Nat.pow_le_pow_right (by omega) h
        omega
    rw [← q1, ← q2] at hnx
    have hx2 : a / U % 2 < 2 := Nat.mod_lt _ (by omega)
    have hy2 : b / U % 2 < 2 := Nat.mod_lt _ (by omega)
    refine go3 ?_
    rw [bit_cast, bit_cast]
    generalize a / U % 2 = x at hnx hx2 ⊢
    generalize b / U % 2 = y at hnx hy2 ⊢
    have hs := bitO_small ⟨how, by omega⟩ ⟨x, hx2⟩ ⟨y, hy2⟩
    dsimp only at hs
    rw [hs] at hnx
    have hxy : (x = 0 ∨ x = 1) ∧ (y = 0 ∨ y = 1) := by omega
    have hhow : how = 0 ∨ how = 1 ∨ how = 2 := by omega
    have hU2 : 2 ^ (j + 1) = U * 2 := by rw [q2, Nat.pow_succ]
    have hU256 : U ≤ 256 := by omega
    obtain ⟨hx, hy⟩ := hxy
    clear q2 hs
    have fin : ∀ m : Nat, m = bitO how (a % 2 ^ (j + 1)) (b % 2 ^ (j + 1)) → (j + 1 ≤ k ∧ m = bitO how (a % 2 ^ (j + 1)) (b % 2 ^ (j + 1)) ∧ U * 2 = 2 ^ (j + 1)) := fun m hm => ⟨hj, hm, hU2.symm⟩
    have fe : ((U : Int) * 2) = ((U * 2 : Nat) : Int) := by omega
    rcases hhow with rfl | rfl | rfl <;> rcases hx with rfl | rfl <;> rcases hy with rfl | rfl <;> simp only [reduceIte, Nat.reduceEqDiff, Nat.zero_mul, Nat.mul_zero, Nat.one_mul, Nat.mul_one, Nat.max_self, Nat.zero_max, Nat.max_zero, Nat.zero_add, Nat.add_zero, Nat.reduceAdd, Nat.reduceMod] at hnx
    all_goals
      refine go3 ?_
      first
        | (rw [fe]; exact lpK.mk (j + 1, _, U * 2) (.cons rfl (.cons rfl (.cons rfl (.cons rfl (.cons (congrArg i64 (by dsimp only; omega)) (.cons rfl .nil)))))) (fin _ hnx.symm) (by dsimp only; omega))
        | (refine WO.call rfl rfl rfl (l1Max _ _) rfl rfl ?_
           first
           | rw [show max ((0 : Nat) : Int) ((0 : Nat) : Int) = ((0 : Nat) : Int) from rfl]
           | rw [show max ((0 : Nat) : Int) ((1 : Nat) : Int) = ((1 : Nat) : Int) from rfl]
           | rw [show max ((1 : Nat) : Int) ((0 : Nat) : Int) = ((1 : Nat) : Int) from rfl]
           | rw [show max ((1 : Nat) : Int) ((1 : Nat) : Int) = ((1 : Nat) : Int) from rfl]
           refine go3 ?_
           rw [fe]
           exact lpK.mk (j + 1, _, U * 2) (.cons rfl (.cons rfl (.cons rfl (.cons rfl (.cons (congrArg i64 (by dsimp only; omega)) (.cons rfl .nil)))))) (fin _ hnx.symm) (by dsimp only; omega))
  · have : j = k := by
      rcases Nat.lt_or_ge j k with h | h
      · have : 2 ^ (j + 1) ≤ 2 ^ k := Nat.pow_le_pow_right (by omega) h
        rw [Nat.pow_succ] at this
        omega
      · omega
    subst this
    rw [Nat.mod_eq_of_lt ha, Nat.mod_eq_of_lt hb] at q1
    rw [← q1]
    refine go3 ?_
    exact retV rfl rfl rfl rfl
set_option maxHeartbeats 8000000 in
theorem l5Op (w op a b : Int) (w1 : 1 ≤ w) (w8 : w ≤ 8) (g0 : 5 ≤ op) (g1 : op ≤ 16) (h0 : 0 ≤ a) (h1 : a < sizeW w) (k0 : 0 ≤ b) (k1 : b < sizeW w) : Ev Try.prog X (.fn 141 [i64 (sizeW w), i64 op, i64 a, i64 b] (i64 (if b = 0 ∧ (op = 8 ∨ op = 9) then 0 else jn w op a b)) [.dead, .dead, .dead, .dead]) := by
  have hs := sizeW_bd w8
  have hm := mul_bd h0 h1 k0 k1 hs.2
  have hN := sizeW_nat (w := w)
  have hj := jn10 (w := w) a.toNat b.toNat (by omega) (by omega)
  have ea := Int.toNat_of_nonneg h0
  have eb := Int.toNat_of_nonneg k0
  rw [ea, eb] at hj
  have hb3 : ∀ how ≤ 2, Ev Try.prog X (.fn 188 [i64 (sizeW w), i64 a, i64 b, i64 (how : Nat)] (i64 (bitO how a.toNat b.toNat : Nat)) [.dead, .dead, .dead, .dead]) := fun how hh => by
    have := l5Bits (X := X) w.toNat (by omega) a.toNat b.toNat how (by omega) (by omega) hh
    rw [ea, eb, ← hN] at this
    exact this
  refine Ev.fnW (env := [(0, i64 (sizeW w)), (1, i64 op), (2, i64 a), (3, i64 b)]) Try.func141 rfl nm_spec_l5Op rfl rfl (by kernel_rfl) (.cons rfl (.cons rfl (.cons rfl (.cons rfl .nil)))) ?_
  have hc : op = 5 ∨ op = 6 ∨ op = 7 ∨ op = 8 ∨ op = 9 ∨ op = 10 ∨ op = 11 ∨ op = 12 ∨ op = 13 ∨ op = 14 ∨ op = 15 ∨ op = 16 := by omega
  rcases hc with rfl | rfl | rfl | rfl | rfl | rfl | rfl | rfl | rfl | rfl | rfl | rfl
  · rw [if_neg (by omega), jn5 w8 h0 h1 k0 k1]
    refine go3 ?_
    exact retV rfl rfl rfl rfl
  · rw [if_neg (by omega), jn6 w8 h0 h1 k0 k1]
    refine go3 ?_
    exact retV rfl rfl rfl rfl
  · rw [if_neg (by omega), jn7 w8 h0 h1 k0 k1]
    refine go3 ?_
    exact retV rfl rfl rfl rfl
  · by_cases hb : b = 0
    · rw [if_pos ⟨hb, .inl rfl⟩]
      refine go3 ?_
      exact retV rfl rfl rfl rfl
    · rw [if_neg (by omega)]
      refine go3 ?_
      exact retV rfl (by show i64 (a / b) = i64 (a.tdiv b); rw [Int.tdiv_eq_ediv_of_nonneg h0]) rfl rfl
  · by_cases hb : b = 0
    · rw [if_pos ⟨hb, .inr rfl⟩]
      refine go3 ?_
      exact retV rfl rfl rfl rfl
    · rw [if_neg (by omega)]
      refine go3 ?_
      exact retV rfl (by show i64 (a % b) = i64 (a.tmod b); rw [Int.tmod_eq_emod_of_nonneg h0]) rfl rfl
  · rw [if_neg (by omega), hj.1]
    refine go3 ?_
    refine WO.call rfl rfl rfl (hb3 0 (by omega)) rfl rfl ?_
    refine go3 ?_
    exact retV rfl rfl rfl rfl
  · rw [if_neg (by omega), hj.2.1]
    refine go3 ?_
    refine WO.call rfl rfl rfl (hb3 1 (by omega)) rfl rfl ?_
    refine go3 ?_
    exact retV rfl rfl rfl rfl
  · rw [if_neg (by omega), hj.2.2]
    refine go3 ?_
    refine WO.call rfl rfl rfl (hb3 2 (by omega)) rfl rfl ?_
    refine go3 ?_
    exact retV rfl rfl rfl rfl
  · rw [if_neg (by omega), jn13 w8 h0 h1 k0]
    have hsh := l5ShiftU (X := X) (sizeW w) a b.toNat hs.1 hs.2 h0 h1 (by omega)
    rw [eb] at hsh
    refine go3 ?_
    refine WO.call rfl rfl rfl hsh rfl rfl ?_
    refine go3 ?_
    exact retV rfl rfl rfl rfl
  · rw [if_neg (by omega), jn14 h0 h1 k0]
    have hsh := l5ShiftD (X := X) (sizeW w) a b.toNat h0 h1 hs.2 (by omega)
    rw [eb] at hsh
    refine go3 ?_
    refine WO.call rfl rfl rfl hsh rfl rfl ?_
    refine go3 ?_
    exact retV rfl rfl rfl rfl
  · rw [if_neg (by omega)]
    by_cases hb : a = b
    · have e : jn w 15 a b = 1 := by simp [jn, hb]
      rw [e]
      refine go3 ?_
      refine WO.call rfl rfl rfl (l5Bit (b := true)) rfl rfl ?_
      refine go3 ?_
      exact retV rfl rfl rfl rfl
    · have e : jn w 15 a b = 0 := by simp [jn, hb]
      rw [e]
      refine go3 ?_
      refine WO.call rfl rfl rfl (l5Bit (b := false)) rfl rfl ?_
      refine go3 ?_
      exact retV rfl rfl rfl rfl
  · rw [if_neg (by omega)]
    by_cases hb : a < b
    · have e : jn w 16 a b = 1 := by simp [jn, hb]
      rw [e]
      refine go3 ?_
      refine WO.call rfl rfl rfl (l5Bit (b := true)) rfl rfl ?_
      refine go3 ?_
      exact retV rfl rfl rfl rfl
    · have e : jn w 16 a b = 0 := by simp [jn, hb]
      rw [e]
      refine go3 ?_
      refine WO.call rfl rfl rfl (l5Bit (b := false)) rfl rfl ?_
      refine go3 ?_
      exact retV rfl rfl rfl rfl
theorem l5Op1 (w op a : Int) (w1 : 1 ≤ w) (w8 : w ≤ 8) (hop : op = 3 ∨ op = 4) (h0 : 0 ≤ a) (h1 : a < sizeW w) : Ev Try.prog X (.fn 141 [i64 (sizeW w), i64 op, i64 a, i64 0] (i64 (tn w op a)) [.dead, .dead, .dead, .dead]) := by
  have hs := sizeW_bd w8
  refine Ev.fnW (env := [(0, i64 (sizeW w)), (1, i64 op), (2, i64 a), (3, i64 0)]) Try.func141 rfl nm_spec_l5Op rfl rfl (by kernel_rfl) (.cons rfl (.cons rfl (.cons rfl (.cons rfl .nil)))) ?_
  rcases hop with rfl | rfl
  · rw [tn3 w8 h0 h1]
    refine go3 ?_
    exact retV rfl rfl rfl rfl
  · rw [tn4 w8 h0 h1]
    refine go3 ?_
    exact retV rfl rfl rfl rfl
/-- All are values. -/
theorem l5Values (l : List Int) (hl : l.length ≤ 4194304) (n S : Int) (hS : 0 ≤ S) (hS2 : S ≤ 256) {r : Bool} (hr : r = true ↔ (l.length : Int) = n ∧ ∀ x ∈ l, 0 ≤ x ∧ x < S) : Ev Try.prog X (.fn 137 [.im l.length (encL eI l), i64 n, i64 S] (bl r) [.dead, .dead, .dead]) := by
  refine Ev.fnW (env := [(0, .im l.length (encL eI l)), (1, i64 n), (2, i64 S)]) Try.func137 rfl nm_spec_l5Values rfl rfl (by kernel_rfl) (.cons rfl (.cons rfl (.cons rfl .nil))) ?_
  refine go3 ?_
  refine WO.cmp rfl rfl rfl rfl rfl (fun h => ?_) (fun h => ?_)
  · refine go3 ?_
    exact retV rfl (by have : r = false := by (cases r <;> simp_all)
                       rw [this]) rfl rfl
  refine go3 ?_
  refine WC.loopS (S := Nat) (fun i => [(0, .im l.length (encL eI l)), (2, i64 S), (7, i64 i)]) (fun i => i ≤ l.length ∧ ∀ j < i, 0 ≤ l.getD j 0 ∧ l.getD j 0 < S) (fun i => l.length - i) 0 (.cons rfl (.cons rfl (.cons rfl .nil))) ⟨Nat.zero_le _, fun j hj => by omega⟩ ?_
  rintro i ⟨g1, g2⟩
  refine go3 ?_
  refine WO.cmp rfl rfl rfl rfl rfl (fun h3 => ?_) (fun h3 => ?_)
  · have hi : i < l.length := by omega
    have hmem : l.getD i 0 ∈ l := by simp [List.getD_eq_getElem?_getD, hi]
    refine go3 ?_
    refine WO.ixN (f := eI) 0 rfl rfl rfl hi rfl ?_
    refine go3 ?_
    refine WO.callB rfl rfl rfl (l1In (l.getD i 0) 0 (S - 1)) rfl (fun hq => ?_) (fun hq => ?_)
    · refine go3 ?_
      have nx : i + 1 ≤ l.length ∧ ∀ j < i + 1, 0 ≤ l.getD j 0 ∧ l.getD j 0 < S := ⟨hi, fun j hj => by
        by_cases e : j < i
        · exact g2 j e
        · have : j = i := by omega
          subst this; omega⟩
      exact lpK.mk (i + 1) (.cons rfl (.cons rfl (.cons rfl .nil))) nx (show l.length - (i + 1) < l.length - i by omega)
    · refine go3 ?_
      exact retV rfl (by have : r = false := by
                           rw [Bool.eq_false_iff]; intro h'
                           have := (hr.1 h').2 _ hmem; omega
                         rw [this]) rfl rfl
  · have : i = l.length := by omega
    subst this
    refine go3 ?_
    exact retV rfl (by have : r = true := hr.2 ⟨by omega, fun x hx => by
                         obtain ⟨j, hj, rfl⟩ := List.getElem_of_mem hx
                         have := g2 j hj
                         simpa [List.getD_eq_getElem?_getD, hj] using this⟩
                       rw [this]) rfl rfl
set_option maxHeartbeats 8000000 in
theorem specEnvOk (p : Pr) (v : Vs) (hB : PB p) (hl1 : v.vars.length ≤ 4194304) (hl2 : v.cells.length ≤ 4194304) (hl3 : ∀ c ∈ v.cells, c.length ≤ 4194304) {r : Bool} (hr : r = true ↔ PrOk p ∧ EOk p v) : Ev Try.prog X (.fn 67 [.ag (prR p), .ag (enR v)] (bl r) [.dead, .dead]) := by
  refine Ev.fnW (env := [(0, .ag (prR p)), (1, .ag (enR v))]) Try.func67 rfl nm_spec_EnvOk rfl rfl (by kernel_rfl) (.cons rfl (.cons rfl .nil)) ?_
  refine go2 ?_
  refine WC.regionDd ⟨[[], [0], [0, 1], [0, 1, 2], [0, 1, 2, 3], [0, 1, 2, 3, 4], [0, 1, 2, 3], [0, 1, 2, 3, 6], [0, 1, 2, 3], [0, 1, 2, 3, 6, 7, 8], [0, 1, 2, 3, 4, 5, 6, 7, 8, 9], [0, 1, 2, 3, 4, 5, 6, 7, 8, 9, 10], [0, 1, 2, 3, 4, 5, 6, 7, 8, 9, 10, 11], [0, 1, 2, 3, 4, 5, 6, 7, 8, 9, 10, 11, 12], [0, 1, 2, 3, 4, 5, 6, 7, 8, 9, 10, 11, 12, 13], [0, 1, 2, 3, 4, 5, 6, 7, 8, 9, 10, 11, 12, 13, 14], [0, 1, 2, 3, 4, 5, 6, 7, 8, 9, 10, 11, 12, 13, 14, 15], [0, 1, 2, 3, 4, 5, 6, 7, 8, 9, 10, 11, 12, 13], [0, 1, 2, 3, 4, 5, 6, 7, 8, 9, 10, 11, 12, 13, 17], [0, 1, 2, 3, 4, 5, 6, 7, 8, 9, 10, 11, 12, 13, 17, 18], [0, 1, 2, 3, 4, 5, 6, 7, 8, 9, 10, 11, 12, 13, 14, 15, 16, 17, 18, 19], [0, 1, 2, 3, 4, 5, 6, 7, 8, 9, 10, 11, 12, 13, 14, 15, 16, 17, 18, 19, 20]], [0, 2, 3, 4, 5, 6, 7, 8, 9, 11, 12, 13, 14, 15, 16, 17, 18, 19, 20, 21], [], [6, 8, 9, 10, 11, 12, 13, 14, 15, 17, 18, 19, 20, 21, 22, 23, 24, 25, 26, 27], [0, 1, 2, 3, 4, 5, 6, 7, 8, 9, 10, 11, 12, 13, 14, 15, 16, 17, 18, 19, 20, 21], [([], [], false), ([], [], false), ([], [], false), ([], [], false), ([12, 13, 14, 15], [12, 13, 14, 15], false), ([12, 13, 14, 15], [12, 13, 14, 15], false), ([10, 11, 14], [10, 11, 14], false), ([10, 11, 14], [10, 11, 14], false), ([10, 11, 12, 13], [10, 11, 12, 13], false), ([10, 11], [10, 11], false), ([], [], false), ([], [], false), ([], [], false), ([], [], false), ([23, 24, 25], [23, 24, 25], false), ([23, 24, 25], [23, 24, 25], false), ([23, 24, 25], [23, 24, 25], false), ([20, 21, 22], [20, 21, 22], false), ([20, 21, 22], [20, 21, 22], false), ([20, 21, 22], [20, 21, 22], false), ([], [], false), ([], [], false)]⟩ (by kernel_rfl) ?_
  refine go2 ?_
  refine WO.callB rfl rfl rfl (specProgOk p hB) rfl (fun hp => ?_) (fun hp => ?_)
  · obtain ⟨r1, r2, r3, r4, r5⟩ := hp.r
    have hs := sizeW_bd hp.w8
    refine go2 ?_
    refine WD.call rfl rfl rfl rfl rfl rfl rfl (l3Vars p hB.l hB.s (by omega) (by omega)) rfl rfl rfl ?_
    refine go2 ?_
    refine WD.call rfl rfl rfl rfl rfl rfl rfl (l3Size p (by have := hp.w0; omega) hp.w8) rfl rfl rfl ?_
    refine go2 ?_
    refine WO.callB rfl rfl rfl (l5Values v.vars hl1 (varsN p) (sizeW p.w) (by omega) (by omega)) rfl (fun hv => ?_) (fun hv => ?_)
    · refine go2 ?_
      refine WD.cmp rfl rfl rfl rfl rfl rfl rfl rfl rfl rfl (fun hc => ?_) (fun hc => ?_)
      · refine go2 ?_
        exact retV rfl (by have : r = false := by
                             rw [Bool.eq_false_iff]; intro h'
                             have := (hr.1 h').2.m; omega
                           rw [this]) rfl rfl
      · have hcl : v.cells.length = p.arrs.length := by omega
        refine go2 ?_
        refine WC.loopS (S := Nat) (fun i => [(2, .op (prR p)), (3, .op (enR v)), (5, i64 i)]) (fun i => i ≤ v.cells.length ∧ ∀ j < i, ((v.cells.getD j []).length : Int) = p.arrs.getD j 0 ∧ ∀ x ∈ v.cells.getD j [], 0 ≤ x ∧ x < sizeW p.w) (fun i => v.cells.length - i) 0 (.cons rfl (.cons rfl (.cons rfl .nil))) ⟨Nat.zero_le _, fun j hj => by omega⟩ ?_
        rintro i ⟨g1, g2⟩
        refine go2 ?_
        refine WO.cmp rfl rfl rfl rfl rfl (fun h3 => ?_) (fun h3 => ?_)
        · have hi : i < v.cells.length := by omega
          have hi2 : i < p.arrs.length := by omega
          have hmem : v.cells.getD i [] ∈ v.cells := by simp [List.getD_eq_getElem?_getD, hi]
          refine go2 ?_
          refine WC.regionDd ⟨[[], [0], [], [0, 1, 2], [0, 1, 2, 3], [], [5], [], [5, 6, 7], [5, 6, 7, 8], [], [10], [0, 1, 2, 3, 4, 5, 6, 7, 8, 9, 10, 11], [0, 1, 2, 3, 4, 5, 6, 7, 8, 9, 10, 11, 12]], [0, 1, 2, 3, 4, 5, 6, 7, 8, 9, 10, 11, 13], [], [35, 36, 37, 38, 39, 40, 41, 42, 43, 44, 45, 46, 48], [0, 1, 2, 3, 4, 5, 6, 7, 8, 9, 10, 11, 12, 13], [([37, 40, 41, 42, 43, 44, 45, 46], [37, 40, 41, 42, 43, 44, 45, 46], false), ([37, 40, 41, 42, 43, 44, 45, 46], [37, 40, 41, 42, 43, 44, 45, 46], false), ([35, 36, 40, 41, 42, 43, 44, 45, 46], [35, 36, 40, 41, 42, 43, 44, 45, 46], false), ([40, 41, 42, 43, 44, 45, 46], [40, 41, 42, 43, 44, 45, 46], false), ([40, 41, 42, 43, 44, 45, 46], [40, 41, 42, 43, 44, 45, 46], false), ([35, 36, 37, 38, 39, 42, 45, 46], [35, 36, 37, 38, 39, 42, 45, 46], false), ([35, 36, 37, 38, 39, 42, 45, 46], [35, 36, 37, 38, 39, 42, 45, 46], false), ([35, 36, 37, 38, 39, 40, 41, 45, 46], [35, 36, 37, 38, 39, 40, 41, 45, 46], false), ([35, 36, 37, 38, 39, 45, 46], [35, 36, 37, 38, 39, 45, 46], false), ([35, 36, 37, 38, 39, 45, 46], [35, 36, 37, 38, 39, 45, 46], false), ([35, 36, 37, 38, 39, 40, 41, 42, 43, 44], [35, 36, 37, 38, 39, 40, 41, 42, 43, 44], false), ([35, 36, 37, 38, 39, 40, 41, 42, 43, 44], [35, 36, 37, 38, 39, 40, 41, 42, 43, 44], false), ([], [], false), ([], [], false)]⟩ (by kernel_rfl) ?_
          refine go2 ?_
          refine WD.q rfl rfl rfl rfl rfl (QE.ixN (f := eRow) [] rfl rfl hi) rfl rfl rfl ?_
          refine go2 ?_
          refine WD.q rfl rfl rfl rfl rfl (QE.ixN (f := eI) 0 rfl rfl hi2) rfl rfl rfl ?_
          refine go2 ?_
          refine WD.call rfl rfl rfl rfl rfl rfl rfl (l3Size p (by have := hp.w0; omega) hp.w8) rfl rfl rfl ?_
          refine go2 ?_
          refine WO.callB rfl rfl rfl (l5Values (v.cells.getD i []) (hl3 _ hmem) (p.arrs.getD i 0) (sizeW p.w) (by omega) (by omega)) rfl (fun hq => ?_) (fun hq => ?_)
          · refine go2 ?_
            have nx : i + 1 ≤ v.cells.length ∧ ∀ j < i + 1, ((v.cells.getD j []).length : Int) = p.arrs.getD j 0 ∧ ∀ x ∈ v.cells.getD j [], 0 ≤ x ∧ x < sizeW p.w := ⟨hi, fun j hj => by
              by_cases e : j < i
              · exact g2 j e
              · have : j = i := by omega
                subst this; exact hq⟩
            exact lpK.mk (i + 1) (.cons rfl (.cons rfl (.cons rfl .nil))) nx (show v.cells.length - (i + 1) < v.cells.length - i by omega)
          · refine go2 ?_
            exact retV rfl (by have : r = false := by
                                 rw [Bool.eq_false_iff]; intro h'
                                 exact hq ((hr.1 h').2.c i hi2)
                               rw [this]) rfl rfl
        · have : i = v.cells.length := by omega
          subst this
          refine go2 ?_
          exact retV rfl (by have : r = true := hr.2 ⟨hp, ⟨hv.1, hv.2, hcl, fun j hj => g2 j (by omega)⟩⟩
                             rw [this]) rfl rfl
    · refine go2 ?_
      exact retV rfl (by have : r = false := by
                           rw [Bool.eq_false_iff]; intro h'
                           exact hv ⟨(hr.1 h').2.n, (hr.1 h').2.vs⟩
                         rw [this]) rfl rfl
  · refine go2 ?_
    exact retV rfl (by have : r = false := by
                         rw [Bool.eq_false_iff]; intro h'
                         exact hp (hr.1 h').1
                       rw [this]) rfl rfl
end Go.Eng.C

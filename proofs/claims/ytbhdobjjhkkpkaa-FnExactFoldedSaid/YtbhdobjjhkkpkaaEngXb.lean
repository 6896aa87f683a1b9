/- Contracts of functions, by the engine: sizes and bits of programs. -/
import Derived.Test.YtbhdobjjhkkpkaaEngPa
import Derived.Test.YtbhdobjjhkkpkaaEngXa
import Derived.Test.YtbhdobjjhkkpkaaEngV1
namespace Go.Eng.C
open Go Go.Eng Go.RowKit Go.Proofs
set_option linter.unusedVariables false
set_option linter.unusedSimpArgs false
set_option maxRecDepth 10000
variable {X : FuncId → List AV → AV → List AV → Prop}
def inp (x : Inp) : List AV := [i64 x.max, i64 x.bud]
instance : Wid inp 2 := ⟨fun _ => rfl⟩
instance : Pl inp := ⟨fun _ => rfl⟩
/-- A statement, only read. -/
def stR (s : St) : List AV := [i64 s.op, i64 s.n, .im s.pl.length (encL tm s.pl), .im s.ex.length (encL tm s.ex)]
instance : Wid stR 4 := ⟨fun _ => rfl⟩
instance : Pl stR := ⟨fun _ => rfl⟩
/-- A program, only read: its cells. -/
def prR (p : Pr) : List AV := [i64 p.w, .im p.lows.length (encL inp p.lows), .im p.secs.length (encL inp p.secs), i64 p.temps, .im p.arrs.length (encL eI p.arrs), .im p.body.length (encL stR p.body)]
theorem nm_spec_l3Size : (Try.f138.name == "runtime.NumGoroutine") = false := by decide
theorem nm_spec_l3Vars : (Try.f82.name == "runtime.NumGoroutine") = false := by decide
theorem pow_step (i : Nat) : (2 : Int) ^ (i + 1) = 2 ^ i * 2 := Int.pow_succ 2 i
theorem l3Vars (p : Pr) (h1 : p.lows.length ≤ 1048576) (h2 : p.secs.length ≤ 1048576) (h3 : -1048576 ≤ p.temps) (h4 : p.temps ≤ 1048576) : Ev Try.prog X (.fn 82 [.ag (prR p)] (i64 (varsN p)) [.dead]) := by
  refine Ev.fnW (env := [(0, .ag (prR p))]) Try.func82 rfl nm_spec_l3Vars rfl rfl (by kernel_rfl) (.cons rfl .nil) ?_
  refine go ?_
  refine WO.boxA rfl rfl rfl rfl rfl ?_
  refine go ?_
  exact retV rfl (congrArg i64 (show _ = varsN p by simp only [varsN, insN]; omega)) rfl rfl
theorem l3Size (p : Pr) (h0 : 0 ≤ p.w) (h1 : p.w ≤ 8) : Ev Try.prog X (.fn 138 [.ag (prR p)] (i64 (sizeW p.w)) [.dead]) := by
  refine Ev.fnW (env := [(0, .ag (prR p))]) Try.func138 rfl nm_spec_l3Size rfl rfl (by kernel_rfl) (.cons rfl .nil) ?_
  obtain ⟨w, hw⟩ := Int.eq_ofNat_of_zero_le h0
  refine go ?_
  refine WO.boxA rfl rfl rfl rfl rfl ?_
  refine go ?_
  refine WC.loopS (S := Nat × Int) (fun s => [(1, .op (prR p)), (4, i64 s.1), (3, i64 s.2)]) (fun s => s.1 ≤ w ∧ s.2 = 2 ^ s.1 ∧ s.2 ≤ 256) (fun s => w - s.1) (0, 1) (.cons rfl (.cons rfl (.cons rfl .nil))) ⟨by simp, by simp, by simp⟩ ?_
  rintro ⟨i, n⟩ ⟨g1, g2, g3⟩
  dsimp only at g1 g2 g3 ⊢
  refine go ?_
  refine WO.cmp rfl rfl rfl rfl rfl (fun h3 => ?_) (fun h3 => ?_)
  · refine go ?_
    have hp : 0 ≤ n := by rw [g2]; exact Int.pow_nonneg (by decide)
    have hn : n * 2 ≤ 256 := by
      have hi : i + 1 ≤ 8 := by omega
      have : (2 : Int) ^ (i + 1) ≤ 2 ^ 8 := by
        have := Nat.pow_le_pow_right (n := 2) (by decide) hi
        exact_mod_cast this
      rw [pow_step, ← g2] at this; omega
    refine WO.bin (c := .int .i64 (wrap64 (n * 2))) rfl rfl rfl rfl rfl rfl ?_
    rw [w64 (n := n * 2) (by omega) (by omega)]
    refine go ?_
    exact lpK.mk (i + 1, n * 2) (.cons rfl (.cons rfl (.cons rfl .nil))) ⟨by dsimp only; omega, by dsimp only; rw [pow_step, g2], hn⟩ (by dsimp only; omega)
  · refine go ?_
    have : i = w := by omega
    exact retV rfl (congrArg i64 (show n = sizeW p.w by rw [sizeW, hw, g2, this]; rfl)) rfl rfl
theorem nm_spec_l3Room : (Try.f113.name == "runtime.NumGoroutine") = false := by decide
theorem l3Room (p : Pr) (h1 : p.arrs.length ≤ 1152921504606846976) {r : Bool} (hr : r = true ↔ roomOk p) : Ev Try.prog X (.fn 113 [.ag (prR p)] (bl r) [.dead]) := by
  have no : ¬ roomOk p → AV.sc (.bool false) = bl r := fun hn => bool_eq hr (by simp [hn])
  refine Ev.fnW (env := [(0, .ag (prR p))]) Try.func113 rfl nm_spec_l3Room rfl rfl (by kernel_rfl) (.cons rfl .nil) ?_
  refine go ?_
  refine WO.boxA rfl rfl rfl rfl rfl ?_
  refine go ?_
  by_cases ht : 0 ≤ p.temps ∧ p.temps ≤ 6
  · refine WO.call rfl rfl rfl (l1In p.temps 0 6 (r := true) (by simp [ht])) rfl rfl ?_
    refine go ?_
    refine WO.cmp rfl rfl rfl rfl rfl (fun h3 => ?_) (fun h3 => ?_)
    · refine go ?_
      exact retV rfl (no fun h => by have := h.2.2.1; omega) rfl rfl
    refine go ?_
    refine WO.cmp rfl rfl rfl rfl rfl (fun h4 => ?_) (fun h4 => ?_)
    · refine go ?_
      exact retV rfl (no fun h => by have := h.2.2.2.1; omega) rfl rfl
    refine go ?_
    refine WC.loopS (S := Nat) (fun i => [(1, .op (prR p)), (3, i64 i)]) (fun i => i ≤ p.arrs.length ∧ ∀ j < i, 1 ≤ p.arrs.getD j 0 ∧ p.arrs.getD j 0 ≤ 6) (fun i => p.arrs.length - i) 0 (.cons rfl (.cons rfl .nil)) ⟨by simp, by simp⟩ ?_
    rintro i ⟨g1, g2⟩
    refine go ?_
    refine WO.cmp rfl rfl rfl rfl rfl (fun h5 => ?_) (fun h5 => ?_)
    · have hi : i < p.arrs.length := by omega
      refine go ?_
      refine WO.ixN (f := eI) 0 rfl rfl rfl hi rfl ?_
      refine go ?_
      by_cases ha : 1 ≤ p.arrs.getD i 0 ∧ p.arrs.getD i 0 ≤ 6
      · refine WO.call rfl rfl rfl (l1In (p.arrs.getD i 0) 1 6 (r := true) (by simp only [ha, and_self])) rfl rfl ?_
        refine go ?_
        refine lpK.mk (i + 1) (.cons rfl (.cons rfl .nil)) ⟨by omega, fun j hj => ?_⟩ (by omega)
        by_cases e : j = i
        · subst e; exact ha
        · exact g2 j (by omega)
      · refine WO.call rfl rfl rfl (l1In (p.arrs.getD i 0) 1 6 (r := false) (by simp only [ha, iff_false]; simp)) rfl rfl ?_
        refine go ?_
        exact retV rfl (no fun h => ha (h.2.2.2.2 _ (by simp [List.getD_eq_getElem?_getD, hi]))) rfl rfl
    · refine go ?_
      have ok : roomOk p := ⟨ht.1, ht.2, by omega, by omega, fun n hn => by
        obtain ⟨j, hj⟩ := List.getElem?_of_mem hn
        have hlt : j < p.arrs.length := (List.getElem?_eq_some_iff.1 hj).1
        have := g2 j (by omega)
        simpa [List.getD_eq_getElem?_getD, hj] using this⟩
      exact retV rfl (bool_eq hr (by simp [ok])) rfl rfl
  · refine WO.call rfl rfl rfl (l1In p.temps 0 6 (r := false) (by simp; omega)) rfl rfl ?_
    refine go ?_
    exact retV rfl (no fun h => ht ⟨h.1, h.2.1⟩) rfl rfl
theorem nm_spec_l3Is : (Try.f206.name == "runtime.NumGoroutine") = false := by decide
def zs : St := ⟨0, 0, [], []⟩
/-- There is this Op at the place. -/
def isAt (x : List St) (a c : Int) : Prop := 0 ≤ a ∧ a < x.length ∧ (x.getD a.toNat zs).op = c
theorem l3Is (x : List St) (a c : Int) (hx : x.length ≤ 1152921504606846976) {r : Bool} (hr : r = true ↔ isAt x a c) : Ev Try.prog X (.fn 206 [.im x.length (encL stR x), i64 a, i64 c] (bl r) [.dead, .dead, .dead]) := by
  have no : ¬ isAt x a c → AV.sc (.bool false) = bl r := fun hn => bool_eq hr (by simp [hn])
  refine Ev.fnW (env := [(0, .im x.length (encL stR x)), (1, i64 a), (2, i64 c)]) Try.func206 rfl nm_spec_l3Is rfl rfl (by kernel_rfl) (.cons rfl (.cons rfl (.cons rfl .nil))) ?_
  refine go ?_
  by_cases ha : 0 ≤ a ∧ a ≤ (x.length : Int) - 1
  · refine WO.call rfl rfl rfl (l1In a 0 ((x.length : Int) - 1) (r := true) (by simp [ha])) rfl rfl ?_
    refine go ?_
    refine WO.ixI (f := stR) rfl zs rfl rfl (by omega) (by omega) rfl ?_
    refine go ?_
    refine WO.cmp rfl rfl rfl rfl rfl (fun h3 => ?_) (fun h3 => ?_)
    · refine go ?_
      exact retV rfl (bool_eq hr (by simp only [true_iff]; exact ⟨ha.1, by omega, h3⟩)) rfl rfl
    · refine go ?_
      exact retV rfl (no fun h => h3 h.2.2) rfl rfl
  · refine WO.call rfl rfl rfl (l1In a 0 ((x.length : Int) - 1) (r := false) (by simp only [ha, iff_false]; simp)) rfl rfl ?_
    refine go ?_
    exact retV rfl (no fun h => ha ⟨h.1, by have := h.2.1; omega⟩) rfl rfl
theorem nm_spec_l3Bits : (Try.f172.name == "runtime.NumGoroutine") = false := by decide
theorem bits_step {m : Int} (h : 0 < m) : bitsN m.toNat = 1 + bitsN (m / 2).toNat := by
  rw [bitsN, dif_neg (by omega)]
  congr 2; omega
theorem quo2 {m : Int} (h : 0 ≤ m) (h1 : m ≤ 4611686018427387904) : Eng.binG .quo .i64 m 2 = some (.int .i64 (m / 2)) := by
  simp only [Eng.binG, if_neg (show ¬ (2 : Int) = 0 by decide), Int.tdiv_eq_ediv_of_nonneg h]
  rw [i64_small (by omega) (by omega)]
theorem l3Bits (n : Int) (h0 : 0 ≤ n) (h1 : n ≤ 1099511627776) : Ev Try.prog X (.fn 172 [i64 n] (i64 (bitsN n.toNat)) [.dead]) := by
  refine Ev.fnW (env := [(0, i64 n)]) Try.func172 rfl nm_spec_l3Bits rfl rfl (by kernel_rfl) (.cons rfl .nil) ?_
  refine go ?_
  refine WC.loopS (S := Int × Int) (fun s => [(0, i64 s.1), (3, i64 s.2)]) (fun s => 0 ≤ s.1 ∧ 0 ≤ s.2 ∧ s.2 ≤ n - s.1 ∧ s.2 + bitsN s.1.toNat = bitsN n.toNat) (fun s => s.1.toNat) (n, 0) (.cons rfl (.cons rfl .nil)) ⟨h0, by simp, by simp, by simp⟩ ?_
  rintro ⟨m, k⟩ ⟨g1, g2, g3, g4⟩
  dsimp only at g1 g2 g3 g4 ⊢
  refine go ?_
  refine WO.cmp rfl rfl rfl rfl rfl (fun h5 => ?_) (fun h5 => ?_)
  · rw [bits_step (by omega)] at g4
    refine go ?_
    refine WO.binG rfl rfl rfl (quo2 g1 (by omega)) rfl rfl ?_
    refine go ?_
    exact lpK.mk (m / 2, k + 1) (.cons rfl (.cons rfl .nil)) ⟨by dsimp only; omega, by dsimp only; omega, by dsimp only; omega, by dsimp only; omega⟩ (by dsimp only; omega)
  · have : m = 0 := by omega
    subst this
    have e : bitsN (0 : Int).toNat = 0 := by rw [bitsN]; simp
    refine go ?_
    exact retV rfl (congrArg i64 (show k = bitsN n.toNat by omega)) rfl rfl
theorem nm_impl_bitsOf : (Try.f170.name == "runtime.NumGoroutine") = false := by decide
theorem implBitsOf (n : Int) (h0 : 0 ≤ n) (h1 : n ≤ 1099511627776) : Ev Try.prog X (.fn 170 [i64 n] (i64 (bitsN n.toNat)) [.dead]) := by
  refine Ev.fnW (env := [(0, i64 n)]) Try.func170 rfl nm_impl_bitsOf rfl rfl (by kernel_rfl) (.cons rfl .nil) ?_
  refine go ?_
  refine WC.loopS (S := Int × Int) (fun s => [(0, i64 s.1), (3, i64 s.2)]) (fun s => 0 ≤ s.1 ∧ 0 ≤ s.2 ∧ s.2 ≤ n - s.1 ∧ s.2 + bitsN s.1.toNat = bitsN n.toNat) (fun s => s.1.toNat) (n, 0) (.cons rfl (.cons rfl .nil)) ⟨h0, by simp, by simp, by simp⟩ ?_
  rintro ⟨m, k⟩ ⟨g1, g2, g3, g4⟩
  dsimp only at g1 g2 g3 g4 ⊢
  refine go ?_
  refine WO.cmp rfl rfl rfl rfl rfl (fun h5 => ?_) (fun h5 => ?_)
  · rw [bits_step (by omega)] at g4
    refine go ?_
    refine WO.binG rfl rfl rfl (quo2 g1 (by omega)) rfl rfl ?_
    refine go ?_
    exact lpK.mk (m / 2, k + 1) (.cons rfl (.cons rfl .nil)) ⟨by dsimp only; omega, by dsimp only; omega, by dsimp only; omega, by dsimp only; omega⟩ (by dsimp only; omega)
  · have : m = 0 := by omega
    subst this
    have e : bitsN (0 : Int).toNat = 0 := by rw [bitsN]; simp
    refine go ?_
    exact retV rfl (congrArg i64 (show k = bitsN n.toNat by omega)) rfl rfl
theorem nm_impl_greatest : (Try.f146.name == "runtime.NumGoroutine") = false := by decide
theorem pow_small {w : Int} (h0 : 0 ≤ w) (h1 : w ≤ 8) : 1 ≤ sizeW w ∧ sizeW w ≤ 256 := by
  obtain ⟨n, rfl⟩ := Int.eq_ofNat_of_zero_le h0
  have : ∀ n ≤ 8, 1 ≤ (2 : Int) ^ n ∧ (2 : Int) ^ n ≤ 256 := by decide
  exact this n (by omega)
theorem greatest (p : Pr) (h0 : 0 ≤ p.w) (h1 : p.w ≤ 8) : Ev Try.prog X (.fn 146 [.ip (prR p)] (i64 (sizeW p.w - 1)) [.dead]) := by
  have hs := pow_small h0 h1
  have hw : IntKind.i64.wrap (1 * 2 ^ (min p.w.toNat IntKind.i64.bits)) = sizeW p.w := by
    rw [Nat.min_eq_left (show p.w.toNat ≤ IntKind.i64.bits by simp [IntKind.bits]; omega), Int.one_mul]
    exact i64_small (by have := hs.1; unfold sizeW at this; omega) (by have := hs.2; unfold sizeW at this; omega)
  refine Ev.fnW (env := [(0, .ip (prR p))]) Try.func146 rfl nm_impl_greatest rfl rfl (by kernel_rfl) (.cons rfl .nil) ?_
  refine go ?_
  refine WO.shl rfl rfl rfl h0 hw rfl ?_
  refine go ?_
  exact retV rfl rfl rfl rfl
end Go.Eng.C

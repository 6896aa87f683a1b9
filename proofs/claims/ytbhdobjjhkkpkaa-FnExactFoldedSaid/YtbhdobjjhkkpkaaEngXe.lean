/- Contracts of functions, by the engine: what makes a program right, of the reference. -/
import Derived.Test.YtbhdobjjhkkpkaaEngXb
namespace Go.Eng.C
open Go Go.Eng Go.RowKit Go.Proofs
set_option linter.unusedVariables false
set_option linter.unusedSimpArgs false
set_option maxRecDepth 10000
variable {X : FuncId → List AV → AV → List AV → Prop}
theorem nm_spec_l3Inputs : (Try.f111.name == "runtime.NumGoroutine") = false := by decide
theorem nm_spec_l3AllBits : (Try.f112.name == "runtime.NumGoroutine") = false := by decide
theorem nm_spec_l3Names : (Try.f68.name == "runtime.NumGoroutine") = false := by decide
theorem nm_spec_l3Exp : (Try.f92.name == "runtime.NumGoroutine") = false := by decide
theorem nm_spec_l3Stmt : (Try.f173.name == "runtime.NumGoroutine") = false := by decide
theorem nm_spec_l3Stmts : (Try.f114.name == "runtime.NumGoroutine") = false := by decide
def zi : Inp := ⟨0, 0⟩
theorem getD_mem {α : Type} {l : List α} {i : Nat} (h : i < l.length) (d : α) : l.getD i d ∈ l := by
  simp [List.getD_eq_getElem?_getD, h]
theorem all_of_getD {α : Type} {l : List α} {P : α → Prop} (d : α) (h : ∀ j < l.length, P (l.getD j d)) : ∀ x ∈ l, P x := by
  intro x hx
  obtain ⟨j, hj⟩ := List.getElem?_of_mem hx
  have hlt := (List.getElem?_eq_some_iff.1 hj).1
  have := h j hlt
  simpa [List.getD_eq_getElem?_getD, hj] using this
set_option maxHeartbeats 8000000 in
theorem l3Inputs (p : Pr) (h0 : 1 ≤ p.w) (h8 : p.w ≤ 8) (l : List Inp) (hl : l.length ≤ 1048576) (low : Bool) {r : Bool} (hr : r = true ↔ (∀ x ∈ l, inOk p.w low x) ∧ l.length ≤ 3) : Ev Try.prog X (.fn 111 [.ag (prR p), .im l.length (encL inp l), bl low] (bl r) [.dead, .dead, .dead]) := by
  have hsz := pow_small (w := p.w) (by omega) h8
  refine Ev.fnW (env := [(0, .ag (prR p)), (1, .im l.length (encL inp l)), (2, bl low)]) Try.func111 rfl nm_spec_l3Inputs rfl rfl (by kernel_rfl) (.cons rfl (.cons rfl (.cons rfl .nil))) ?_
  refine go ?_
  refine WO.boxA rfl rfl rfl rfl rfl ?_
  refine go ?_
  refine WC.loopS (S := Nat) (fun i => [(1, .im l.length (encL inp l)), (2, bl low), (3, .op (prR p)), (7, i64 i)]) (fun i => i ≤ l.length ∧ ∀ j < i, inOk p.w low (l.getD j zi)) (fun i => l.length - i) 0 (.cons rfl (.cons rfl (.cons rfl (.cons rfl .nil)))) ⟨by simp, by simp⟩ ?_
  rintro i ⟨g1, g2⟩
  refine go ?_
  refine WO.cmp rfl rfl rfl rfl rfl (fun h3 => ?_) (fun h3 => ?_)
  · have hi : i < l.length := by omega
    have bad : ¬ inOk p.w low (l.getD i zi) → AV.sc (.bool false) = bl r := fun hb => bool_eq hr (by simp only [Bool.false_eq_true, false_iff]; exact fun h => hb (h.1 _ (getD_mem hi zi)))
    have good : inOk p.w low (l.getD i zi) → i + 1 ≤ l.length ∧ ∀ j < i + 1, inOk p.w low (l.getD j zi) := fun hg => ⟨by omega, fun j hj => by
      by_cases e : j = i
      · subst e; exact hg
      · exact g2 j (by omega)⟩
    unfold inOk at bad good
    refine go ?_
    refine WC.regionD ⟨[[], [], [0, 1], [0, 1, 2], [0, 1, 2, 3], [], [5], [5, 6], [0, 1, 2, 3, 4, 5, 6, 7], [0, 1, 2, 3, 4, 5, 6, 7, 8], [0, 1, 2, 3, 4, 5, 6, 7, 8, 9], [0, 1, 2, 3, 4, 5, 6, 7, 8, 9, 10], [0, 1, 2, 3, 4, 5, 6, 7, 8, 9, 10], [0, 1, 2, 3, 4, 5, 6, 7, 8, 9, 10, 11, 12], [0, 1, 2, 3, 4, 5, 6, 7, 8, 9, 10, 11, 12, 13], [0, 1, 2, 3, 4, 5, 6, 7, 8, 9, 10, 11, 12, 13, 14], [0, 1, 2, 3, 4, 5, 6, 7, 8, 9, 10, 11, 12, 13, 14, 15], [0, 1, 2, 3, 4, 5, 6, 7, 8, 9, 10, 11, 12, 13, 14, 15, 16], [0, 1, 2, 3, 4, 5, 6, 7, 8, 9, 10, 11, 12, 13, 14, 15, 16, 17], [0, 1, 2, 3, 4, 5, 6, 7, 8, 9, 10, 11, 12, 13, 14, 15, 16, 17, 18], [0, 1, 2, 3, 4, 5, 6, 7, 8, 9, 10, 11, 12, 13, 14, 15, 16, 17, 18, 19], [0, 1, 2, 3, 4, 5, 6, 7, 8, 9, 10, 11, 12, 13, 14, 15, 16, 17, 18, 19, 20], [0, 1, 2, 3, 4, 5, 6, 7, 8, 9, 10, 11, 12, 13, 14, 15, 16, 17, 18, 19, 20, 21], [0, 1, 2, 3, 4, 5, 6, 7, 8, 9, 10, 11, 12, 13, 14, 15, 16, 17, 18, 19, 20, 21], [0, 1, 2, 3, 4, 5, 6, 7, 8, 9, 10, 11, 12, 13, 14, 15, 16, 17, 18, 19, 20, 21, 22, 23], [0, 1, 2, 3, 4, 5, 6, 7, 8, 9, 10, 11, 12, 13, 14, 15, 16, 17, 18, 19, 20, 21, 22, 23, 24], [0, 1, 2, 3, 4, 5, 6, 7, 8, 9, 10, 11, 12, 13, 14, 15, 16, 17, 18, 19, 20, 21, 22, 23, 24, 25], [0, 1, 2, 3, 4, 5, 6, 7, 8, 9, 10, 11, 12, 13, 14, 15, 16, 17, 18, 19, 20, 21, 22, 23, 24, 25, 26], [0, 1, 2, 3, 4, 5, 6, 7, 8, 9, 10, 11, 12, 13, 14, 15, 16, 17, 18, 19, 20, 21, 22, 23, 24, 25, 26, 27], [0, 1, 2, 3, 4, 5, 6, 7, 8, 9, 10, 11, 12, 13, 14, 15, 16, 17, 18, 19, 20, 21, 22, 23, 24, 25, 26, 27, 28]], [0, 1, 2, 3, 4, 5, 6, 7, 9, 10, 11, 12, 13, 14, 15, 17, 18, 19, 20, 21, 22, 23, 24, 25, 26, 27, 28, 29], [], [14, 15, 16, 17, 18, 19, 20, 21, 23, 24, 25, 26, 27, 28, 29, 31, 32, 33, 34, 35, 36, 37, 38, 39, 40, 41, 42, 43], [0, 1, 2, 3, 4, 5, 6, 7, 8, 9, 10, 11, 12, 13, 14, 15, 16, 17, 18, 19, 20, 21, 22, 23, 24, 25, 26, 27, 28, 29], [([15, 19, 20, 21], [15, 19, 20, 21], false), ([14, 19, 20, 21], [14, 19, 20, 21], false), ([19, 20, 21], [19, 20, 21], false), ([19, 20, 21], [19, 20, 21], false), ([19, 20, 21], [19, 20, 21], false), ([14, 15, 16, 17, 18], [14, 15, 16, 17, 18], false), ([14, 15, 16, 17, 18], [14, 15, 16, 17, 18], false), ([14, 15, 16, 17, 18], [14, 15, 16, 17, 18], false), ([], [], false), ([], [], false), ([], [], false), ([26], [26], false), ([25], [25], false), ([], [], false), ([], [], false), ([], [], false), ([], [], false), ([], [], false), ([], [], false), ([], [], false), ([], [], false), ([], [], false), ([37], [37], false), ([36], [36], false), ([], [], false), ([], [], false), ([], [], false), ([], [], false), ([], [], false), ([], [], false)]⟩ (by kernel_rfl) rfl ?_
    refine go ?_
    generalize hX : l.getD i zi = x at *
    cases low <;> (
      refine WD.q rfl rfl rfl rfl rfl (QE.ixN (f := inp) zi rfl rfl hi) rfl rfl rfl ?_
      rw [hX]
      refine go ?_
      refine WD.call rfl rfl rfl rfl rfl rfl rfl (l3Size p (by omega) h8) rfl rfl rfl ?_
      refine go ?_
      repeat' (first
        | exact retV rfl (bad (fun h => by obtain ⟨h1, h2, h3, h4, h5⟩ := h; first | omega | (have := h5 rfl; omega))) rfl rfl
        | exact lpK.mk (i + 1) (.cons rfl (.cons rfl (.cons rfl (.cons rfl .nil)))) (good (by refine ⟨by omega, by omega, by omega, by omega, ?_⟩; first | (intro; omega) | simp)) (by omega)
        | (refine WD.q rfl rfl rfl rfl rfl (QE.ixN (f := inp) zi rfl rfl hi) rfl rfl rfl ?_; rw [hX]; refine go ?_)
        | (refine WO.callB rfl rfl rfl (l1In _ _ _) rfl (fun _ => ?_) (fun _ => ?_) <;> refine go ?_)
        | (refine WD.cmp rfl rfl rfl rfl rfl rfl rfl rfl rfl rfl (fun _ => ?_) (fun _ => ?_) <;> refine go ?_)))
  · refine go ?_
    refine WO.cmp rfl rfl rfl rfl rfl (fun h4 => ?_) (fun h4 => ?_)
    · refine go ?_
      exact retV rfl (bool_eq hr (by simp only [true_iff]; exact ⟨all_of_getD zi fun j hj => g2 j (by omega), by omega⟩)) rfl rfl
    · refine go ?_
      exact retV rfl (bool_eq hr (by simp only [Bool.false_eq_true, false_iff]; omega)) rfl rfl
set_option maxHeartbeats 8000000 in
theorem l3AllBits (p : Pr) (h1 : p.lows.length ≤ 3) (h2 : p.secs.length ≤ 3) (g1 : ∀ x ∈ p.lows, 0 ≤ x.max ∧ x.max ≤ 255) (g2 : ∀ x ∈ p.secs, 0 ≤ x.max ∧ x.max ≤ 255) : Ev Try.prog X (.fn 112 [.ag (prR p)] (i64 (sumBits p.lows + sumBits p.secs)) [.dead]) := by
  have b1 : ∀ i, 0 ≤ sumBits (p.lows.take i) ∧ sumBits (p.lows.take i) ≤ 765 := fun i => by
    have := sumBits_le (p.lows.take i) (fun x hx => g1 x (List.mem_of_mem_take hx))
    simp at this; omega
  have b2 : ∀ i, 0 ≤ sumBits (p.secs.take i) ∧ sumBits (p.secs.take i) ≤ 765 := fun i => by
    have := sumBits_le (p.secs.take i) (fun x hx => g2 x (List.mem_of_mem_take hx))
    simp at this; omega
  refine Ev.fnW (env := [(0, .ag (prR p))]) Try.func112 rfl nm_spec_l3AllBits rfl rfl (by kernel_rfl) (.cons rfl .nil) ?_
  refine go ?_
  refine WO.boxA rfl rfl rfl rfl rfl ?_
  refine go ?_
  refine WC.loopS (S := Nat × Int) (fun s => [(1, .op (prR p)), (3, i64 s.2), (4, i64 s.1)]) (fun s => s.1 ≤ p.lows.length ∧ s.2 = sumBits (p.lows.take s.1)) (fun s => p.lows.length - s.1) (0, 0) (.cons rfl (.cons rfl (.cons rfl .nil))) ⟨by simp, by simp [sumBits]⟩ ?_
  rintro ⟨i, n⟩ ⟨e1, e2⟩
  dsimp only at e1 e2 ⊢
  have e3 := b1 i
  refine go ?_
  refine WO.cmp rfl rfl rfl rfl rfl (fun h3 => ?_) (fun h3 => ?_)
  · have hi : i < p.lows.length := by omega
    have hm := g1 _ (getD_mem hi zi)
    have hb := bitsN_le (p.lows.getD i zi).max.toNat
    refine go ?_
    refine WO.ixN (f := inp) zi rfl rfl rfl hi rfl ?_
    refine go ?_
    refine WO.call rfl rfl rfl (l3Bits _ hm.1 (by omega)) rfl rfl ?_
    refine go ?_
    exact lpK.mk (i + 1, n + bitsN (p.lows.getD i zi).max.toNat) (.cons rfl (.cons rfl (.cons rfl .nil))) ⟨by dsimp only; omega, by dsimp only; rw [sumBits_take _ _ hi zi, e2]⟩ (by dsimp only; omega)
  have hi : i = p.lows.length := by omega
  rw [hi, List.take_length] at e2
  have e4 := b1 p.lows.length
  rw [List.take_length, ← e2] at e4
  refine go ?_
  refine WC.loopS (S := Nat × Int) (fun s => [(1, .op (prR p)), (3, i64 s.2), (5, i64 s.1)]) (fun s => s.1 ≤ p.secs.length ∧ s.2 = n + sumBits (p.secs.take s.1)) (fun s => p.secs.length - s.1) (0, n) (.cons rfl (.cons rfl (.cons rfl .nil))) ⟨by simp, by simp [sumBits]⟩ ?_
  clear h3 e1 e3 hi
  rintro ⟨i, m⟩ ⟨e1, e5⟩
  dsimp only at e1 e5 ⊢
  have e3 := b2 i
  refine go ?_
  refine WO.cmp rfl rfl rfl rfl rfl (fun h3 => ?_) (fun h3 => ?_)
  · have hi : i < p.secs.length := by omega
    have hm := g2 _ (getD_mem hi zi)
    have hb := bitsN_le (p.secs.getD i zi).max.toNat
    refine go ?_
    refine WO.ixN (f := inp) zi rfl rfl rfl hi rfl ?_
    refine go ?_
    refine WO.call rfl rfl rfl (l3Bits _ hm.1 (by omega)) rfl rfl ?_
    refine go ?_
    exact lpK.mk (i + 1, m + bitsN (p.secs.getD i zi).max.toNat) (.cons rfl (.cons rfl (.cons rfl .nil))) ⟨by dsimp only; omega, by dsimp only; rw [sumBits_take _ _ hi zi, e5]; omega⟩ (by dsimp only; omega)
  have hi : i = p.secs.length := by omega
  rw [hi, List.take_length] at e5
  refine go ?_
  exact retV rfl (congrArg i64 (by omega)) rfl rfl
set_option maxHeartbeats 8000000 in
theorem l3Names (p : Pr) (h0 : 1 ≤ p.w) (h8 : p.w ≤ 8) (hB : PB p) (ht0 : 0 ≤ p.temps) (ht1 : p.temps ≤ 6) (e : List Tm) (he : e.length ≤ 1048576) {r : Bool} (hr : r = true ↔ reckOk p e) : Ev Try.prog X (.fn 68 [.ag (prR p), .im e.length (encL tm e)] (bl r) [.dead, .dead]) := by
  have hl1 := hB.l; have hl2 := hB.s; have hl3 := hB.a
  refine Ev.fnW (env := [(0, .ag (prR p)), (1, .im e.length (encL tm e))]) Try.func68 rfl nm_spec_l3Names rfl rfl (by kernel_rfl) (.cons rfl (.cons rfl .nil)) ?_
  refine go ?_
  refine WO.boxA rfl rfl rfl rfl rfl ?_
  refine go ?_
  refine WO.call rfl rfl rfl (specExpOk e (by omega)) rfl rfl ?_
  cases hE : expOk e
  · refine go ?_
    exact retV rfl (bool_eq hr (by simp [reckOk, hE])) rfl rfl
  refine go ?_
  refine WC.loopS (S := Nat) (fun i => [(1, .im e.length (encL tm e)), (2, .op (prR p)), (5, i64 i)]) (fun i => i ≤ e.length ∧ ∀ j < i, nameOk p (e.getD j zt)) (fun i => e.length - i) 0 (.cons rfl (.cons rfl (.cons rfl .nil))) ⟨by simp, by simp⟩ ?_
  rintro i ⟨g1, g2⟩
  refine go ?_
  refine WO.cmp rfl rfl rfl rfl rfl (fun h3 => ?_) (fun h3 => ?_)
  · have hi : i < e.length := by omega
    have bad : ¬ nameOk p (e.getD i zt) → AV.sc (.bool false) = bl r := fun hb => bool_eq hr (by simp only [Bool.false_eq_true, false_iff]; exact fun h => hb (h.2 _ (getD_mem hi zt)))
    have good : nameOk p (e.getD i zt) → i + 1 ≤ e.length ∧ ∀ j < i + 1, nameOk p (e.getD j zt) := fun hg => ⟨by omega, fun j hj => by
      by_cases e : j = i
      · subst e; exact hg
      · exact g2 j (by omega)⟩
    refine go ?_
    refine WO.ixN (f := tm) zt rfl rfl rfl hi rfl ?_
    generalize hX : e.getD i zt = t at *
    unfold nameOk at bad good
    refine go ?_
    refine WO.cmp rfl rfl rfl rfl rfl (fun c0 => ?_) (fun c0 => ?_)
    · refine go ?_
      refine WC.regionD ⟨[[], [], [0, 1], [0, 1, 2], [0, 1, 2, 3], [], [5], [0, 1, 2, 3, 4, 5, 6]], [0, 1, 2, 3, 4, 5, 6, 7], [], [22, 23, 24, 25, 26, 27, 28, 29], [0, 1, 2, 3, 4, 5, 6, 7], [([23, 27, 28], [23, 27, 28], false), ([22, 27, 28], [22, 27, 28], false), ([27, 28], [27, 28], false), ([27, 28], [27, 28], false), ([27, 28], [27, 28], false), ([22, 23, 24, 25, 26], [22, 23, 24, 25, 26], false), ([22, 23, 24, 25, 26], [22, 23, 24, 25, 26], false), ([], [], false)]⟩ (by kernel_rfl) rfl ?_
      refine go ?_
      refine WD.q rfl rfl rfl rfl rfl (QE.ixN (f := tm) zt rfl rfl hi) rfl rfl rfl ?_
      rw [hX]
      refine go ?_
      refine WD.call rfl rfl rfl rfl rfl rfl rfl (l3Size p (by omega) h8) rfl rfl rfl ?_
      refine go ?_
      refine WD.cmp rfl rfl rfl rfl rfl rfl rfl rfl rfl rfl (fun c9 => ?_) (fun c9 => ?_)
      · refine go ?_
        exact retV rfl (bad (by omega)) rfl rfl
      · refine go ?_
        exact lpK.mk (i + 1) (.cons rfl (.cons rfl (.cons rfl .nil))) (good (by omega)) (by omega)
    refine go ?_
    refine WO.cmp rfl rfl rfl rfl rfl (fun c1 => ?_) (fun c1 => ?_)
    · refine go ?_
      refine WC.regionD ⟨[[], [], [0, 1], [0, 1, 2], [0, 1, 2, 3], [], [5], [0, 1, 2, 3, 4, 5, 6]], [0, 1, 2, 3, 4, 5, 6, 7], [], [32, 33, 34, 35, 36, 37, 38, 39], [0, 1, 2, 3, 4, 5, 6, 7], [([33, 37, 38], [33, 37, 38], false), ([32, 37, 38], [32, 37, 38], false), ([37, 38], [37, 38], false), ([37, 38], [37, 38], false), ([37, 38], [37, 38], false), ([32, 33, 34, 35, 36], [32, 33, 34, 35, 36], false), ([32, 33, 34, 35, 36], [32, 33, 34, 35, 36], false), ([], [], false)]⟩ (by kernel_rfl) rfl ?_
      refine go ?_
      refine WD.q rfl rfl rfl rfl rfl (QE.ixN (f := tm) zt rfl rfl hi) rfl rfl rfl ?_
      rw [hX]
      refine go ?_
      refine WD.call rfl rfl rfl rfl rfl rfl rfl (l3Vars p hl1 hl2 (by omega) (by omega)) rfl rfl rfl ?_
      refine go ?_
      refine WD.cmp rfl rfl rfl rfl rfl rfl rfl rfl rfl rfl (fun c9 => ?_) (fun c9 => ?_)
      · refine go ?_
        exact retV rfl (bad (by omega)) rfl rfl
      · refine go ?_
        exact lpK.mk (i + 1) (.cons rfl (.cons rfl (.cons rfl .nil))) (good (by omega)) (by omega)
    refine go ?_
    refine WO.cmp rfl rfl rfl rfl rfl (fun c2 => ?_) (fun c2 => ?_)
    · refine go ?_
      refine WC.regionD ⟨[[], [], [0, 1], [0, 1, 2], [0, 1, 2, 3], [], [5], [5, 6], [0, 1, 2, 3, 4, 5, 6, 7]], [0, 1, 2, 3, 4, 5, 6, 7, 8], [], [42, 43, 44, 45, 46, 47, 48, 49, 50], [0, 1, 2, 3, 4, 5, 6, 7, 8], [([43, 47, 48, 49], [43, 47, 48, 49], false), ([42, 47, 48, 49], [42, 47, 48, 49], false), ([47, 48, 49], [47, 48, 49], false), ([47, 48, 49], [47, 48, 49], false), ([47, 48, 49], [47, 48, 49], false), ([42, 43, 44, 45, 46], [42, 43, 44, 45, 46], false), ([42, 43, 44, 45, 46], [42, 43, 44, 45, 46], false), ([42, 43, 44, 45, 46], [42, 43, 44, 45, 46], false), ([], [], false)]⟩ (by kernel_rfl) rfl ?_
      refine go ?_
      refine WD.q rfl rfl rfl rfl rfl (QE.ixN (f := tm) zt rfl rfl hi) rfl rfl rfl ?_
      rw [hX]
      refine go ?_
      refine WD.cmp rfl rfl rfl rfl rfl rfl rfl rfl rfl rfl (fun c9 => ?_) (fun c9 => ?_)
      · refine go ?_
        exact retV rfl (bad (by omega)) rfl rfl
      · refine go ?_
        exact lpK.mk (i + 1) (.cons rfl (.cons rfl (.cons rfl .nil))) (good (by omega)) (by omega)
    refine go ?_
    exact lpK.mk (i + 1) (.cons rfl (.cons rfl (.cons rfl .nil))) (good (by omega)) (by omega)
  · refine go ?_
    exact retV rfl (bool_eq hr (by simp only [true_iff]; exact ⟨hE, all_of_getD zt fun j hj => g2 j (by omega)⟩)) rfl rfl
theorem l3Exp (p : Pr) (h0 : 1 ≤ p.w) (h8 : p.w ≤ 8) (hB : PB p) (ht0 : 0 ≤ p.temps) (ht1 : p.temps ≤ 6) (e : List Tm) (he : e.length ≤ 1048576) {r : Bool} (hr : r = true ↔ mayOk p e) : Ev Try.prog X (.fn 92 [.ag (prR p), .im e.length (encL tm e)] (bl r) [.dead, .dead]) := by
  refine Ev.fnW (env := [(0, .ag (prR p)), (1, .im e.length (encL tm e))]) Try.func92 rfl nm_spec_l3Exp rfl rfl (by kernel_rfl) (.cons rfl (.cons rfl .nil)) ?_
  refine go ?_
  refine WO.boxA rfl rfl rfl rfl rfl ?_
  refine go ?_
  refine WC.loopS (S := Nat) (fun i => [(1, .im e.length (encL tm e)), (2, .op (prR p)), (5, i64 i)]) (fun i => i ≤ e.length ∧ ∀ j < i, (e.getD j zt).op ≠ 17) (fun i => e.length - i) 0 (.cons rfl (.cons rfl (.cons rfl .nil))) ⟨by simp, by simp⟩ ?_
  rintro i ⟨g1, g2⟩
  refine go ?_
  refine WO.cmp rfl rfl rfl rfl rfl (fun h3 => ?_) (fun h3 => ?_)
  · have hi : i < e.length := by omega
    refine go ?_
    refine WO.ixN (f := tm) zt rfl rfl rfl hi rfl ?_
    refine go ?_
    refine WO.cmp rfl rfl rfl rfl rfl (fun c0 => ?_) (fun c0 => ?_)
    · refine go ?_
      exact retV rfl (bool_eq hr (by simp only [Bool.false_eq_true, false_iff]; exact fun h => h.2.2 _ (getD_mem hi zt) c0)) rfl rfl
    · refine go ?_
      exact lpK.mk (i + 1) (.cons rfl (.cons rfl (.cons rfl .nil))) ⟨by omega, fun j hj => by
        by_cases e : j = i
        · subst e; exact c0
        · exact g2 j (by omega)⟩ (by omega)
  · refine go ?_
    refine WO.cmp rfl rfl rfl rfl rfl (fun h4 => ?_) (fun h4 => ?_)
    · refine go ?_
      refine WO.callB rfl rfl rfl (l3Names p h0 h8 hB ht0 ht1 e he) rfl (fun h5 => ?_) (fun h5 => ?_)
      · refine go ?_
        exact retV rfl (bool_eq hr (by simp only [true_iff]; exact ⟨by omega, h5, all_of_getD zt fun j hj => g2 j (by omega)⟩)) rfl rfl
      · refine go ?_
        exact retV rfl (bool_eq hr (by simp only [Bool.false_eq_true, false_iff]; exact fun h => h5 h.2.1)) rfl rfl
    · refine go ?_
      exact retV rfl (bool_eq hr (by simp only [Bool.false_eq_true, false_iff]; exact fun h => h4 (by have := h.1; omega))) rfl rfl
set_option maxHeartbeats 20000000 in
theorem l3Stmt (p : Pr) (h0 : 1 ≤ p.w) (h8 : p.w ≤ 8) (hB : PB p) (ht0 : 0 ≤ p.temps) (ht1 : p.temps ≤ 6) (s : St) (hs1 : s.pl.length ≤ 1048576) (hs2 : s.ex.length ≤ 1048576) {r : Bool} (hr : r = true ↔ stOk p s) : Ev Try.prog X (.fn 173 [.ag (prR p), .ag (stR s)] (bl r) [.dead, .dead]) := by
  have hl1 := hB.l; have hl2 := hB.s; have hl3 := hB.a
  have hv : varsN p = (p.lows.length : Int) + p.secs.length + p.temps := by unfold varsN insN; omega
  have hn : insN p = (p.lows.length : Int) + p.secs.length := by unfold insN; omega
  have p1 : mayOk p s.ex → 0 < s.ex.length := mayOk_pos
  have p2 : mayOk p s.pl → 0 < s.pl.length := mayOk_pos
  refine Ev.fnW (env := [(0, .ag (prR p)), (1, .ag (stR s))]) Try.func173 rfl nm_spec_l3Stmt rfl rfl (by kernel_rfl) (.cons rfl (.cons rfl .nil)) ?_
  refine go ?_
  refine WO.boxA rfl rfl rfl rfl rfl ?_
  refine WO.boxA rfl rfl rfl rfl rfl ?_
  have hcase : s.op = 0 ∨ s.op = 1 ∨ (s.op = 2 ∨ s.op = 6) ∨ s.op = 5 ∨ (s.op = 7 ∨ s.op = 9) ∨ (s.op = 3 ∨ s.op = 4 ∨ s.op = 8) ∨ ¬ (0 ≤ s.op ∧ s.op ≤ 9) := by omega
  rcases hcase with hc | hc | hc | hc | hc | hc | hc
  · rw [stOk0 hc, hv, hn] at hr
    refine go ?_
    repeat' (first
      | exact retV rfl (bool_eq hr (by simp only [Bool.false_eq_true, false_iff]; rintro ⟨_, _⟩; first | contradiction | omega | (have := p1 (by assumption); omega) | (have := p2 (by assumption); omega))) rfl rfl
      | exact retV rfl (bool_eq hr (by simp only [Bool.false_eq_true, false_iff]; rintro ⟨_, _, _⟩; first | contradiction | omega | (have := p1 (by assumption); omega) | (have := p2 (by assumption); omega))) rfl rfl
      | exact retV rfl (bool_eq hr (by simp only [Bool.false_eq_true, false_iff]; rintro ⟨_, _, _, _⟩; first | contradiction | omega | (have := p1 (by assumption); omega) | (have := p2 (by assumption); omega))) rfl rfl
      | exact retV rfl (bool_eq hr (by simp only [true_iff]; repeat' (first | assumption | omega | refine ⟨?_, ?_⟩))) rfl rfl
      | (refine WO.callB rfl rfl rfl (l1In _ _ _) rfl (fun _ => ?_) (fun _ => ?_) <;> refine go ?_)
      | (refine WO.callB rfl rfl rfl (l3Exp p h0 h8 hB ht0 ht1 _ hs2) rfl (fun _ => ?_) (fun _ => ?_) <;> refine go ?_)
      | (refine WO.callB rfl rfl rfl (l3Exp p h0 h8 hB ht0 ht1 _ hs1) rfl (fun _ => ?_) (fun _ => ?_) <;> refine go ?_)
      | (refine WO.binT rfl (by kernel_rfl) rfl rfl rfl rfl ?_; refine go ?_)
      | (exfalso; omega)
      | (refine WO.cmp rfl rfl rfl rfl rfl (fun _ => ?_) (fun _ => ?_) <;> refine go ?_))
  · rw [stOk1 hc] at hr
    refine go ?_
    repeat' (first
      | exact retV rfl (bool_eq hr (by simp only [Bool.false_eq_true, false_iff]; rintro ⟨_, _⟩; first | contradiction | omega | (have := p1 (by assumption); omega) | (have := p2 (by assumption); omega))) rfl rfl
      | exact retV rfl (bool_eq hr (by simp only [Bool.false_eq_true, false_iff]; rintro ⟨_, _, _⟩; first | contradiction | omega | (have := p1 (by assumption); omega) | (have := p2 (by assumption); omega))) rfl rfl
      | exact retV rfl (bool_eq hr (by simp only [Bool.false_eq_true, false_iff]; rintro ⟨_, _, _, _⟩; first | contradiction | omega | (have := p1 (by assumption); omega) | (have := p2 (by assumption); omega))) rfl rfl
      | exact retV rfl (bool_eq hr (by simp only [true_iff]; repeat' (first | assumption | omega | refine ⟨?_, ?_⟩))) rfl rfl
      | (refine WO.callB rfl rfl rfl (l1In _ _ _) rfl (fun _ => ?_) (fun _ => ?_) <;> refine go ?_)
      | (refine WO.callB rfl rfl rfl (l3Exp p h0 h8 hB ht0 ht1 _ hs2) rfl (fun _ => ?_) (fun _ => ?_) <;> refine go ?_)
      | (refine WO.callB rfl rfl rfl (l3Exp p h0 h8 hB ht0 ht1 _ hs1) rfl (fun _ => ?_) (fun _ => ?_) <;> refine go ?_)
      | (refine WO.binT rfl (by kernel_rfl) rfl rfl rfl rfl ?_; refine go ?_)
      | (exfalso; omega)
      | (refine WO.cmp rfl rfl rfl rfl rfl (fun _ => ?_) (fun _ => ?_) <;> refine go ?_))
  · rw [stOk26 hc] at hr
    rcases hc with hc | hc
    all_goals refine go ?_
    repeat' (first
      | exact retV rfl (bool_eq hr (by simp only [Bool.false_eq_true, false_iff]; rintro ⟨_, _⟩; first | contradiction | omega | (have := p1 (by assumption); omega) | (have := p2 (by assumption); omega))) rfl rfl
      | exact retV rfl (bool_eq hr (by simp only [Bool.false_eq_true, false_iff]; rintro ⟨_, _, _⟩; first | contradiction | omega | (have := p1 (by assumption); omega) | (have := p2 (by assumption); omega))) rfl rfl
      | exact retV rfl (bool_eq hr (by simp only [Bool.false_eq_true, false_iff]; rintro ⟨_, _, _, _⟩; first | contradiction | omega | (have := p1 (by assumption); omega) | (have := p2 (by assumption); omega))) rfl rfl
      | exact retV rfl (bool_eq hr (by simp only [true_iff]; repeat' (first | assumption | omega | refine ⟨?_, ?_⟩))) rfl rfl
      | (refine WO.callB rfl rfl rfl (l1In _ _ _) rfl (fun _ => ?_) (fun _ => ?_) <;> refine go ?_)
      | (refine WO.callB rfl rfl rfl (l3Exp p h0 h8 hB ht0 ht1 _ hs2) rfl (fun _ => ?_) (fun _ => ?_) <;> refine go ?_)
      | (refine WO.callB rfl rfl rfl (l3Exp p h0 h8 hB ht0 ht1 _ hs1) rfl (fun _ => ?_) (fun _ => ?_) <;> refine go ?_)
      | (refine WO.binT rfl (by kernel_rfl) rfl rfl rfl rfl ?_; refine go ?_)
      | (exfalso; omega)
      | (refine WO.cmp rfl rfl rfl rfl rfl (fun _ => ?_) (fun _ => ?_) <;> refine go ?_))
  · rw [stOk5 hc] at hr
    refine go ?_
    repeat' (first
      | exact retV rfl (bool_eq hr (by simp only [Bool.false_eq_true, false_iff]; rintro ⟨_, _⟩; first | contradiction | omega | (have := p1 (by assumption); omega) | (have := p2 (by assumption); omega))) rfl rfl
      | exact retV rfl (bool_eq hr (by simp only [Bool.false_eq_true, false_iff]; rintro ⟨_, _, _⟩; first | contradiction | omega | (have := p1 (by assumption); omega) | (have := p2 (by assumption); omega))) rfl rfl
      | exact retV rfl (bool_eq hr (by simp only [Bool.false_eq_true, false_iff]; rintro ⟨_, _, _, _⟩; first | contradiction | omega | (have := p1 (by assumption); omega) | (have := p2 (by assumption); omega))) rfl rfl
      | exact retV rfl (bool_eq hr (by simp only [true_iff]; repeat' (first | assumption | omega | refine ⟨?_, ?_⟩))) rfl rfl
      | (refine WO.callB rfl rfl rfl (l1In _ _ _) rfl (fun _ => ?_) (fun _ => ?_) <;> refine go ?_)
      | (refine WO.callB rfl rfl rfl (l3Exp p h0 h8 hB ht0 ht1 _ hs2) rfl (fun _ => ?_) (fun _ => ?_) <;> refine go ?_)
      | (refine WO.callB rfl rfl rfl (l3Exp p h0 h8 hB ht0 ht1 _ hs1) rfl (fun _ => ?_) (fun _ => ?_) <;> refine go ?_)
      | (refine WO.binT rfl (by kernel_rfl) rfl rfl rfl rfl ?_; refine go ?_)
      | (exfalso; omega)
      | (refine WO.cmp rfl rfl rfl rfl rfl (fun _ => ?_) (fun _ => ?_) <;> refine go ?_))
  · rw [stOk79 hc] at hr
    rcases hc with hc | hc
    all_goals refine go ?_
    repeat' (first
      | exact retV rfl (bool_eq hr (by simp only [Bool.false_eq_true, false_iff]; rintro ⟨_, _⟩; first | contradiction | omega | (have := p1 (by assumption); omega) | (have := p2 (by assumption); omega))) rfl rfl
      | exact retV rfl (bool_eq hr (by simp only [Bool.false_eq_true, false_iff]; rintro ⟨_, _, _⟩; first | contradiction | omega | (have := p1 (by assumption); omega) | (have := p2 (by assumption); omega))) rfl rfl
      | exact retV rfl (bool_eq hr (by simp only [Bool.false_eq_true, false_iff]; rintro ⟨_, _, _, _⟩; first | contradiction | omega | (have := p1 (by assumption); omega) | (have := p2 (by assumption); omega))) rfl rfl
      | exact retV rfl (bool_eq hr (by simp only [true_iff]; repeat' (first | assumption | omega | refine ⟨?_, ?_⟩))) rfl rfl
      | (refine WO.callB rfl rfl rfl (l1In _ _ _) rfl (fun _ => ?_) (fun _ => ?_) <;> refine go ?_)
      | (refine WO.callB rfl rfl rfl (l3Exp p h0 h8 hB ht0 ht1 _ hs2) rfl (fun _ => ?_) (fun _ => ?_) <;> refine go ?_)
      | (refine WO.callB rfl rfl rfl (l3Exp p h0 h8 hB ht0 ht1 _ hs1) rfl (fun _ => ?_) (fun _ => ?_) <;> refine go ?_)
      | (refine WO.binT rfl (by kernel_rfl) rfl rfl rfl rfl ?_; refine go ?_)
      | (exfalso; omega)
      | (refine WO.cmp rfl rfl rfl rfl rfl (fun _ => ?_) (fun _ => ?_) <;> refine go ?_))
  · rw [stOk348 hc] at hr
    rcases hc with hc | hc | hc
    all_goals refine go ?_
    repeat' (first
      | exact retV rfl (bool_eq hr (by simp only [Bool.false_eq_true, false_iff]; rintro ⟨_, _⟩; first | contradiction | omega | (have := p1 (by assumption); omega) | (have := p2 (by assumption); omega))) rfl rfl
      | exact retV rfl (bool_eq hr (by simp only [Bool.false_eq_true, false_iff]; rintro ⟨_, _, _⟩; first | contradiction | omega | (have := p1 (by assumption); omega) | (have := p2 (by assumption); omega))) rfl rfl
      | exact retV rfl (bool_eq hr (by simp only [Bool.false_eq_true, false_iff]; rintro ⟨_, _, _, _⟩; first | contradiction | omega | (have := p1 (by assumption); omega) | (have := p2 (by assumption); omega))) rfl rfl
      | exact retV rfl (bool_eq hr (by simp only [true_iff]; repeat' (first | assumption | omega | refine ⟨?_, ?_⟩))) rfl rfl
      | (refine WO.callB rfl rfl rfl (l1In _ _ _) rfl (fun _ => ?_) (fun _ => ?_) <;> refine go ?_)
      | (refine WO.callB rfl rfl rfl (l3Exp p h0 h8 hB ht0 ht1 _ hs2) rfl (fun _ => ?_) (fun _ => ?_) <;> refine go ?_)
      | (refine WO.callB rfl rfl rfl (l3Exp p h0 h8 hB ht0 ht1 _ hs1) rfl (fun _ => ?_) (fun _ => ?_) <;> refine go ?_)
      | (refine WO.binT rfl (by kernel_rfl) rfl rfl rfl rfl ?_; refine go ?_)
      | (exfalso; omega)
      | (refine WO.cmp rfl rfl rfl rfl rfl (fun _ => ?_) (fun _ => ?_) <;> refine go ?_))
  · replace hr : r = true ↔ False := hr.trans ⟨stOkN hc, fun h => h.elim⟩
    refine go ?_
    repeat' (first
      | exact retV rfl (bool_eq hr (by simp)) rfl rfl
      | (refine WO.callB rfl rfl rfl (l1In _ _ _) rfl (fun _ => ?_) (fun _ => ?_) <;> refine go ?_)
      | (exfalso; omega)
      | (refine WO.cmp rfl rfl rfl rfl rfl (fun _ => ?_) (fun _ => ?_) <;> refine go ?_))
theorem l3Stmts (p : Pr) (h0 : 1 ≤ p.w) (h8 : p.w ≤ 8) (hB : PB p) (ht0 : 0 ≤ p.temps) (ht1 : p.temps ≤ 6) {r : Bool} (hr : r = true ↔ ∀ s ∈ p.body, stOk p s) : Ev Try.prog X (.fn 114 [.ag (prR p)] (bl r) [.dead]) := by
  have hb := hB.b
  refine Ev.fnW (env := [(0, .ag (prR p))]) Try.func114 rfl nm_spec_l3Stmts rfl rfl (by kernel_rfl) (.cons rfl .nil) ?_
  refine go ?_
  refine WO.boxA rfl rfl rfl rfl rfl ?_
  refine go ?_
  refine WC.loopS (S := Nat) (fun i => [(1, .op (prR p)), (3, i64 i)]) (fun i => i ≤ p.body.length ∧ ∀ j < i, stOk p (p.body.getD j zs)) (fun i => p.body.length - i) 0 (.cons rfl (.cons rfl .nil)) ⟨by simp, by simp⟩ ?_
  rintro i ⟨g1, g2⟩
  refine go ?_
  refine WO.cmp rfl rfl rfl rfl rfl (fun h3 => ?_) (fun h3 => ?_)
  · have hi : i < p.body.length := by omega
    have hs := hB.e _ (getD_mem hi zs)
    refine go ?_
    refine WC.regionD ⟨[[], [], [1], [], [1, 2, 3], [1, 2, 3, 4], [0, 1, 2, 3, 4, 5], [0, 1, 2, 3, 4, 5, 6]], [0, 1, 2, 3, 4, 5, 7], [], [11, 12, 13, 14, 15, 16, 18], [0, 1, 2, 3, 4, 5, 6, 7], [([12, 13, 14, 15, 16], [12, 13, 14, 15, 16], false), ([11, 14], [11, 14], false), ([11, 14], [11, 14], false), ([11, 12, 13], [11, 12, 13], false), ([11], [11], false), ([11], [11], false), ([], [], false), ([], [], false)]⟩ (by kernel_rfl) rfl ?_
    refine go ?_
    refine WD.q rfl rfl rfl rfl rfl (QE.ixN (f := stR) zs rfl rfl hi) rfl rfl rfl ?_
    refine WD.q rfl rfl rfl rfl rfl (QE.ldIA rfl rfl) rfl rfl rfl ?_
    refine go ?_
    refine WO.callB rfl rfl rfl (l3Stmt p h0 h8 hB ht0 ht1 _ hs.1 hs.2) rfl (fun h4 => ?_) (fun h4 => ?_)
    · refine go ?_
      exact lpK.mk (i + 1) (.cons rfl (.cons rfl .nil)) ⟨by omega, fun j hj => by
        by_cases e : j = i
        · subst e; exact h4
        · exact g2 j (by omega)⟩ (by omega)
    · refine go ?_
      exact retV rfl (bool_eq hr (by simp only [Bool.false_eq_true, false_iff]; exact fun h => h4 (h _ (getD_mem hi zs)))) rfl rfl
  · refine go ?_
    exact retV rfl (bool_eq hr (by simp only [true_iff]; exact all_of_getD zs fun j hj => g2 j (by omega))) rfl rfl
end Go.Eng.C

/- Contracts of functions, by the engine: inputs and room, of the program. -/
import Derived.Test.YtbhdobjjhkkpkaaEngXf
import Derived.Test.YtbhdobjjhkkpkaaEngB4
namespace Go.Eng.C
open Go Go.Eng Go.RowKit Go.Proofs
set_option linter.unusedVariables false
set_option linter.unusedSimpArgs false
set_option maxRecDepth 10000
variable {X : FuncId → List AV → AV → List AV → Prop}
theorem roomRight (p : Pr) (h1 : p.arrs.length ≤ 1048576) (h2 : p.body.length ≤ 1048576) {r : Bool} (hr : r = true ↔ roomOk p) : Ev Try.prog X (.fn 107 [.ip (prR p)] (bl r) [.dead]) := by
  have no : ¬ roomOk p → AV.sc (.bool false) = bl r := fun hn => bool_eq hr (by simp [hn])
  unfold roomOk at no
  refine Ev.fnW (env := [(0, .ip (prR p))]) Try.func107 rfl nm_impl_roomRight rfl rfl (by kernel_rfl) (.cons rfl .nil) ?_
  refine go2 ?_
  refine WO.cmp rfl rfl rfl rfl rfl (fun c1 => ?_) (fun c1 => ?_)
  · refine go2 ?_
    exact retV rfl (no fun h => by have := h.1; omega) rfl rfl
  refine go2 ?_
  refine WO.cmp rfl rfl rfl rfl rfl (fun c2 => ?_) (fun c2 => ?_)
  · refine go2 ?_
    exact retV rfl (no fun h => by have := h.2.1; omega) rfl rfl
  refine go2 ?_
  refine WO.cmp rfl rfl rfl rfl rfl (fun c3 => ?_) (fun c3 => ?_)
  · refine go2 ?_
    exact retV rfl (no fun h => by have := h.2.2.1; omega) rfl rfl
  refine go2 ?_
  refine WO.cmp rfl rfl rfl rfl rfl (fun c4 => ?_) (fun c4 => ?_)
  · refine go2 ?_
    exact retV rfl (no fun h => by have := h.2.2.2.1; omega) rfl rfl
  refine go2 ?_
  refine WC.loopS (S := Nat) (fun i => [(36, .im p.arrs.length (encL eI p.arrs)), (37, i64 p.arrs.length), (38, i64 i)]) (fun i => i ≤ p.arrs.length ∧ ∀ j < i, 1 ≤ p.arrs.getD j 0 ∧ p.arrs.getD j 0 ≤ 6) (fun i => p.arrs.length - i) 0 (.cons rfl (.cons rfl (.cons rfl .nil))) ⟨by simp, by simp⟩ ?_
  rintro i ⟨g1, g2⟩
  refine go2 ?_
  refine WO.cmp rfl rfl rfl rfl rfl (fun h5 => ?_) (fun h5 => ?_)
  · have hi : i < p.arrs.length := by omega
    have bad : ¬ (1 ≤ p.arrs.getD i 0 ∧ p.arrs.getD i 0 ≤ 6) → AV.sc (.bool false) = bl r := fun hb => no fun h => hb (h.2.2.2.2 _ (getD_mem hi 0))
    refine go2 ?_
    refine WO.ixN (f := eI) 0 rfl rfl rfl hi rfl ?_
    refine go2 ?_
    refine WO.cmp rfl rfl rfl rfl rfl (fun k1 => ?_) (fun k1 => ?_)
    · refine go2 ?_
      exact retV rfl (bad (by omega)) rfl rfl
    refine go2 ?_
    refine WO.cmp rfl rfl rfl rfl rfl (fun k2 => ?_) (fun k2 => ?_)
    · refine go2 ?_
      exact retV rfl (bad (by omega)) rfl rfl
    refine go2 ?_
    refine lpK.mk (i + 1) (.cons rfl (.cons rfl (.cons rfl .nil))) ⟨by omega, fun j hj => ?_⟩ (by omega)
    by_cases e : j = i
    · subst e; omega
    · exact g2 j (by omega)
  · refine go2 ?_
    exact retV rfl (bool_eq hr (by simp only [true_iff]; exact ⟨by omega, by omega, by omega, by omega, all_of_getD 0 fun j hj => g2 j (by omega)⟩)) rfl rfl
set_option maxHeartbeats 20000000 in
theorem inputRight (p : Pr) (h0 : 1 ≤ p.w) (h8 : p.w ≤ 8) (h1 : p.lows.length ≤ 1048576) (h2 : p.secs.length ≤ 1048576) {r : Bool} (hr : r = true ↔ inputsOk p) : Ev Try.prog X (.fn 106 [.ip (prR p)] (bl r) [.dead]) := by
  have hsz := pow_small (w := p.w) (by omega) h8
  have no : ¬ inputsOk p → AV.sc (.bool false) = bl r := fun hn => bool_eq hr (by simp [hn])
  have hr0 := hr
  unfold inputsOk at no
  refine Ev.fnW (env := [(0, .ip (prR p))]) Try.func106 rfl nm_impl_inputRight rfl rfl (by kernel_rfl) (.cons rfl .nil) ?_
  refine go2 ?_
  refine WO.cmp rfl rfl rfl rfl rfl (fun c1 => ?_) (fun c1 => ?_)
  · refine go2 ?_
    exact retV rfl (no fun h => by have := h.1; omega) rfl rfl
  refine go2 ?_
  refine WO.cmp rfl rfl rfl rfl rfl (fun c2 => ?_) (fun c2 => ?_)
  · refine go2 ?_
    exact retV rfl (no fun h => by have := h.2.1; omega) rfl rfl
  refine go2 ?_
  refine WC.loopS (S := Nat × Int) (fun v => [(0, .ip (prR p)), (3, i64 v.2), (25, .im p.lows.length (encL inp p.lows)), (26, i64 p.lows.length), (27, i64 v.1)]) (fun v => v.1 ≤ p.lows.length ∧ (∀ j < v.1, inOk p.w true (p.lows.getD j zi)) ∧ v.2 = sumBits (p.lows.take v.1)) (fun v => p.lows.length - v.1) (0, 0) (.cons rfl (.cons rfl (.cons rfl (.cons rfl (.cons rfl .nil))))) ⟨by simp, by simp, by simp [sumBits]⟩ ?_
  rintro ⟨i, n⟩ ⟨g1, g2, g3⟩
  dsimp only at g1 g2 g3 ⊢
  have bt := sumBits_le (p.lows.take i) (fun y hy => by
    obtain ⟨j, hj⟩ := List.getElem?_of_mem hy
    have hlt := (List.getElem?_eq_some_iff.1 hj).1
    rw [List.length_take] at hlt
    have := g2 j (by omega)
    rw [List.getElem?_take, if_pos (by omega)] at hj
    rw [List.getD_eq_getElem?_getD, hj] at this
    exact ⟨this.1, by have := this.2.1; simp only [Option.getD_some] at this; omega⟩)
  rw [List.length_take] at bt
  refine go2 ?_
  refine WO.cmp rfl rfl rfl rfl rfl (fun h5 => ?_) (fun h5 => ?_)
  · have hi : i < p.lows.length := by omega
    have bad : ¬ inOk p.w true (p.lows.getD i zi) → AV.sc (.bool false) = bl r := fun hb => no fun h => hb (h.2.2.1 _ (getD_mem hi zi))
    have good : inOk p.w true (p.lows.getD i zi) → ∀ j < i + 1, inOk p.w true (p.lows.getD j zi) := fun hg j hj => by
      by_cases e : j = i
      · subst e; exact hg
      · exact g2 j (by omega)
    have hst := sumBits_take p.lows i hi zi
    refine go2 ?_
    refine WO.ixN (f := inp) zi rfl rfl rfl hi rfl ?_
    generalize hX : p.lows.getD i zi = x at *
    have hbx := bitsN_le x.max.toNat
    unfold inOk at bad good
    refine go2 ?_
    refine WC.regionD ⟨[[], [0], [0, 1], [0, 1, 2], [0, 1, 2, 3], [0, 1, 2, 3, 4], [0, 1, 2, 3], [0, 1, 2, 3, 6], [0, 1, 2, 3, 4, 5, 6, 7], [0, 1, 2, 3, 4, 5, 6, 7, 8], [0, 1, 2, 3, 4, 5, 6, 7, 8, 9], [0, 1, 2, 3, 4, 5, 6, 7, 8, 9, 10], [0, 1, 2, 3, 4, 5, 6, 7, 8, 9, 10, 11], [0, 1, 2, 3, 4, 5, 6, 7, 8, 9, 10, 11, 12], [0, 1, 2, 3, 4, 5, 6, 7, 8, 9, 10, 11, 12, 13]], [0, 1, 2, 3, 4, 5, 6, 7, 8, 9, 10, 11, 12, 13, 14], [], [31, 32, 33, 34, 35, 36, 37, 38, 39, 40, 41, 42, 43, 44, 45], [0, 1, 2, 3, 4, 5, 6, 7, 8, 9, 10, 11, 12, 13, 14], [([], [], false), ([], [], false), ([], [], false), ([], [], false), ([37, 38], [37, 38], false), ([37, 38], [37, 38], false), ([35, 36], [35, 36], false), ([35, 36], [35, 36], false), ([], [], false), ([], [], false), ([], [], false), ([], [], false), ([], [], false), ([], [], false), ([], [], false)]⟩ (by kernel_rfl) rfl ?_
    refine go2 ?_
    repeat' (first
      | exact retV rfl (bad (fun h => by obtain ⟨h1, h2, h3, h4, h5⟩ := h; first | omega | (have := h5 rfl; omega))) rfl rfl
      | (refine WO.call rfl rfl rfl (implBitsOf _ (by omega) (by omega)) rfl rfl ?_
         refine go2 ?_
         exact lpK.mk (i + 1, n + bitsN x.max.toNat) (.cons rfl (.cons rfl (.cons rfl (.cons rfl (.cons rfl .nil))))) ⟨by dsimp only; omega, good (by refine ⟨by omega, by omega, by omega, by omega, ?_⟩; first | (intro; omega) | simp), by dsimp only; omega⟩ (by dsimp only; omega))
      | (refine WO.call rfl rfl rfl (greatest p (by omega) h8) rfl rfl ?_; refine go2 ?_)
      | (refine WD.call rfl rfl rfl rfl rfl rfl rfl (greatest p (by omega) h8) rfl rfl rfl ?_; refine go2 ?_)
      | (refine WD.cmp rfl rfl rfl rfl rfl rfl rfl rfl rfl rfl (fun _ => ?_) (fun _ => ?_) <;> refine go2 ?_)
      | (refine WO.cmp rfl rfl rfl rfl rfl (fun _ => ?_) (fun _ => ?_) <;> refine go2 ?_))
  have hi : i = p.lows.length := by omega
  rw [hi, List.take_length] at g3
  have ok1 : ∀ x ∈ p.lows, inOk p.w true x := all_of_getD zi fun j hj => g2 j (by omega)
  rw [hi] at bt; rw [List.take_length] at bt
  subst g3
  clear g1 g2 hi h5
  refine go2 ?_
  refine WC.loopS (S := Nat × Int) (fun v => [(0, .ip (prR p)), (3, i64 v.2), (55, .im p.secs.length (encL inp p.secs)), (56, i64 p.secs.length), (57, i64 v.1)]) (fun v => v.1 ≤ p.secs.length ∧ (∀ j < v.1, inOk p.w false (p.secs.getD j zi)) ∧ v.2 = sumBits p.lows + sumBits (p.secs.take v.1)) (fun v => p.secs.length - v.1) (0, sumBits p.lows) (.cons rfl (.cons rfl (.cons rfl (.cons rfl (.cons rfl .nil))))) ⟨by simp, by simp, by simp [sumBits]⟩ ?_
  rintro ⟨i, n⟩ ⟨g1, g2, g3⟩
  dsimp only at g1 g2 g3 ⊢
  have bt := sumBits_le (p.secs.take i) (fun y hy => by
    obtain ⟨j, hj⟩ := List.getElem?_of_mem hy
    have hlt := (List.getElem?_eq_some_iff.1 hj).1
    rw [List.length_take] at hlt
    have := g2 j (by omega)
    rw [List.getElem?_take, if_pos (by omega)] at hj
    rw [List.getD_eq_getElem?_getD, hj] at this
    exact ⟨this.1, by have := this.2.1; simp only [Option.getD_some] at this; omega⟩)
  rw [List.length_take] at bt
  refine go2 ?_
  refine WO.cmp rfl rfl rfl rfl rfl (fun h5 => ?_) (fun h5 => ?_)
  · have hi : i < p.secs.length := by omega
    have bad : ¬ inOk p.w false (p.secs.getD i zi) → AV.sc (.bool false) = bl r := fun hb => no fun h => hb (h.2.2.2.1 _ (getD_mem hi zi))
    have good : inOk p.w false (p.secs.getD i zi) → ∀ j < i + 1, inOk p.w false (p.secs.getD j zi) := fun hg j hj => by
      by_cases e : j = i
      · subst e; exact hg
      · exact g2 j (by omega)
    have hst := sumBits_take p.secs i hi zi
    refine go2 ?_
    refine WO.ixN (f := inp) zi rfl rfl rfl hi rfl ?_
    generalize hX : p.secs.getD i zi = x at *
    have hbx := bitsN_le x.max.toNat
    unfold inOk at bad good
    refine go2 ?_
    refine WC.regionD ⟨[[], [0], [0, 1], [0, 1, 2], [0, 1, 2, 3], [0, 1, 2, 3, 4], [0, 1, 2, 3], [0, 1, 2, 3, 6], [0, 1, 2, 3, 4, 5, 6, 7], [0, 1, 2, 3, 4, 5, 6, 7, 8], [0, 1, 2, 3, 4, 5, 6, 7, 8, 9], [0, 1, 2, 3, 4, 5, 6, 7, 8, 9, 10], [0, 1, 2, 3, 4, 5, 6, 7, 8, 9, 10, 11], [0, 1, 2, 3, 4, 5, 6, 7, 8, 9, 10, 11, 12], [0, 1, 2, 3, 4, 5, 6, 7, 8, 9, 10, 11, 12, 13], [0, 1, 2, 3, 4, 5, 6, 7, 8, 9, 10, 11, 12, 13, 14], [0, 1, 2, 3, 4, 5, 6, 7, 8, 9, 10, 11, 12, 13, 14, 15], [0, 1, 2, 3, 4, 5, 6, 7, 8, 9, 10, 11, 12, 13, 14, 15, 16], [0, 1, 2, 3, 4, 5, 6, 7, 8, 9, 10, 11, 12, 13, 14, 15, 16, 17], [0, 1, 2, 3, 4, 5, 6, 7, 8, 9, 10, 11, 12, 13, 14, 15, 16, 17, 18]], [0, 1, 2, 3, 4, 5, 6, 7, 8, 9, 10, 11, 12, 13, 14, 15, 16, 17, 18, 19], [], [61, 62, 63, 64, 65, 66, 67, 68, 69, 70, 71, 72, 73, 74, 75, 76, 77, 78, 79, 80], [0, 1, 2, 3, 4, 5, 6, 7, 8, 9, 10, 11, 12, 13, 14, 15, 16, 17, 18, 19], [([], [], false), ([], [], false), ([], [], false), ([], [], false), ([67, 68], [67, 68], false), ([67, 68], [67, 68], false), ([65, 66], [65, 66], false), ([65, 66], [65, 66], false), ([], [], false), ([], [], false), ([], [], false), ([], [], false), ([], [], false), ([], [], false), ([], [], false), ([], [], false), ([], [], false), ([], [], false), ([], [], false), ([], [], false)]⟩ (by kernel_rfl) rfl ?_
    refine go2 ?_
    repeat' (first
      | exact retV rfl (bad (fun h => by obtain ⟨h1, h2, h3, h4, h5⟩ := h; first | omega | (have := h5 rfl; omega))) rfl rfl
      | (refine WO.call rfl rfl rfl (implBitsOf _ (by omega) (by omega)) rfl rfl ?_
         refine go2 ?_
         exact lpK.mk (i + 1, n + bitsN x.max.toNat) (.cons rfl (.cons rfl (.cons rfl (.cons rfl (.cons rfl .nil))))) ⟨by dsimp only; omega, good (by refine ⟨by omega, by omega, by omega, by omega, ?_⟩; first | (intro; omega) | simp), by dsimp only; omega⟩ (by dsimp only; omega))
      | (refine WO.call rfl rfl rfl (greatest p (by omega) h8) rfl rfl ?_; refine go2 ?_)
      | (refine WD.call rfl rfl rfl rfl rfl rfl rfl (greatest p (by omega) h8) rfl rfl rfl ?_; refine go2 ?_)
      | (refine WD.cmp rfl rfl rfl rfl rfl rfl rfl rfl rfl rfl (fun _ => ?_) (fun _ => ?_) <;> refine go2 ?_)
      | (refine WO.cmp rfl rfl rfl rfl rfl (fun _ => ?_) (fun _ => ?_) <;> refine go2 ?_))
  have hi : i = p.secs.length := by omega
  rw [hi, List.take_length] at g3
  have ok2 : ∀ x ∈ p.secs, inOk p.w false x := all_of_getD zi fun j hj => g2 j (by omega)
  refine go2 ?_
  refine WO.cmp rfl rfl rfl rfl rfl (fun c3 => ?_) (fun c3 => ?_) <;> refine go2 ?_
  · exact retV rfl (bool_eq hr (by simp only [true_iff]; exact ⟨by omega, by omega, ok1, ok2, by omega⟩)) rfl rfl
  · exact retV rfl (no fun h => by have := h.2.2.2.2; omega) rfl rfl
end Go.Eng.C

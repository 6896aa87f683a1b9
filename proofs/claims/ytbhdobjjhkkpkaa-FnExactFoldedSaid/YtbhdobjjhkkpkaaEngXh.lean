/- Contracts of functions, by the engine: the steps of the reference; nodes of the program. -/
import Derived.Test.YtbhdobjjhkkpkaaEngXg
import Derived.Test.YtbhdobjjhkkpkaaEngXf
namespace Go.Eng.C
open Go Go.Eng Go.RowKit Go.Proofs
set_option linter.unusedVariables false
set_option linter.unusedSimpArgs false
set_option maxRecDepth 10000
variable {X : FuncId → List AV → AV → List AV → Prop}

theorem l1Max (a b : Int) : Ev Try.prog X (.fn 175 [i64 a, i64 b] (i64 (max a b)) [.dead, .dead]) := by
  refine Ev.fnW (env := [(0, i64 a), (1, i64 b)]) Try.func175 rfl nm_spec_l1Max rfl rfl (by kernel_rfl) (.cons rfl (.cons rfl .nil)) ?_
  refine go2 ?_
  refine WO.cmp rfl rfl rfl rfl rfl (fun h => ?_) (fun h => ?_) <;> refine go2 ?_
  · exact retV rfl (congrArg i64 (by omega)) rfl rfl
  · exact retV rfl (congrArg i64 (by omega)) rfl rfl
theorem l3End1 (x : List St) (hx : x.length ≤ 1000) (a : Nat) (ha : a < x.length) {m e : Int} (h : midI (E x a) = m ∧ endI (E x a) = e) : Ev Try.prog X (.fn 174 [.im x.length (encL stR x), i64 a] (.tu [i64 m, i64 e]) [.dead, .dead]) := by
  have := l3End (X := X) x hx a ha
  rwa [h.1, h.2] at this
set_option maxHeartbeats 20000000 in
theorem l3Steps (x : List St) (hx : x.length ≤ 40) (hL : loopOk x) : ∀ (k a s : Nat) (r : Ns), s - a ≤ k → a ≤ x.length → Bk x a s r → Ev Try.prog X (.fn 116 [.im x.length (encL stR x), i64 a, i64 s] (i64 (stp x r)) [.dead, .dead, .dead]) := by
  intro k
  induction k using Nat.strongRecOn with
  | ind k ih =>
  intro a s r hk ha hr
  have hsl := hr.lt ha
  have bd0 := stp_bd hL hx hr ha
  refine Ev.fnW (env := [(0, .im x.length (encL stR x)), (1, i64 a), (2, i64 s)]) Try.func116 rfl nm_spec_l3Steps rfl rfl (by kernel_rfl) (.cons rfl (.cons rfl (.cons rfl .nil))) ?_
  refine go2 ?_
  refine WC.loopS (S := Nat × Int × Ns) (fun v => [(0, .im x.length (encL stR x)), (2, i64 s), (7, i64 v.2.1), (8, i64 v.1)]) (fun v => a ≤ v.1 ∧ Bk x v.1 s v.2.2 ∧ 0 ≤ v.2.1 ∧ v.2.1 + stp x v.2.2 = stp x r) (fun v => s - v.1) (a, 0, r) (.cons rfl (.cons rfl (.cons rfl (.cons rfl .nil)))) ⟨Nat.le_refl _, hr, by simp, by simp⟩ ?_
  rintro ⟨c, n, q⟩ ⟨g1, g2, g3, g4⟩
  dsimp only at g1 g2 g3 g4 ⊢
  have hcs := g2.le
  refine go2 ?_
  refine WO.cmp rfl rfl rfl rfl rfl (fun h3 => ?_) (fun h3 => ?_)
  · have hc : c < x.length := by omega
    have hop : opA x c = (x.getD c zst).op := rfl
    have hnA : nA x c = (x.getD c zst).n := rfl
    have bdq := stp_bd hL hx g2 (by omega)
    have e1 : (c : Int) + 1 = ((c + 1 : Nat) : Int) := by omega
    cases g2 with
    | nil _ h => omega
    | @leaf _ _ q' h hs hn hr' =>
      have hE : E x c = none := by simp [E, hn]
      unfold nestA at hn
      have e2 : stp x (.cons c .nil .nil q') = 1 + stp x q' := by
        simp only [stp]; rw [if_neg (by omega), if_neg (by omega), if_neg (by omega)]
      rw [hop] at hn
      refine go2 ?_
      refine WO.call rfl rfl rfl (l3End1 x (by omega) c hc (m := -1) (e := -1) (by rw [hE]; exact ⟨rfl, rfl⟩)) rfl rfl ?_
      refine go2 ?_
      refine WO.ixN (f := stR) zst rfl rfl rfl hc rfl ?_
      refine go2 ?_
      rw [e1]
      exact lpK.mk (c + 1, n + 1, q') (.cons rfl (.cons rfl (.cons rfl (.cons rfl .nil)))) ⟨by dsimp only; omega, hr', by dsimp only; omega, by dsimp only; omega⟩ (by dsimp only; omega)
    | @one _ e _ b q' h hn hb he hE hr' =>
      have hle := hb.le
      have hle2 := hr'.le
      have bdb := stp_bd hL hx hb (by omega)
      have bdr := stp_bd hL hx hr' (by omega)
      have ee : (e : Int) + 1 = ((e + 1 : Nat) : Int) := by omega
      have ib := ih (e - (c + 1)) (by omega) (c + 1) e b (Nat.le_refl _) (by omega) hb
      refine go2 ?_
      refine WO.call rfl rfl rfl (l3End1 x (by omega) c hc (m := -1) (e := e) (by rw [hE]; exact ⟨rfl, rfl⟩)) rfl rfl ?_
      refine go2 ?_
      refine WO.ixN (f := stR) zst rfl rfl rfl hc rfl ?_
      rcases hn with hn | hn
      · have e2 : stp x (.cons c b .nil q') = 1 + stp x b + stp x q' := by
          simp only [stp]; rw [if_pos hn, Int.max_eq_left bdb.1]
        rw [hop] at hn
        refine go2 ?_
        rw [e1]
        refine WO.call rfl rfl rfl ib rfl rfl ?_
        refine go2 ?_
        rw [ee]
        exact lpK.mk (e + 1, n + 1 + stp x b, q') (.cons rfl (.cons rfl (.cons rfl (.cons rfl .nil)))) ⟨by dsimp only; omega, hr', by dsimp only; omega, by dsimp only; omega⟩ (by dsimp only; omega)
      · have hl := hL c hc hn
        have m1 : nA x c * (1 + stp x b) ≤ 4 * (1 + stp x b) := Int.mul_le_mul_of_nonneg_right hl.2 (by omega)
        have m2 : 0 ≤ nA x c * (1 + stp x b) := Int.mul_nonneg hl.1 (by omega)
        have e2 : stp x (.cons c b .nil q') = 1 + nA x c * (1 + stp x b) + stp x q' := by
          simp only [stp]; rw [if_neg (by omega), if_pos hn]
        rw [hop] at hn
        rw [hnA] at m1 m2 e2
        refine go2 ?_
        refine WC.regionD ⟨[[], [0], [], [], [2, 3], [2, 3, 4], [2, 3, 4, 5], [], [], [8], [], [7, 8, 9, 10], [7, 8, 9, 10, 11], [2, 3, 4, 5, 6, 7, 8, 9, 10, 11, 12], [0, 1, 2, 3, 4, 5, 6, 7, 8, 9, 10, 11, 12, 13], [0, 1, 2, 3, 4, 5, 6, 7, 8, 9, 10, 11, 12, 13, 14]], [0, 1, 2, 3, 4, 5, 6, 7, 8, 9, 10, 11, 12, 13, 14], [], [56, 57, 58, 59, 60, 61, 62, 63, 64, 65, 66, 67, 68, 69, 70], [0, 1, 2, 3, 4, 5, 6, 7, 8, 9, 10, 11, 12, 13, 14, 15], [([58, 59, 60, 61, 62, 63, 64, 65, 66, 67, 68, 69], [58, 59, 60, 61, 62, 63, 64, 65, 66, 67, 68, 69], false), ([58, 59, 60, 61, 62, 63, 64, 65, 66, 67, 68, 69], [58, 59, 60, 61, 62, 63, 64, 65, 66, 67, 68, 69], false), ([56, 57, 59, 63, 64, 65, 66, 67, 68], [56, 57, 59, 63, 64, 65, 66, 67, 68], false), ([56, 57, 58, 63, 64, 65, 66, 67, 68], [56, 57, 58, 63, 64, 65, 66, 67, 68], false), ([56, 57, 63, 64, 65, 66, 67, 68], [56, 57, 63, 64, 65, 66, 67, 68], false), ([56, 57, 63, 64, 65, 66, 67, 68], [56, 57, 63, 64, 65, 66, 67, 68], false), ([56, 57, 63, 64, 65, 66, 67, 68], [56, 57, 63, 64, 65, 66, 67, 68], false), ([56, 57, 58, 59, 60, 61, 62, 64, 65, 66], [56, 57, 58, 59, 60, 61, 62, 64, 65, 66], false), ([56, 57, 58, 59, 60, 61, 62, 63, 66], [56, 57, 58, 59, 60, 61, 62, 63, 66], false), ([56, 57, 58, 59, 60, 61, 62, 63, 66], [56, 57, 58, 59, 60, 61, 62, 63, 66], false), ([56, 57, 58, 59, 60, 61, 62, 63, 64, 65], [56, 57, 58, 59, 60, 61, 62, 63, 64, 65], false), ([56, 57, 58, 59, 60, 61, 62], [56, 57, 58, 59, 60, 61, 62], false), ([56, 57, 58, 59, 60, 61, 62], [56, 57, 58, 59, 60, 61, 62], false), ([56, 57], [56, 57], false), ([], [], false), ([], [], false)]⟩ (by kernel_rfl) rfl ?_
        refine go2 ?_
        refine WD.q rfl rfl rfl rfl rfl (QE.ixN (f := stR) zst rfl rfl hc) rfl rfl rfl ?_
        refine go2 ?_
        rw [e1]
        refine WD.call rfl rfl rfl rfl rfl rfl rfl ib rfl rfl rfl ?_
        refine go2 ?_
        refine WD.q rfl rfl rfl rfl rfl (QE.bin (v := .int .i64 ((x.getD c zst).n * (1 + stp x b))) rfl rfl (by simp only [bin64]; rw [w64 (by omega) (by omega)]) rfl) rfl rfl rfl ?_
        refine go2 ?_
        rw [ee]
        exact lpK.mk (e + 1, n + 1 + (x.getD c zst).n * (1 + stp x b), q') (.cons rfl (.cons rfl (.cons rfl (.cons rfl .nil)))) ⟨by dsimp only; omega, hr', by dsimp only; omega, by dsimp only; omega⟩ (by dsimp only; omega)
    | @two _ d e _ b o q' h hn hb ho he hE hr' =>
      have hle := hb.le
      have hle2 := hr'.le
      have hle3 := ho.le
      have hel := he.1
      have bdb := stp_bd hL hx hb (by omega)
      have bdo := stp_bd hL hx ho (by omega)
      have bdr := stp_bd hL hx hr' (by omega)
      have ee : (e : Int) + 1 = ((e + 1 : Nat) : Int) := by omega
      have ed : (d : Int) + 1 = ((d + 1 : Nat) : Int) := by omega
      have ib := ih (d - (c + 1)) (by omega) (c + 1) d b (Nat.le_refl _) (by omega) hb
      have io := ih (e - (d + 1)) (by omega) (d + 1) e o (Nat.le_refl _) (by omega) ho
      refine go2 ?_
      refine WO.call rfl rfl rfl (l3End1 x (by omega) c hc (m := d) (e := e) (by rw [hE]; exact ⟨rfl, rfl⟩)) rfl rfl ?_
      refine go2 ?_
      refine WO.ixN (f := stR) zst rfl rfl rfl hc rfl ?_
      rcases hn with hn | hn
      · have e2 : stp x (.cons c b o q') = 1 + max (stp x b) (stp x o) + stp x q' := by
          simp only [stp]; rw [if_pos hn.1]
        replace hn := hn.1
        rw [hop] at hn
        have hmx : max (stp x b) (stp x o) ≤ 4000000000000000 := by omega
        have hmx0 : 0 ≤ max (stp x b) (stp x o) := by omega
        refine go2 ?_
        rw [e1]
        refine WO.call rfl rfl rfl ib rfl rfl ?_
        refine go2 ?_
        rw [ed]
        refine WO.call rfl rfl rfl io rfl rfl ?_
        refine WO.call rfl rfl rfl (l1Max _ _) rfl rfl ?_
        generalize max (stp x b) (stp x o) = mx at *
        refine go2 ?_
        rw [ee]
        exact lpK.mk (e + 1, n + 1 + mx, q') (.cons rfl (.cons rfl (.cons rfl (.cons rfl .nil)))) ⟨by dsimp only; omega, hr', by dsimp only; omega, by dsimp only; omega⟩ (by dsimp only; omega)
      · have e2 : stp x (.cons c b o q') = 1 + stp x b + stp x o + stp x q' := by
          simp only [stp]; rw [if_neg (by omega), if_neg (by omega), if_pos hn.1]
        replace hn := hn.1
        rw [hop] at hn
        refine go2 ?_
        rw [e1]
        refine WO.call rfl rfl rfl ib rfl rfl ?_
        refine go2 ?_
        rw [ed]
        refine WO.call rfl rfl rfl io rfl rfl ?_
        refine go2 ?_
        rw [ee]
        exact lpK.mk (e + 1, n + 1 + stp x b + stp x o, q') (.cons rfl (.cons rfl (.cons rfl (.cons rfl .nil)))) ⟨by dsimp only; omega, hr', by dsimp only; omega, by dsimp only; omega⟩ (by dsimp only; omega)
  · have hq : stp x q = 0 := by
      have hcs' : c = s := by omega
      cases g2 with
      | nil => rfl
      | leaf h hs hn hr => have := hr.le; omega
      | one h hn hb he hE hr => have := hr.le; have := hb.le; omega
      | two h hn hb ho he hE hr => have := hr.le; have := hb.le; have := ho.le; omega
    refine go2 ?_
    exact retV rfl (congrArg i64 (by omega)) rfl rfl
end Go.Eng.C

/- Contracts of functions, by the engine: reckoning (printed by mk/mkxr2.py). -/
import Derived.Test.YtbhdobjjhkkpkaaEngXq
import Derived.Test.YtbhdobjjhkkpkaaEngXo
import Derived.Test.YtbhdobjjhkkpkaaEngB4
import Derived.Test.YtbhdobjjhkkpkaaEngV1
namespace Go.Eng.C
open Go Go.Eng Go.RowKit Go.Proofs
set_option linter.unusedVariables false
set_option linter.unusedSimpArgs false
set_option maxRecDepth 10000
variable {X : FuncId → List AV → AV → List AV → Prop}
theorem nm_impl_reckon : (Try.f76.name == "runtime.NumGoroutine") = false := by decide
/-- An expression fits surroundings: what it names is there. -/
structure VFit (p : Pr) (v : Vs) (e : List Tm) : Prop where
  vs : ∀ x ∈ v.vars, inW p.w x
  num : ∀ t ∈ e, t.op = 0 → t.n < sizeW p.w
  var : ∀ t ∈ e, t.op = 1 → t.n < (v.vars.length : Int)
  cell : ∀ t ∈ e, t.op = 2 → 0 ≤ t.n → t.n < (p.arrs.length : Int) ∧ t.n < (v.cells.length : Int) ∧ ((v.cells.getD t.n.toNat []).length : Int) = p.arrs.getD t.n.toNat 0 ∧ ∀ x ∈ v.cells.getD t.n.toNat [], inW p.w x
theorem EOk.fit {p : Pr} {v : Vs} {e : List Tm} (hv : EOk p v) (he : reckOk p e) : VFit p v e := by
  have h1 := hv.n
  have h2 := hv.m
  refine ⟨hv.vs, fun t ht h => (he.2 t ht).1 h, fun t ht h => ?_, fun t ht h h0 => ?_⟩
  · have := (he.2 t ht).2.1 h; omega
  · have h3 := (he.2 t ht).2.2 h
    obtain ⟨c1, c2⟩ := hv.c t.n.toNat (by omega)
    exact ⟨h3, by omega, c1, c2⟩
theorem rp_cons (w : Int) (v : Vs) (t : Tm) (l : List Tm) (s : List Int) (b : Nat) (hb : b = s.length - (tks t.op).toNat) {V c : Int} (hv : val1 w v t (s.drop b) = (V, c)) : (rp w v (t :: l) s).1 = (rp w v l (s.take b ++ [V])).1 := by
  subst hb
  simp only [rp, hv]
set_option maxHeartbeats 40000000 in
theorem reckon (p : Pr) (v : Vs) (e : List Tm) (w1 : 1 ≤ p.w) (w8 : p.w ≤ 8) (hB : PB p) (heo : expOk e = true) (hv : VFit p v e) : Ev Try.prog X (.fn 76 [.ip (prR p), .ip (enR v), .im e.length (encL tm e), .sc (.bool false)] (.tu [i64 (rk p.w v e []).1, i64 (rk p.w v e []).2]) [.dead, .dead, .dead, .dead]) := by
  obtain ⟨hsz, hsz8⟩ := sizeW_bd w8
  have hB3 := hB.a
  simp only [expOk, Bool.and_eq_true, decide_eq_true_eq] at heo
  obtain ⟨hel, heh⟩ := heo
  refine Ev.fnW (env := [(0, .ip (prR p)), (1, .ip (enR v)), (2, .im e.length (encL tm e)), (3, .sc (.bool false))]) Try.func76 rfl nm_impl_reckon rfl rfl (by kernel_rfl) (.cons rfl (.cons rfl (.cons rfl (.cons rfl .nil)))) ?_
  refine go2 ?_
  refine WC.loopS (S := Nat × List Int) (fun s => [(0, .ip (prR p)), (1, .ip (enR v)), (3, .sc (.bool false)), (10, .ow 2 1 s.2.length (encL eI s.2)), (18, .im e.length (encL tm e)), (19, i64 e.length), (20, i64 s.1)]) (fun s => s.1 ≤ e.length ∧ rk p.w v (e.drop s.1) s.2 = rk p.w v e [] ∧ hgt (e.drop s.1) s.2.length = some 1 ∧ (∀ x ∈ s.2, inW p.w x) ∧ s.2.length ≤ s.1) (fun s => e.length - s.1) (0, []) (.cons rfl (.cons rfl (.cons rfl (.cons rfl (.cons rfl (.cons rfl (.cons rfl .nil))))))) ⟨Nat.zero_le _, rfl, heh, (fun x hx => by simp at hx), Nat.le_refl _⟩ ?_
  rintro ⟨k, s⟩ ⟨g1, g2, g3, g4, g5⟩
  dsimp only at g1 g2 g3 g4 g5 ⊢
  refine go2 ?_
  refine WO.cmp rfl rfl rfl rfl rfl (fun h3 => ?_) (fun h3 => ?_)
  · have hk : k < e.length := by omega
    obtain ⟨t, ht⟩ : ∃ t, t = e.getD k ⟨0, 0⟩ := ⟨_, rfl⟩
    have htm : t ∈ e := by rw [ht]; simp [List.getD_eq_getElem?_getD, hk]
    have hdr : e.drop k = t :: e.drop (k + 1) := by rw [ht]; exact drop_getD hk ⟨0, 0⟩
    rw [hdr] at g2 g3
    simp only [hgt] at g3
    split at g3
    case isFalse => cases g3
    rename_i htk
    obtain ⟨⟨t0, t1, t2, t3⟩, htk⟩ := htk
    have htr := tks_range t.op
    obtain ⟨b, hb⟩ : ∃ b : Nat, b = s.length - (tks t.op).toNat := ⟨_, rfl⟩
    have hb1 : (s.length : Int) - tks t.op = b := by omega
    have hbl : b ≤ s.length := by omega
    have g3' : ∀ V : Int, hgt (e.drop (k + 1)) (s.take b ++ [V]).length = some 1 := by
      intro V
      rw [← g3]; congr 1; simp; omega
    have hrk : ∀ {V c : Int}, val1 p.w v t (s.drop b) = (V, c) → (if c ≠ 0 then (0, c) else rk p.w v (e.drop (k + 1)) (s.take b ++ [V])) = rk p.w v e [] := fun h => by rw [← g2]; exact (rk_cons p.w v t _ s b hb h).symm
    have fin : ∀ {V : Int}, val1 p.w v t (s.drop b) = (V, 0) → inW p.w V → k + 1 ≤ e.length ∧ rk p.w v (e.drop (k + 1)) (s.take b ++ [V]) = rk p.w v e [] ∧ hgt (e.drop (k + 1)) (s.take b ++ [V]).length = some 1 ∧ (∀ x ∈ s.take b ++ [V], inW p.w x) ∧ (s.take b ++ [V]).length ≤ k + 1 := by
      intro V h1 h2
      refine ⟨hk, hrk h1, g3' V, fun x hx => ?_, by simp; omega⟩
      rcases List.mem_append.1 hx with h | h
      · exact g4 x (List.mem_of_mem_take h)
      · simp only [List.mem_singleton] at h; subst h; exact h2
    have bad : ∀ {V c : Int}, val1 p.w v t (s.drop b) = (V, c) → c ≠ 0 → rk p.w v e [] = (0, c) := fun h hc => by rw [← hrk h, if_pos hc]
    have dj := getD_drop0 s b
    refine go2 ?_
    refine WO.ixN (f := tm) ⟨0, 0⟩ rfl rfl rfl hk rfl ?_
    rw [← ht]
    refine go2 ?_
    refine WO.call rfl rfl rfl (implTakesOf t.op) rfl rfl ?_
    refine go2 ?_
    rw [hb1]
    refine WO.q rfl (QE.slT (b := b) rfl rfl (by rw [encL_len1]; exact Nat.le_refl _) rfl hbl) rfl rfl ?_
    refine go2 ?_
    have hop : t.op = 0 ∨ t.op = 1 ∨ t.op = 2 ∨ (t.op = 3 ∨ t.op = 4) ∨ t.op = 17 ∨ (5 ≤ t.op ∧ t.op ≤ 16) := by unfold tks at t0; omega
    rcases hop with h | h | h | h | h | h
    · refine go2 ?_
      refine WO.q rfl (QE.slH (b := b) rfl rfl (by rw [encL_len1]; exact Nat.le_refl _) rfl hbl) rfl rfl ?_
      refine go2 ?_
      refine WO.bsA (us := [i64 (t.n)]) (cs := encL eI [t.n]) rfl rfl rfl rfl rfl (by kernel_rfl) rfl ?_
      refine WO.hard (r := 139) (p := []) (x := .ow 2 1 1 (encL eI [t.n])) (y := .im 1 [.sc (.int .i64 (t.n))]) rfl rfl rfl ?_
      refine WO.apTI rfl rfl rfl hbl rfl rfl rfl (by unfold maxLen; omega) (by omega) rfl ?_
      rw [pile_app s b hbl (t.n)]
      refine WO.cln 10 ?_
      refine go2 ?_
      exact lpK.mk (k + 1, s.take b ++ [t.n]) (.cons rfl (.cons rfl (.cons rfl (.cons rfl (.cons rfl (.cons rfl (.cons rfl .nil))))))) (fin (by simp [val1, h]) (⟨t1, hv.num t htm h⟩)) (by dsimp only; omega)
    · have hvl : t.n < (v.vars.length : Int) := hv.var t htm h
      refine go2 ?_
      refine WC.regionDd ⟨[[], [0], [0, 1], [0, 1, 2], [], [4], [0, 1, 2, 3, 4, 5], [0, 1, 2, 3, 4, 5, 6], [0, 1, 2, 3, 4, 5, 6, 7]], [0, 1, 2, 3, 4, 5, 6, 7], [], [68, 69, 70, 71, 72, 73, 74, 75], [0, 1, 2, 3, 4, 5, 6, 7, 8], [([72, 73], [72, 73], false), ([72, 73], [72, 73], false), ([72, 73], [72, 73], false), ([72, 73], [72, 73], false), ([68, 69, 70, 71], [68, 69, 70, 71], false), ([68, 69, 70, 71], [68, 69, 70, 71], false), ([], [], false), ([], [], false), ([], [], false)]⟩ (by kernel_rfl) ?_
      refine go2 ?_
      refine WD.q rfl rfl rfl rfl rfl (QE.ixI (f := eI) 0 rfl rfl t1 hvl) rfl rfl rfl ?_
      refine go2 ?_
      refine WO.q rfl (QE.slH (b := b) rfl rfl (by rw [encL_len1]; exact Nat.le_refl _) rfl hbl) rfl rfl ?_
      refine go2 ?_
      refine WO.bsA (us := [i64 (v.vars.getD t.n.toNat 0)]) (cs := encL eI [v.vars.getD t.n.toNat 0]) rfl rfl rfl rfl rfl (by kernel_rfl) rfl ?_
      refine WO.hard (r := 139) (p := []) (x := .ow 2 1 1 (encL eI [v.vars.getD t.n.toNat 0])) (y := .im 1 [.sc (.int .i64 (v.vars.getD t.n.toNat 0))]) rfl rfl rfl ?_
      refine WO.apTI rfl rfl rfl hbl rfl rfl rfl (by unfold maxLen; omega) (by omega) rfl ?_
      rw [pile_app s b hbl (v.vars.getD t.n.toNat 0)]
      refine WO.cln 10 ?_
      refine go2 ?_
      exact lpK.mk (k + 1, s.take b ++ [v.vars.getD t.n.toNat 0]) (.cons rfl (.cons rfl (.cons rfl (.cons rfl (.cons rfl (.cons rfl (.cons rfl .nil))))))) (fin (by simp [val1, h]) (getD_in (q := inW p.w) hv.vs (by omega))) (by dsimp only; omega)
    · have hk1 : tks t.op = 1 := by rw [h]; rfl
      obtain ⟨hal, hcl, c1, c2⟩ := hv.cell t htm h t1
      obtain ⟨y0, y1⟩ := getD_in (q := inW p.w) g4 (i := b + 0) (by omega)
      refine go2 ?_
      refine WC.regionDd ⟨[[], [0], [0, 1], [], [3], [3, 4], [3, 4, 5], [], [7], [3, 4, 5, 6, 7, 8], [3, 4, 5, 6, 7, 8, 9], [0, 1, 2, 3, 4, 5, 6, 7, 8, 9, 10]], [0, 1, 2, 3, 4, 5, 6, 7, 8, 9, 10, 11], [], [78, 79, 80, 81, 82, 83, 84, 85, 86, 87, 88, 89], [0, 1, 2, 3, 4, 5, 6, 7, 8, 9, 10, 11], [([81, 82, 83, 84, 85, 86, 87, 88], [81, 82, 83, 84, 85, 86, 87, 88], false), ([81, 82, 83, 84, 85, 86, 87, 88], [81, 82, 83, 84, 85, 86, 87, 88], false), ([81, 82, 83, 84, 85, 86, 87, 88], [81, 82, 83, 84, 85, 86, 87, 88], false), ([78, 79, 80, 85, 86], [78, 79, 80, 85, 86], false), ([78, 79, 80, 85, 86], [78, 79, 80, 85, 86], false), ([78, 79, 80, 85, 86], [78, 79, 80, 85, 86], false), ([78, 79, 80, 85, 86], [78, 79, 80, 85, 86], false), ([78, 79, 80, 81, 82, 83, 84], [78, 79, 80, 81, 82, 83, 84], false), ([78, 79, 80, 81, 82, 83, 84], [78, 79, 80, 81, 82, 83, 84], false), ([78, 79, 80], [78, 79, 80], false), ([78, 79, 80], [78, 79, 80], false), ([], [], false)]⟩ (by kernel_rfl) ?_
      refine go2 ?_
      refine WD.q rfl rfl rfl rfl rfl (QE.ixT 0 rfl rfl (by rw [encL_len1]; omega) rfl (by omega)) rfl rfl rfl ?_
      refine WD.q rfl rfl rfl rfl rfl (QE.ldT rfl rfl (by omega)) rfl rfl rfl ?_
      by_cases hlt : s.getD (b + 0) 0 < p.arrs.getD t.n.toNat 0
      · have hval : val1 p.w v t (s.drop b) = ((v.cells.getD t.n.toNat []).getD (s.getD (b + 0) 0).toNat 0, 0) := by simp only [val1, h]; rw [dj, if_neg (by decide), if_neg (by decide), if_pos True.intro, if_pos (by omega)]
        refine go2 ?_
        refine WD.q rfl rfl rfl rfl rfl (QE.ixI (f := eI) 0 rfl rfl t1 hal) rfl rfl rfl ?_
        refine go2 ?_
        refine WC.regionDd ⟨[[], [0], [0, 1], [0, 1, 2], [], [4], [0, 1, 2, 3, 4, 5], [0, 1, 2, 3, 4, 5, 6], [], [8], [8, 9], [0, 1, 2, 3, 4, 5, 6, 7, 8, 9, 10], [0, 1, 2, 3, 4, 5, 6, 7, 8, 9, 10, 11], [0, 1, 2, 3, 4, 5, 6, 7, 8, 9, 10, 11, 12]], [0, 1, 2, 3, 4, 5, 6, 7, 8, 9, 10, 11, 12], [], [90, 91, 92, 93, 94, 95, 96, 97, 98, 99, 100, 101, 102], [0, 1, 2, 3, 4, 5, 6, 7, 8, 9, 10, 11, 12, 13], [([94, 95, 98, 99, 100], [94, 95, 98, 99, 100], false), ([94, 95, 98, 99, 100], [94, 95, 98, 99, 100], false), ([94, 95, 98, 99, 100], [94, 95, 98, 99, 100], false), ([94, 95, 98, 99, 100], [94, 95, 98, 99, 100], false), ([90, 91, 92, 93, 98, 99, 100], [90, 91, 92, 93, 98, 99, 100], false), ([90, 91, 92, 93, 98, 99, 100], [90, 91, 92, 93, 98, 99, 100], false), ([98, 99, 100], [98, 99, 100], false), ([98, 99, 100], [98, 99, 100], false), ([90, 91, 92, 93, 94, 95, 96, 97], [90, 91, 92, 93, 94, 95, 96, 97], false), ([90, 91, 92, 93, 94, 95, 96, 97], [90, 91, 92, 93, 94, 95, 96, 97], false), ([90, 91, 92, 93, 94, 95, 96, 97], [90, 91, 92, 93, 94, 95, 96, 97], false), ([], [], false), ([], [], false), ([], [], false)]⟩ (by kernel_rfl) ?_
        refine go2 ?_
        refine WD.q rfl rfl rfl rfl rfl (QE.ixI (f := eRow) [] rfl rfl t1 hcl) rfl rfl rfl ?_
        refine go2 ?_
        refine WD.q rfl rfl rfl rfl rfl (QE.ixT 0 rfl rfl (by rw [encL_len1]; omega) rfl (by omega)) rfl rfl rfl ?_
        refine WD.q rfl rfl rfl rfl rfl (QE.ldT rfl rfl (by omega)) rfl rfl rfl ?_
        refine go2 ?_
        refine WD.q rfl rfl rfl rfl rfl (QE.ixI (f := eI) 0 rfl rfl y0 (by omega)) rfl rfl rfl ?_
        refine go2 ?_
        refine WO.q rfl (QE.slH (b := b) rfl rfl (by rw [encL_len1]; exact Nat.le_refl _) rfl hbl) rfl rfl ?_
        refine go2 ?_
        refine WO.bsA (us := [i64 ((v.cells.getD t.n.toNat []).getD (s.getD (b + 0) 0).toNat 0)]) (cs := encL eI [(v.cells.getD t.n.toNat []).getD (s.getD (b + 0) 0).toNat 0]) rfl rfl rfl rfl rfl (by kernel_rfl) rfl ?_
        refine WO.hard (r := 139) (p := []) (x := .ow 2 1 1 (encL eI [(v.cells.getD t.n.toNat []).getD (s.getD (b + 0) 0).toNat 0])) (y := .im 1 [.sc (.int .i64 ((v.cells.getD t.n.toNat []).getD (s.getD (b + 0) 0).toNat 0))]) rfl rfl rfl ?_
        refine WO.apTI rfl rfl rfl hbl rfl rfl rfl (by unfold maxLen; omega) (by omega) rfl ?_
        rw [pile_app s b hbl ((v.cells.getD t.n.toNat []).getD (s.getD (b + 0) 0).toNat 0)]
        refine WO.cln 10 ?_
        refine go2 ?_
        exact lpK.mk (k + 1, s.take b ++ [(v.cells.getD t.n.toNat []).getD (s.getD (b + 0) 0).toNat 0]) (.cons rfl (.cons rfl (.cons rfl (.cons rfl (.cons rfl (.cons rfl (.cons rfl .nil))))))) (fin (hval) (getD_in (q := inW p.w) c2 (by omega))) (by dsimp only; omega)
      · have hval : val1 p.w v t (s.drop b) = (0, 2) := by simp only [val1, h]; rw [dj, if_neg (by decide), if_neg (by decide), if_pos True.intro, if_neg (by omega)]
        refine go2 ?_
        refine WD.q rfl rfl rfl rfl rfl (QE.ixI (f := eI) 0 rfl rfl t1 hal) rfl rfl rfl ?_
        rw [bad (hval) (by decide)]
        refine go2 ?_
        exact retVV rfl rfl rfl rfl rfl
    · have hk1 : tks t.op = 1 := by rcases h with h | h <;> rw [h] <;> rfl
      obtain ⟨y0, y1⟩ := getD_in (q := inW p.w) g4 (i := b + 0) (by omega)
      have hval : val1 p.w v t (s.drop b) = (tn p.w t.op (s.getD (b + 0) 0), 0) := by simp only [val1]; rw [dj, if_neg (by omega), if_neg (by omega), if_neg (by omega), if_pos h]
      have hop := h
      rcases h with h | h
      · refine go2 ?_
        refine WC.regionDd ⟨[[], [0], [0, 1], [0, 1, 2], [], [4], [], [6], [6, 7], [0, 1, 2, 3, 4, 5, 6, 7, 8], [0, 1, 2, 3, 4, 5, 6, 7, 8, 9]], [0, 1, 2, 3, 4, 5, 6, 7, 8], [], [106, 107, 108, 109, 110, 111, 112, 113, 114], [0, 1, 2, 3, 4, 5, 6, 7, 8, 9, 10], [([110, 111, 112, 113, 114], [110, 111, 112, 113, 114], false), ([110, 111, 112, 113, 114], [110, 111, 112, 113, 114], false), ([110, 111, 112, 113, 114], [110, 111, 112, 113, 114], false), ([110, 111, 112, 113, 114], [110, 111, 112, 113, 114], false), ([106, 107, 108, 109, 112, 113, 114], [106, 107, 108, 109, 112, 113, 114], false), ([106, 107, 108, 109, 112, 113, 114], [106, 107, 108, 109, 112, 113, 114], false), ([106, 107, 108, 109, 110, 111], [106, 107, 108, 109, 110, 111], false), ([106, 107, 108, 109, 110, 111], [106, 107, 108, 109, 110, 111], false), ([106, 107, 108, 109, 110, 111], [106, 107, 108, 109, 110, 111], false), ([], [], false), ([], [], false)]⟩ (by kernel_rfl) ?_
        refine go2 ?_
        refine WD.q rfl rfl rfl rfl rfl (QE.ixT 0 rfl rfl (by rw [encL_len1]; omega) rfl (by omega)) rfl rfl rfl ?_
        refine WD.q rfl rfl rfl rfl rfl (QE.ldT rfl rfl (by omega)) rfl rfl rfl ?_
        refine go2 ?_
        refine WO.call rfl rfl rfl (turn p.w t.op (s.getD (b + 0) 0) w1 w8 hop y0 y1) rfl rfl ?_
        refine go2 ?_
        refine WO.q rfl (QE.slH (b := b) rfl rfl (by rw [encL_len1]; exact Nat.le_refl _) rfl hbl) rfl rfl ?_
        refine go2 ?_
        refine WO.bsA (us := [i64 (tn p.w t.op (s.getD (b + 0) 0))]) (cs := encL eI [tn p.w t.op (s.getD (b + 0) 0)]) rfl rfl rfl rfl rfl (by kernel_rfl) rfl ?_
        refine WO.hard (r := 139) (p := []) (x := .ow 2 1 1 (encL eI [tn p.w t.op (s.getD (b + 0) 0)])) (y := .im 1 [.sc (.int .i64 (tn p.w t.op (s.getD (b + 0) 0)))]) rfl rfl rfl ?_
        refine WO.apTI rfl rfl rfl hbl rfl rfl rfl (by unfold maxLen; omega) (by omega) rfl ?_
        rw [pile_app s b hbl (tn p.w t.op (s.getD (b + 0) 0))]
        refine WO.cln 10 ?_
        refine go2 ?_
        exact lpK.mk (k + 1, s.take b ++ [tn p.w t.op (s.getD (b + 0) 0)]) (.cons rfl (.cons rfl (.cons rfl (.cons rfl (.cons rfl (.cons rfl (.cons rfl .nil))))))) (fin (hval) (tn_bd8 w8 hop y0 y1)) (by dsimp only; omega)
      · refine go2 ?_
        refine WC.regionDd ⟨[[], [0], [0, 1], [0, 1, 2], [], [4], [], [6], [6, 7], [0, 1, 2, 3, 4, 5, 6, 7, 8], [0, 1, 2, 3, 4, 5, 6, 7, 8, 9]], [0, 1, 2, 3, 4, 5, 6, 7, 8], [], [106, 107, 108, 109, 110, 111, 112, 113, 114], [0, 1, 2, 3, 4, 5, 6, 7, 8, 9, 10], [([110, 111, 112, 113, 114], [110, 111, 112, 113, 114], false), ([110, 111, 112, 113, 114], [110, 111, 112, 113, 114], false), ([110, 111, 112, 113, 114], [110, 111, 112, 113, 114], false), ([110, 111, 112, 113, 114], [110, 111, 112, 113, 114], false), ([106, 107, 108, 109, 112, 113, 114], [106, 107, 108, 109, 112, 113, 114], false), ([106, 107, 108, 109, 112, 113, 114], [106, 107, 108, 109, 112, 113, 114], false), ([106, 107, 108, 109, 110, 111], [106, 107, 108, 109, 110, 111], false), ([106, 107, 108, 109, 110, 111], [106, 107, 108, 109, 110, 111], false), ([106, 107, 108, 109, 110, 111], [106, 107, 108, 109, 110, 111], false), ([], [], false), ([], [], false)]⟩ (by kernel_rfl) ?_
        refine go2 ?_
        refine WD.q rfl rfl rfl rfl rfl (QE.ixT 0 rfl rfl (by rw [encL_len1]; omega) rfl (by omega)) rfl rfl rfl ?_
        refine WD.q rfl rfl rfl rfl rfl (QE.ldT rfl rfl (by omega)) rfl rfl rfl ?_
        refine go2 ?_
        refine WO.call rfl rfl rfl (turn p.w t.op (s.getD (b + 0) 0) w1 w8 hop y0 y1) rfl rfl ?_
        refine go2 ?_
        refine WO.q rfl (QE.slH (b := b) rfl rfl (by rw [encL_len1]; exact Nat.le_refl _) rfl hbl) rfl rfl ?_
        refine go2 ?_
        refine WO.bsA (us := [i64 (tn p.w t.op (s.getD (b + 0) 0))]) (cs := encL eI [tn p.w t.op (s.getD (b + 0) 0)]) rfl rfl rfl rfl rfl (by kernel_rfl) rfl ?_
        refine WO.hard (r := 139) (p := []) (x := .ow 2 1 1 (encL eI [tn p.w t.op (s.getD (b + 0) 0)])) (y := .im 1 [.sc (.int .i64 (tn p.w t.op (s.getD (b + 0) 0)))]) rfl rfl rfl ?_
        refine WO.apTI rfl rfl rfl hbl rfl rfl rfl (by unfold maxLen; omega) (by omega) rfl ?_
        rw [pile_app s b hbl (tn p.w t.op (s.getD (b + 0) 0))]
        refine WO.cln 10 ?_
        refine go2 ?_
        exact lpK.mk (k + 1, s.take b ++ [tn p.w t.op (s.getD (b + 0) 0)]) (.cons rfl (.cons rfl (.cons rfl (.cons rfl (.cons rfl (.cons rfl (.cons rfl .nil))))))) (fin (hval) (tn_bd8 w8 hop y0 y1)) (by dsimp only; omega)
    · have hk1 : tks t.op = 3 := by rw [h]; rfl
      obtain ⟨y0, y1⟩ := getD_in (q := inW p.w) g4 (i := b + 0) (by omega)
      have z1 := getD_in (q := inW p.w) g4 (i := b + 1) (by omega)
      have z2 := getD_in (q := inW p.w) g4 (i := b + 2) (by omega)
      refine go2 ?_
      refine WO.q rfl (QE.ixT 2 rfl rfl (by rw [encL_len1]; omega) rfl (by omega)) rfl rfl ?_
      refine WO.q rfl (QE.ldT rfl rfl (by omega)) rfl rfl ?_
      refine go2 ?_
      refine WO.q rfl (QE.ixT 0 rfl rfl (by rw [encL_len1]; omega) rfl (by omega)) rfl rfl ?_
      refine WO.q rfl (QE.ldT rfl rfl (by omega)) rfl rfl ?_
      by_cases h0 : s.getD (b + 0) 0 = 0
      · have hval : val1 p.w v t (s.drop b) = (s.getD (b + 2) 0, 0) := by simp only [val1, h]; rw [dj, dj, dj, if_neg (by decide), if_neg (by decide), if_neg (by decide), if_neg (by decide), if_pos True.intro, if_neg (by omega)]
        refine go2 ?_
        refine WO.q rfl (QE.slH (b := b) rfl rfl (by rw [encL_len1]; exact Nat.le_refl _) rfl hbl) rfl rfl ?_
        refine go2 ?_
        refine WO.bsA (us := [i64 (s.getD (b + 2) 0)]) (cs := encL eI [s.getD (b + 2) 0]) rfl rfl rfl rfl rfl (by kernel_rfl) rfl ?_
        refine WO.hard (r := 139) (p := []) (x := .ow 2 1 1 (encL eI [s.getD (b + 2) 0])) (y := .im 1 [.sc (.int .i64 (s.getD (b + 2) 0))]) rfl rfl rfl ?_
        refine WO.apTI rfl rfl rfl hbl rfl rfl rfl (by unfold maxLen; omega) (by omega) rfl ?_
        rw [pile_app s b hbl (s.getD (b + 2) 0)]
        refine WO.cln 10 ?_
        refine go2 ?_
        exact lpK.mk (k + 1, s.take b ++ [s.getD (b + 2) 0]) (.cons rfl (.cons rfl (.cons rfl (.cons rfl (.cons rfl (.cons rfl (.cons rfl .nil))))))) (fin (hval) (z2)) (by dsimp only; omega)
      · have hval : val1 p.w v t (s.drop b) = (s.getD (b + 1) 0, 0) := by simp only [val1, h]; rw [dj, dj, dj, if_neg (by decide), if_neg (by decide), if_neg (by decide), if_neg (by decide), if_pos True.intro, if_pos (by omega)]
        refine go2 ?_
        refine WO.q rfl (QE.ixT 1 rfl rfl (by rw [encL_len1]; omega) rfl (by omega)) rfl rfl ?_
        refine WO.q rfl (QE.ldT rfl rfl (by omega)) rfl rfl ?_
        refine go2 ?_
        refine WO.q rfl (QE.slH (b := b) rfl rfl (by rw [encL_len1]; exact Nat.le_refl _) rfl hbl) rfl rfl ?_
        refine go2 ?_
        refine WO.bsA (us := [i64 (s.getD (b + 1) 0)]) (cs := encL eI [s.getD (b + 1) 0]) rfl rfl rfl rfl rfl (by kernel_rfl) rfl ?_
        refine WO.hard (r := 139) (p := []) (x := .ow 2 1 1 (encL eI [s.getD (b + 1) 0])) (y := .im 1 [.sc (.int .i64 (s.getD (b + 1) 0))]) rfl rfl rfl ?_
        refine WO.apTI rfl rfl rfl hbl rfl rfl rfl (by unfold maxLen; omega) (by omega) rfl ?_
        rw [pile_app s b hbl (s.getD (b + 1) 0)]
        refine WO.cln 10 ?_
        refine go2 ?_
        exact lpK.mk (k + 1, s.take b ++ [s.getD (b + 1) 0]) (.cons rfl (.cons rfl (.cons rfl (.cons rfl (.cons rfl (.cons rfl (.cons rfl .nil))))))) (fin (hval) (z1)) (by dsimp only; omega)
    · have hk1 : tks t.op = 2 := by unfold tks; rw [if_neg (by omega), if_neg (by omega), if_pos h]
      obtain ⟨y0, y1⟩ := getD_in (q := inW p.w) g4 (i := b + 0) (by omega)
      obtain ⟨z0, z1⟩ := getD_in (q := inW p.w) g4 (i := b + 1) (by omega)
      have hval0 : val1 p.w v t (s.drop b) = if s.getD (b + 1) 0 = 0 ∧ (t.op = 8 ∨ t.op = 9) then (0, 1) else (jn p.w t.op (s.getD (b + 0) 0) (s.getD (b + 1) 0), 0) := by simp only [val1]; rw [dj, dj, dj, if_neg (by omega), if_neg (by omega), if_neg (by omega), if_neg (by omega), if_neg (by omega)]
      refine go2 ?_
      refine WO.q rfl (QE.ixT 1 rfl rfl (by rw [encL_len1]; omega) rfl (by omega)) rfl rfl ?_
      refine WO.q rfl (QE.ldT rfl rfl (by omega)) rfl rfl ?_
      by_cases hz1 : s.getD (b + 1) 0 = 0
      · by_cases h8 : t.op = 8
        · rw [if_pos ⟨hz1, .inl h8⟩] at hval0
          refine go2 ?_
          rw [bad (hval0) (by decide)]
          refine go2 ?_
          exact retVV rfl rfl rfl rfl rfl
        · by_cases h9 : t.op = 9
          · rw [if_pos ⟨hz1, .inr h9⟩] at hval0
            refine go2 ?_
            rw [bad (hval0) (by decide)]
            refine go2 ?_
            exact retVV rfl rfl rfl rfl rfl
          · have hval := hval0
            rw [if_neg (by omega)] at hval
            have hz : t.op = 8 ∨ t.op = 9 → s.getD (b + 1) 0 ≠ 0 := by omega
            refine go2 ?_
            refine WC.regionDd ⟨[[], [0], [0, 1], [0, 1, 2], [], [4], [], [6], [6, 7], [], [9], [9, 10], [0, 1, 2, 3, 4, 5, 6, 7, 8, 9, 10, 11], [0, 1, 2, 3, 4, 5, 6, 7, 8, 9, 10, 11, 12]], [0, 1, 2, 3, 4, 5, 6, 7, 8, 9, 10, 11], [], [49, 50, 51, 52, 53, 54, 55, 56, 57, 58, 59, 60], [0, 1, 2, 3, 4, 5, 6, 7, 8, 9, 10, 11, 12, 13], [([53, 54, 55, 56, 57, 58, 59, 60], [53, 54, 55, 56, 57, 58, 59, 60], false), ([53, 54, 55, 56, 57, 58, 59, 60], [53, 54, 55, 56, 57, 58, 59, 60], false), ([53, 54, 55, 56, 57, 58, 59, 60], [53, 54, 55, 56, 57, 58, 59, 60], false), ([53, 54, 55, 56, 57, 58, 59, 60], [53, 54, 55, 56, 57, 58, 59, 60], false), ([49, 50, 51, 52, 55, 56, 57, 58, 59, 60], [49, 50, 51, 52, 55, 56, 57, 58, 59, 60], false), ([49, 50, 51, 52, 55, 56, 57, 58, 59, 60], [49, 50, 51, 52, 55, 56, 57, 58, 59, 60], false), ([49, 50, 51, 52, 53, 54, 58, 59, 60], [49, 50, 51, 52, 53, 54, 58, 59, 60], false), ([49, 50, 51, 52, 53, 54, 58, 59, 60], [49, 50, 51, 52, 53, 54, 58, 59, 60], false), ([49, 50, 51, 52, 53, 54, 58, 59, 60], [49, 50, 51, 52, 53, 54, 58, 59, 60], false), ([49, 50, 51, 52, 53, 54, 55, 56, 57], [49, 50, 51, 52, 53, 54, 55, 56, 57], false), ([49, 50, 51, 52, 53, 54, 55, 56, 57], [49, 50, 51, 52, 53, 54, 55, 56, 57], false), ([49, 50, 51, 52, 53, 54, 55, 56, 57], [49, 50, 51, 52, 53, 54, 55, 56, 57], false), ([], [], false), ([], [], false)]⟩ (by kernel_rfl) ?_
            refine go2 ?_
            refine WD.q rfl rfl rfl rfl rfl (QE.ixT 0 rfl rfl (by rw [encL_len1]; omega) rfl (by omega)) rfl rfl rfl ?_
            refine WD.q rfl rfl rfl rfl rfl (QE.ldT rfl rfl (by omega)) rfl rfl rfl ?_
            refine go2 ?_
            refine WD.q rfl rfl rfl rfl rfl (QE.ixT 1 rfl rfl (by rw [encL_len1]; omega) rfl (by omega)) rfl rfl rfl ?_
            refine WD.q rfl rfl rfl rfl rfl (QE.ldT rfl rfl (by omega)) rfl rfl rfl ?_
            refine go2 ?_
            refine WO.call rfl rfl rfl (join p.w t.op (s.getD (b + 0) 0) (s.getD (b + 1) 0) w1 w8 h.1 h.2 hz y0 y1 z0 z1) rfl rfl ?_
            refine go2 ?_
            refine WO.q rfl (QE.slH (b := b) rfl rfl (by rw [encL_len1]; exact Nat.le_refl _) rfl hbl) rfl rfl ?_
            refine go2 ?_
            refine WO.bsA (us := [i64 (jn p.w t.op (s.getD (b + 0) 0) (s.getD (b + 1) 0))]) (cs := encL eI [jn p.w t.op (s.getD (b + 0) 0) (s.getD (b + 1) 0)]) rfl rfl rfl rfl rfl (by kernel_rfl) rfl ?_
            refine WO.hard (r := 139) (p := []) (x := .ow 2 1 1 (encL eI [jn p.w t.op (s.getD (b + 0) 0) (s.getD (b + 1) 0)])) (y := .im 1 [.sc (.int .i64 (jn p.w t.op (s.getD (b + 0) 0) (s.getD (b + 1) 0)))]) rfl rfl rfl ?_
            refine WO.apTI rfl rfl rfl hbl rfl rfl rfl (by unfold maxLen; omega) (by omega) rfl ?_
            rw [pile_app s b hbl (jn p.w t.op (s.getD (b + 0) 0) (s.getD (b + 1) 0))]
            refine WO.cln 10 ?_
            refine go2 ?_
            exact lpK.mk (k + 1, s.take b ++ [jn p.w t.op (s.getD (b + 0) 0) (s.getD (b + 1) 0)]) (.cons rfl (.cons rfl (.cons rfl (.cons rfl (.cons rfl (.cons rfl (.cons rfl .nil))))))) (fin (hval) (jn_bd8 w8 w1 h.1 h.2 y0 y1 z0 z1)) (by dsimp only; omega)
      · have hval := hval0
        rw [if_neg (by omega)] at hval
        have hz : t.op = 8 ∨ t.op = 9 → s.getD (b + 1) 0 ≠ 0 := fun _ => hz1
        refine go2 ?_
        refine WC.regionDd ⟨[[], [0], [0, 1], [0, 1, 2], [], [4], [], [6], [6, 7], [], [9], [9, 10], [0, 1, 2, 3, 4, 5, 6, 7, 8, 9, 10, 11], [0, 1, 2, 3, 4, 5, 6, 7, 8, 9, 10, 11, 12]], [0, 1, 2, 3, 4, 5, 6, 7, 8, 9, 10, 11], [], [49, 50, 51, 52, 53, 54, 55, 56, 57, 58, 59, 60], [0, 1, 2, 3, 4, 5, 6, 7, 8, 9, 10, 11, 12, 13], [([53, 54, 55, 56, 57, 58, 59, 60], [53, 54, 55, 56, 57, 58, 59, 60], false), ([53, 54, 55, 56, 57, 58, 59, 60], [53, 54, 55, 56, 57, 58, 59, 60], false), ([53, 54, 55, 56, 57, 58, 59, 60], [53, 54, 55, 56, 57, 58, 59, 60], false), ([53, 54, 55, 56, 57, 58, 59, 60], [53, 54, 55, 56, 57, 58, 59, 60], false), ([49, 50, 51, 52, 55, 56, 57, 58, 59, 60], [49, 50, 51, 52, 55, 56, 57, 58, 59, 60], false), ([49, 50, 51, 52, 55, 56, 57, 58, 59, 60], [49, 50, 51, 52, 55, 56, 57, 58, 59, 60], false), ([49, 50, 51, 52, 53, 54, 58, 59, 60], [49, 50, 51, 52, 53, 54, 58, 59, 60], false), ([49, 50, 51, 52, 53, 54, 58, 59, 60], [49, 50, 51, 52, 53, 54, 58, 59, 60], false), ([49, 50, 51, 52, 53, 54, 58, 59, 60], [49, 50, 51, 52, 53, 54, 58, 59, 60], false), ([49, 50, 51, 52, 53, 54, 55, 56, 57], [49, 50, 51, 52, 53, 54, 55, 56, 57], false), ([49, 50, 51, 52, 53, 54, 55, 56, 57], [49, 50, 51, 52, 53, 54, 55, 56, 57], false), ([49, 50, 51, 52, 53, 54, 55, 56, 57], [49, 50, 51, 52, 53, 54, 55, 56, 57], false), ([], [], false), ([], [], false)]⟩ (by kernel_rfl) ?_
        refine go2 ?_
        refine WD.q rfl rfl rfl rfl rfl (QE.ixT 0 rfl rfl (by rw [encL_len1]; omega) rfl (by omega)) rfl rfl rfl ?_
        refine WD.q rfl rfl rfl rfl rfl (QE.ldT rfl rfl (by omega)) rfl rfl rfl ?_
        refine go2 ?_
        refine WD.q rfl rfl rfl rfl rfl (QE.ixT 1 rfl rfl (by rw [encL_len1]; omega) rfl (by omega)) rfl rfl rfl ?_
        refine WD.q rfl rfl rfl rfl rfl (QE.ldT rfl rfl (by omega)) rfl rfl rfl ?_
        refine go2 ?_
        refine WO.call rfl rfl rfl (join p.w t.op (s.getD (b + 0) 0) (s.getD (b + 1) 0) w1 w8 h.1 h.2 hz y0 y1 z0 z1) rfl rfl ?_
        refine go2 ?_
        refine WO.q rfl (QE.slH (b := b) rfl rfl (by rw [encL_len1]; exact Nat.le_refl _) rfl hbl) rfl rfl ?_
        refine go2 ?_
        refine WO.bsA (us := [i64 (jn p.w t.op (s.getD (b + 0) 0) (s.getD (b + 1) 0))]) (cs := encL eI [jn p.w t.op (s.getD (b + 0) 0) (s.getD (b + 1) 0)]) rfl rfl rfl rfl rfl (by kernel_rfl) rfl ?_
        refine WO.hard (r := 139) (p := []) (x := .ow 2 1 1 (encL eI [jn p.w t.op (s.getD (b + 0) 0) (s.getD (b + 1) 0)])) (y := .im 1 [.sc (.int .i64 (jn p.w t.op (s.getD (b + 0) 0) (s.getD (b + 1) 0)))]) rfl rfl rfl ?_
        refine WO.apTI rfl rfl rfl hbl rfl rfl rfl (by unfold maxLen; omega) (by omega) rfl ?_
        rw [pile_app s b hbl (jn p.w t.op (s.getD (b + 0) 0) (s.getD (b + 1) 0))]
        refine WO.cln 10 ?_
        refine go2 ?_
        exact lpK.mk (k + 1, s.take b ++ [jn p.w t.op (s.getD (b + 0) 0) (s.getD (b + 1) 0)]) (.cons rfl (.cons rfl (.cons rfl (.cons rfl (.cons rfl (.cons rfl (.cons rfl .nil))))))) (fin (hval) (jn_bd8 w8 w1 h.1 h.2 y0 y1 z0 z1)) (by dsimp only; omega)
  · have hk : k = e.length := by omega
    subst hk
    rw [List.drop_length] at g2 g3
    rw [← g2]
    simp only [hgt, Option.some.injEq] at g3
    have hs1 : s.length = 1 := by omega
    refine go2 ?_
    refine WO.q rfl (QE.ixT 0 rfl rfl (by rw [encL_len1]; omega) rfl (by omega)) rfl rfl ?_
    refine WO.q rfl (QE.ldT rfl rfl (by omega)) rfl rfl ?_
    refine go2 ?_
    exact retVV rfl rfl rfl rfl rfl
set_option maxHeartbeats 40000000 in
theorem reckonP (p : Pr) (v : Vs) (e : List Tm) (w1 : 1 ≤ p.w) (w8 : p.w ≤ 8) (hB : PB p) (heo : expOk e = true) (hv : VFit p v e) : Ev Try.prog X (.fn 76 [.ip (prR p), .ip (enR v), .im e.length (encL tm e), .sc (.bool true)] (.tu [i64 (rp p.w v e []).1, i64 0]) [.dead, .dead, .dead, .dead]) := by
  obtain ⟨hsz, hsz8⟩ := sizeW_bd w8
  have hB3 := hB.a
  simp only [expOk, Bool.and_eq_true, decide_eq_true_eq] at heo
  obtain ⟨hel, heh⟩ := heo
  refine Ev.fnW (env := [(0, .ip (prR p)), (1, .ip (enR v)), (2, .im e.length (encL tm e)), (3, .sc (.bool true))]) Try.func76 rfl nm_impl_reckon rfl rfl (by kernel_rfl) (.cons rfl (.cons rfl (.cons rfl (.cons rfl .nil)))) ?_
  refine go2 ?_
  refine WC.loopS (S := Nat × List Int) (fun s => [(0, .ip (prR p)), (1, .ip (enR v)), (3, .sc (.bool true)), (10, .ow 2 1 s.2.length (encL eI s.2)), (18, .im e.length (encL tm e)), (19, i64 e.length), (20, i64 s.1)]) (fun s => s.1 ≤ e.length ∧ (rp p.w v (e.drop s.1) s.2).1 = (rp p.w v e []).1 ∧ hgt (e.drop s.1) s.2.length = some 1 ∧ (∀ x ∈ s.2, inW p.w x) ∧ s.2.length ≤ s.1) (fun s => e.length - s.1) (0, []) (.cons rfl (.cons rfl (.cons rfl (.cons rfl (.cons rfl (.cons rfl (.cons rfl .nil))))))) ⟨Nat.zero_le _, rfl, heh, (fun x hx => by simp at hx), Nat.le_refl _⟩ ?_
  rintro ⟨k, s⟩ ⟨g1, g2, g3, g4, g5⟩
  dsimp only at g1 g2 g3 g4 g5 ⊢
  refine go2 ?_
  refine WO.cmp rfl rfl rfl rfl rfl (fun h3 => ?_) (fun h3 => ?_)
  · have hk : k < e.length := by omega
    obtain ⟨t, ht⟩ : ∃ t, t = e.getD k ⟨0, 0⟩ := ⟨_, rfl⟩
    have htm : t ∈ e := by rw [ht]; simp [List.getD_eq_getElem?_getD, hk]
    have hdr : e.drop k = t :: e.drop (k + 1) := by rw [ht]; exact drop_getD hk ⟨0, 0⟩
    rw [hdr] at g2 g3
    simp only [hgt] at g3
    split at g3
    case isFalse => cases g3
    rename_i htk
    obtain ⟨⟨t0, t1, t2, t3⟩, htk⟩ := htk
    have htr := tks_range t.op
    obtain ⟨b, hb⟩ : ∃ b : Nat, b = s.length - (tks t.op).toNat := ⟨_, rfl⟩
    have hb1 : (s.length : Int) - tks t.op = b := by omega
    have hbl : b ≤ s.length := by omega
    have g3' : ∀ V : Int, hgt (e.drop (k + 1)) (s.take b ++ [V]).length = some 1 := by
      intro V
      rw [← g3]; congr 1; simp; omega
    have hrk : ∀ {V c : Int}, val1 p.w v t (s.drop b) = (V, c) → (rp p.w v (e.drop (k + 1)) (s.take b ++ [V])).1 = (rp p.w v e []).1 := fun h => by rw [← g2]; exact (rp_cons p.w v t _ s b hb h).symm
    have finC : ∀ {V c : Int}, val1 p.w v t (s.drop b) = (V, c) → inW p.w V → k + 1 ≤ e.length ∧ (rp p.w v (e.drop (k + 1)) (s.take b ++ [V])).1 = (rp p.w v e []).1 ∧ hgt (e.drop (k + 1)) (s.take b ++ [V]).length = some 1 ∧ (∀ x ∈ s.take b ++ [V], inW p.w x) ∧ (s.take b ++ [V]).length ≤ k + 1 := by
      intro V c h1 h2
      refine ⟨hk, hrk h1, g3' V, fun x hx => ?_, by simp; omega⟩
      rcases List.mem_append.1 hx with h | h
      · exact g4 x (List.mem_of_mem_take h)
      · simp only [List.mem_singleton] at h; subst h; exact h2
    have dj := getD_drop0 s b
    have fin : ∀ {V : Int}, val1 p.w v t (s.drop b) = (V, 0) → inW p.w V → k + 1 ≤ e.length ∧ (rp p.w v (e.drop (k + 1)) (s.take b ++ [V])).1 = (rp p.w v e []).1 ∧ hgt (e.drop (k + 1)) (s.take b ++ [V]).length = some 1 ∧ (∀ x ∈ s.take b ++ [V], inW p.w x) ∧ (s.take b ++ [V]).length ≤ k + 1 := finC
    refine go2 ?_
    refine WO.ixN (f := tm) ⟨0, 0⟩ rfl rfl rfl hk rfl ?_
    rw [← ht]
    refine go2 ?_
    refine WO.call rfl rfl rfl (implTakesOf t.op) rfl rfl ?_
    refine go2 ?_
    rw [hb1]
    refine WO.q rfl (QE.slT (b := b) rfl rfl (by rw [encL_len1]; exact Nat.le_refl _) rfl hbl) rfl rfl ?_
    refine go2 ?_
    have hop : t.op = 0 ∨ t.op = 1 ∨ t.op = 2 ∨ (t.op = 3 ∨ t.op = 4) ∨ t.op = 17 ∨ (5 ≤ t.op ∧ t.op ≤ 16) := by unfold tks at t0; omega
    rcases hop with h | h | h | h | h | h
    · refine go2 ?_
      refine WO.q rfl (QE.slH (b := b) rfl rfl (by rw [encL_len1]; exact Nat.le_refl _) rfl hbl) rfl rfl ?_
      refine go2 ?_
      refine WO.bsA (us := [i64 (t.n)]) (cs := encL eI [t.n]) rfl rfl rfl rfl rfl (by kernel_rfl) rfl ?_
      refine WO.hard (r := 139) (p := []) (x := .ow 2 1 1 (encL eI [t.n])) (y := .im 1 [.sc (.int .i64 (t.n))]) rfl rfl rfl ?_
      refine WO.apTI rfl rfl rfl hbl rfl rfl rfl (by unfold maxLen; omega) (by omega) rfl ?_
      rw [pile_app s b hbl (t.n)]
      refine WO.cln 10 ?_
      refine go2 ?_
      exact lpK.mk (k + 1, s.take b ++ [t.n]) (.cons rfl (.cons rfl (.cons rfl (.cons rfl (.cons rfl (.cons rfl (.cons rfl .nil))))))) (fin (by simp [val1, h]) (⟨t1, hv.num t htm h⟩)) (by dsimp only; omega)
    · have hvl : t.n < (v.vars.length : Int) := hv.var t htm h
      refine go2 ?_
      refine WC.regionDd ⟨[[], [0], [0, 1], [0, 1, 2], [], [4], [0, 1, 2, 3, 4, 5], [0, 1, 2, 3, 4, 5, 6], [0, 1, 2, 3, 4, 5, 6, 7]], [0, 1, 2, 3, 4, 5, 6, 7], [], [68, 69, 70, 71, 72, 73, 74, 75], [0, 1, 2, 3, 4, 5, 6, 7, 8], [([72, 73], [72, 73], false), ([72, 73], [72, 73], false), ([72, 73], [72, 73], false), ([72, 73], [72, 73], false), ([68, 69, 70, 71], [68, 69, 70, 71], false), ([68, 69, 70, 71], [68, 69, 70, 71], false), ([], [], false), ([], [], false), ([], [], false)]⟩ (by kernel_rfl) ?_
      refine go2 ?_
      refine WD.q rfl rfl rfl rfl rfl (QE.ixI (f := eI) 0 rfl rfl t1 hvl) rfl rfl rfl ?_
      refine go2 ?_
      refine WO.q rfl (QE.slH (b := b) rfl rfl (by rw [encL_len1]; exact Nat.le_refl _) rfl hbl) rfl rfl ?_
      refine go2 ?_
      refine WO.bsA (us := [i64 (v.vars.getD t.n.toNat 0)]) (cs := encL eI [v.vars.getD t.n.toNat 0]) rfl rfl rfl rfl rfl (by kernel_rfl) rfl ?_
      refine WO.hard (r := 139) (p := []) (x := .ow 2 1 1 (encL eI [v.vars.getD t.n.toNat 0])) (y := .im 1 [.sc (.int .i64 (v.vars.getD t.n.toNat 0))]) rfl rfl rfl ?_
      refine WO.apTI rfl rfl rfl hbl rfl rfl rfl (by unfold maxLen; omega) (by omega) rfl ?_
      rw [pile_app s b hbl (v.vars.getD t.n.toNat 0)]
      refine WO.cln 10 ?_
      refine go2 ?_
      exact lpK.mk (k + 1, s.take b ++ [v.vars.getD t.n.toNat 0]) (.cons rfl (.cons rfl (.cons rfl (.cons rfl (.cons rfl (.cons rfl (.cons rfl .nil))))))) (fin (by simp [val1, h]) (getD_in (q := inW p.w) hv.vs (by omega))) (by dsimp only; omega)
    · have hk1 : tks t.op = 1 := by rw [h]; rfl
      obtain ⟨hal, hcl, c1, c2⟩ := hv.cell t htm h t1
      obtain ⟨y0, y1⟩ := getD_in (q := inW p.w) g4 (i := b + 0) (by omega)
      refine go2 ?_
      refine WC.regionDd ⟨[[], [0], [0, 1], [], [3], [3, 4], [3, 4, 5], [], [7], [3, 4, 5, 6, 7, 8], [3, 4, 5, 6, 7, 8, 9], [0, 1, 2, 3, 4, 5, 6, 7, 8, 9, 10]], [0, 1, 2, 3, 4, 5, 6, 7, 8, 9, 10, 11], [], [78, 79, 80, 81, 82, 83, 84, 85, 86, 87, 88, 89], [0, 1, 2, 3, 4, 5, 6, 7, 8, 9, 10, 11], [([81, 82, 83, 84, 85, 86, 87, 88], [81, 82, 83, 84, 85, 86, 87, 88], false), ([81, 82, 83, 84, 85, 86, 87, 88], [81, 82, 83, 84, 85, 86, 87, 88], false), ([81, 82, 83, 84, 85, 86, 87, 88], [81, 82, 83, 84, 85, 86, 87, 88], false), ([78, 79, 80, 85, 86], [78, 79, 80, 85, 86], false), ([78, 79, 80, 85, 86], [78, 79, 80, 85, 86], false), ([78, 79, 80, 85, 86], [78, 79, 80, 85, 86], false), ([78, 79, 80, 85, 86], [78, 79, 80, 85, 86], false), ([78, 79, 80, 81, 82, 83, 84], [78, 79, 80, 81, 82, 83, 84], false), ([78, 79, 80, 81, 82, 83, 84], [78, 79, 80, 81, 82, 83, 84], false), ([78, 79, 80], [78, 79, 80], false), ([78, 79, 80], [78, 79, 80], false), ([], [], false)]⟩ (by kernel_rfl) ?_
      refine go2 ?_
      refine WD.q rfl rfl rfl rfl rfl (QE.ixT 0 rfl rfl (by rw [encL_len1]; omega) rfl (by omega)) rfl rfl rfl ?_
      refine WD.q rfl rfl rfl rfl rfl (QE.ldT rfl rfl (by omega)) rfl rfl rfl ?_
      by_cases hlt : s.getD (b + 0) 0 < p.arrs.getD t.n.toNat 0
      · have hval : val1 p.w v t (s.drop b) = ((v.cells.getD t.n.toNat []).getD (s.getD (b + 0) 0).toNat 0, 0) := by simp only [val1, h]; rw [dj, if_neg (by decide), if_neg (by decide), if_pos True.intro, if_pos (by omega)]
        refine go2 ?_
        refine WD.q rfl rfl rfl rfl rfl (QE.ixI (f := eI) 0 rfl rfl t1 hal) rfl rfl rfl ?_
        refine go2 ?_
        refine WC.regionDd ⟨[[], [0], [0, 1], [0, 1, 2], [], [4], [0, 1, 2, 3, 4, 5], [0, 1, 2, 3, 4, 5, 6], [], [8], [8, 9], [0, 1, 2, 3, 4, 5, 6, 7, 8, 9, 10], [0, 1, 2, 3, 4, 5, 6, 7, 8, 9, 10, 11], [0, 1, 2, 3, 4, 5, 6, 7, 8, 9, 10, 11, 12]], [0, 1, 2, 3, 4, 5, 6, 7, 8, 9, 10, 11, 12], [], [90, 91, 92, 93, 94, 95, 96, 97, 98, 99, 100, 101, 102], [0, 1, 2, 3, 4, 5, 6, 7, 8, 9, 10, 11, 12, 13], [([94, 95, 98, 99, 100], [94, 95, 98, 99, 100], false), ([94, 95, 98, 99, 100], [94, 95, 98, 99, 100], false), ([94, 95, 98, 99, 100], [94, 95, 98, 99, 100], false), ([94, 95, 98, 99, 100], [94, 95, 98, 99, 100], false), ([90, 91, 92, 93, 98, 99, 100], [90, 91, 92, 93, 98, 99, 100], false), ([90, 91, 92, 93, 98, 99, 100], [90, 91, 92, 93, 98, 99, 100], false), ([98, 99, 100], [98, 99, 100], false), ([98, 99, 100], [98, 99, 100], false), ([90, 91, 92, 93, 94, 95, 96, 97], [90, 91, 92, 93, 94, 95, 96, 97], false), ([90, 91, 92, 93, 94, 95, 96, 97], [90, 91, 92, 93, 94, 95, 96, 97], false), ([90, 91, 92, 93, 94, 95, 96, 97], [90, 91, 92, 93, 94, 95, 96, 97], false), ([], [], false), ([], [], false), ([], [], false)]⟩ (by kernel_rfl) ?_
        refine go2 ?_
        refine WD.q rfl rfl rfl rfl rfl (QE.ixI (f := eRow) [] rfl rfl t1 hcl) rfl rfl rfl ?_
        refine go2 ?_
        refine WD.q rfl rfl rfl rfl rfl (QE.ixT 0 rfl rfl (by rw [encL_len1]; omega) rfl (by omega)) rfl rfl rfl ?_
        refine WD.q rfl rfl rfl rfl rfl (QE.ldT rfl rfl (by omega)) rfl rfl rfl ?_
        refine go2 ?_
        refine WD.q rfl rfl rfl rfl rfl (QE.ixI (f := eI) 0 rfl rfl y0 (by omega)) rfl rfl rfl ?_
        refine go2 ?_
        refine WO.q rfl (QE.slH (b := b) rfl rfl (by rw [encL_len1]; exact Nat.le_refl _) rfl hbl) rfl rfl ?_
        refine go2 ?_
        refine WO.bsA (us := [i64 ((v.cells.getD t.n.toNat []).getD (s.getD (b + 0) 0).toNat 0)]) (cs := encL eI [(v.cells.getD t.n.toNat []).getD (s.getD (b + 0) 0).toNat 0]) rfl rfl rfl rfl rfl (by kernel_rfl) rfl ?_
        refine WO.hard (r := 139) (p := []) (x := .ow 2 1 1 (encL eI [(v.cells.getD t.n.toNat []).getD (s.getD (b + 0) 0).toNat 0])) (y := .im 1 [.sc (.int .i64 ((v.cells.getD t.n.toNat []).getD (s.getD (b + 0) 0).toNat 0))]) rfl rfl rfl ?_
        refine WO.apTI rfl rfl rfl hbl rfl rfl rfl (by unfold maxLen; omega) (by omega) rfl ?_
        rw [pile_app s b hbl ((v.cells.getD t.n.toNat []).getD (s.getD (b + 0) 0).toNat 0)]
        refine WO.cln 10 ?_
        refine go2 ?_
        exact lpK.mk (k + 1, s.take b ++ [(v.cells.getD t.n.toNat []).getD (s.getD (b + 0) 0).toNat 0]) (.cons rfl (.cons rfl (.cons rfl (.cons rfl (.cons rfl (.cons rfl (.cons rfl .nil))))))) (fin (hval) (getD_in (q := inW p.w) c2 (by omega))) (by dsimp only; omega)
      · have hval : val1 p.w v t (s.drop b) = (0, 2) := by simp only [val1, h]; rw [dj, if_neg (by decide), if_neg (by decide), if_pos True.intro, if_neg (by omega)]
        refine go2 ?_
        refine WD.q rfl rfl rfl rfl rfl (QE.ixI (f := eI) 0 rfl rfl t1 hal) rfl rfl rfl ?_
        refine go2 ?_
        refine WO.q rfl (QE.slH (b := b) rfl rfl (by rw [encL_len1]; exact Nat.le_refl _) rfl hbl) rfl rfl ?_
        refine go2 ?_
        refine WO.bsA (us := [i64 (0)]) (cs := encL eI [0]) rfl rfl rfl rfl rfl (by kernel_rfl) rfl ?_
        refine WO.hard (r := 139) (p := []) (x := .ow 2 1 1 (encL eI [0])) (y := .im 1 [.sc (.int .i64 (0))]) rfl rfl rfl ?_
        refine WO.apTI rfl rfl rfl hbl rfl rfl rfl (by unfold maxLen; omega) (by omega) rfl ?_
        rw [pile_app s b hbl (0)]
        refine WO.cln 10 ?_
        refine go2 ?_
        exact lpK.mk (k + 1, s.take b ++ [0]) (.cons rfl (.cons rfl (.cons rfl (.cons rfl (.cons rfl (.cons rfl (.cons rfl .nil))))))) (finC (hval) (⟨Int.le_refl 0, hsz⟩)) (by dsimp only; omega)
    · have hk1 : tks t.op = 1 := by rcases h with h | h <;> rw [h] <;> rfl
      obtain ⟨y0, y1⟩ := getD_in (q := inW p.w) g4 (i := b + 0) (by omega)
      have hval : val1 p.w v t (s.drop b) = (tn p.w t.op (s.getD (b + 0) 0), 0) := by simp only [val1]; rw [dj, if_neg (by omega), if_neg (by omega), if_neg (by omega), if_pos h]
      have hop := h
      rcases h with h | h
      · refine go2 ?_
        refine WC.regionDd ⟨[[], [0], [0, 1], [0, 1, 2], [], [4], [], [6], [6, 7], [0, 1, 2, 3, 4, 5, 6, 7, 8], [0, 1, 2, 3, 4, 5, 6, 7, 8, 9]], [0, 1, 2, 3, 4, 5, 6, 7, 8], [], [106, 107, 108, 109, 110, 111, 112, 113, 114], [0, 1, 2, 3, 4, 5, 6, 7, 8, 9, 10], [([110, 111, 112, 113, 114], [110, 111, 112, 113, 114], false), ([110, 111, 112, 113, 114], [110, 111, 112, 113, 114], false), ([110, 111, 112, 113, 114], [110, 111, 112, 113, 114], false), ([110, 111, 112, 113, 114], [110, 111, 112, 113, 114], false), ([106, 107, 108, 109, 112, 113, 114], [106, 107, 108, 109, 112, 113, 114], false), ([106, 107, 108, 109, 112, 113, 114], [106, 107, 108, 109, 112, 113, 114], false), ([106, 107, 108, 109, 110, 111], [106, 107, 108, 109, 110, 111], false), ([106, 107, 108, 109, 110, 111], [106, 107, 108, 109, 110, 111], false), ([106, 107, 108, 109, 110, 111], [106, 107, 108, 109, 110, 111], false), ([], [], false), ([], [], false)]⟩ (by kernel_rfl) ?_
        refine go2 ?_
        refine WD.q rfl rfl rfl rfl rfl (QE.ixT 0 rfl rfl (by rw [encL_len1]; omega) rfl (by omega)) rfl rfl rfl ?_
        refine WD.q rfl rfl rfl rfl rfl (QE.ldT rfl rfl (by omega)) rfl rfl rfl ?_
        refine go2 ?_
        refine WO.call rfl rfl rfl (turn p.w t.op (s.getD (b + 0) 0) w1 w8 hop y0 y1) rfl rfl ?_
        refine go2 ?_
        refine WO.q rfl (QE.slH (b := b) rfl rfl (by rw [encL_len1]; exact Nat.le_refl _) rfl hbl) rfl rfl ?_
        refine go2 ?_
        refine WO.bsA (us := [i64 (tn p.w t.op (s.getD (b + 0) 0))]) (cs := encL eI [tn p.w t.op (s.getD (b + 0) 0)]) rfl rfl rfl rfl rfl (by kernel_rfl) rfl ?_
        refine WO.hard (r := 139) (p := []) (x := .ow 2 1 1 (encL eI [tn p.w t.op (s.getD (b + 0) 0)])) (y := .im 1 [.sc (.int .i64 (tn p.w t.op (s.getD (b + 0) 0)))]) rfl rfl rfl ?_
        refine WO.apTI rfl rfl rfl hbl rfl rfl rfl (by unfold maxLen; omega) (by omega) rfl ?_
        rw [pile_app s b hbl (tn p.w t.op (s.getD (b + 0) 0))]
        refine WO.cln 10 ?_
        refine go2 ?_
        exact lpK.mk (k + 1, s.take b ++ [tn p.w t.op (s.getD (b + 0) 0)]) (.cons rfl (.cons rfl (.cons rfl (.cons rfl (.cons rfl (.cons rfl (.cons rfl .nil))))))) (fin (hval) (tn_bd8 w8 hop y0 y1)) (by dsimp only; omega)
      · refine go2 ?_
        refine WC.regionDd ⟨[[], [0], [0, 1], [0, 1, 2], [], [4], [], [6], [6, 7], [0, 1, 2, 3, 4, 5, 6, 7, 8], [0, 1, 2, 3, 4, 5, 6, 7, 8, 9]], [0, 1, 2, 3, 4, 5, 6, 7, 8], [], [106, 107, 108, 109, 110, 111, 112, 113, 114], [0, 1, 2, 3, 4, 5, 6, 7, 8, 9, 10], [([110, 111, 112, 113, 114], [110, 111, 112, 113, 114], false), ([110, 111, 112, 113, 114], [110, 111, 112, 113, 114], false), ([110, 111, 112, 113, 114], [110, 111, 112, 113, 114], false), ([110, 111, 112, 113, 114], [110, 111, 112, 113, 114], false), ([106, 107, 108, 109, 112, 113, 114], [106, 107, 108, 109, 112, 113, 114], false), ([106, 107, 108, 109, 112, 113, 114], [106, 107, 108, 109, 112, 113, 114], false), ([106, 107, 108, 109, 110, 111], [106, 107, 108, 109, 110, 111], false), ([106, 107, 108, 109, 110, 111], [106, 107, 108, 109, 110, 111], false), ([106, 107, 108, 109, 110, 111], [106, 107, 108, 109, 110, 111], false), ([], [], false), ([], [], false)]⟩ (by kernel_rfl) ?_
        refine go2 ?_
        refine WD.q rfl rfl rfl rfl rfl (QE.ixT 0 rfl rfl (by rw [encL_len1]; omega) rfl (by omega)) rfl rfl rfl ?_
        refine WD.q rfl rfl rfl rfl rfl (QE.ldT rfl rfl (by omega)) rfl rfl rfl ?_
        refine go2 ?_
        refine WO.call rfl rfl rfl (turn p.w t.op (s.getD (b + 0) 0) w1 w8 hop y0 y1) rfl rfl ?_
        refine go2 ?_
        refine WO.q rfl (QE.slH (b := b) rfl rfl (by rw [encL_len1]; exact Nat.le_refl _) rfl hbl) rfl rfl ?_
        refine go2 ?_
        refine WO.bsA (us := [i64 (tn p.w t.op (s.getD (b + 0) 0))]) (cs := encL eI [tn p.w t.op (s.getD (b + 0) 0)]) rfl rfl rfl rfl rfl (by kernel_rfl) rfl ?_
        refine WO.hard (r := 139) (p := []) (x := .ow 2 1 1 (encL eI [tn p.w t.op (s.getD (b + 0) 0)])) (y := .im 1 [.sc (.int .i64 (tn p.w t.op (s.getD (b + 0) 0)))]) rfl rfl rfl ?_
        refine WO.apTI rfl rfl rfl hbl rfl rfl rfl (by unfold maxLen; omega) (by omega) rfl ?_
        rw [pile_app s b hbl (tn p.w t.op (s.getD (b + 0) 0))]
        refine WO.cln 10 ?_
        refine go2 ?_
        exact lpK.mk (k + 1, s.take b ++ [tn p.w t.op (s.getD (b + 0) 0)]) (.cons rfl (.cons rfl (.cons rfl (.cons rfl (.cons rfl (.cons rfl (.cons rfl .nil))))))) (fin (hval) (tn_bd8 w8 hop y0 y1)) (by dsimp only; omega)
    · have hk1 : tks t.op = 3 := by rw [h]; rfl
      obtain ⟨y0, y1⟩ := getD_in (q := inW p.w) g4 (i := b + 0) (by omega)
      have z1 := getD_in (q := inW p.w) g4 (i := b + 1) (by omega)
      have z2 := getD_in (q := inW p.w) g4 (i := b + 2) (by omega)
      refine go2 ?_
      refine WO.q rfl (QE.ixT 2 rfl rfl (by rw [encL_len1]; omega) rfl (by omega)) rfl rfl ?_
      refine WO.q rfl (QE.ldT rfl rfl (by omega)) rfl rfl ?_
      refine go2 ?_
      refine WO.q rfl (QE.ixT 0 rfl rfl (by rw [encL_len1]; omega) rfl (by omega)) rfl rfl ?_
      refine WO.q rfl (QE.ldT rfl rfl (by omega)) rfl rfl ?_
      by_cases h0 : s.getD (b + 0) 0 = 0
      · have hval : val1 p.w v t (s.drop b) = (s.getD (b + 2) 0, 0) := by simp only [val1, h]; rw [dj, dj, dj, if_neg (by decide), if_neg (by decide), if_neg (by decide), if_neg (by decide), if_pos True.intro, if_neg (by omega)]
        refine go2 ?_
        refine WO.q rfl (QE.slH (b := b) rfl rfl (by rw [encL_len1]; exact Nat.le_refl _) rfl hbl) rfl rfl ?_
        refine go2 ?_
        refine WO.bsA (us := [i64 (s.getD (b + 2) 0)]) (cs := encL eI [s.getD (b + 2) 0]) rfl rfl rfl rfl rfl (by kernel_rfl) rfl ?_
        refine WO.hard (r := 139) (p := []) (x := .ow 2 1 1 (encL eI [s.getD (b + 2) 0])) (y := .im 1 [.sc (.int .i64 (s.getD (b + 2) 0))]) rfl rfl rfl ?_
        refine WO.apTI rfl rfl rfl hbl rfl rfl rfl (by unfold maxLen; omega) (by omega) rfl ?_
        rw [pile_app s b hbl (s.getD (b + 2) 0)]
        refine WO.cln 10 ?_
        refine go2 ?_
        exact lpK.mk (k + 1, s.take b ++ [s.getD (b + 2) 0]) (.cons rfl (.cons rfl (.cons rfl (.cons rfl (.cons rfl (.cons rfl (.cons rfl .nil))))))) (fin (hval) (z2)) (by dsimp only; omega)
      · have hval : val1 p.w v t (s.drop b) = (s.getD (b + 1) 0, 0) := by simp only [val1, h]; rw [dj, dj, dj, if_neg (by decide), if_neg (by decide), if_neg (by decide), if_neg (by decide), if_pos True.intro, if_pos (by omega)]
        refine go2 ?_
        refine WO.q rfl (QE.ixT 1 rfl rfl (by rw [encL_len1]; omega) rfl (by omega)) rfl rfl ?_
        refine WO.q rfl (QE.ldT rfl rfl (by omega)) rfl rfl ?_
        refine go2 ?_
        refine WO.q rfl (QE.slH (b := b) rfl rfl (by rw [encL_len1]; exact Nat.le_refl _) rfl hbl) rfl rfl ?_
        refine go2 ?_
        refine WO.bsA (us := [i64 (s.getD (b + 1) 0)]) (cs := encL eI [s.getD (b + 1) 0]) rfl rfl rfl rfl rfl (by kernel_rfl) rfl ?_
        refine WO.hard (r := 139) (p := []) (x := .ow 2 1 1 (encL eI [s.getD (b + 1) 0])) (y := .im 1 [.sc (.int .i64 (s.getD (b + 1) 0))]) rfl rfl rfl ?_
        refine WO.apTI rfl rfl rfl hbl rfl rfl rfl (by unfold maxLen; omega) (by omega) rfl ?_
        rw [pile_app s b hbl (s.getD (b + 1) 0)]
        refine WO.cln 10 ?_
        refine go2 ?_
        exact lpK.mk (k + 1, s.take b ++ [s.getD (b + 1) 0]) (.cons rfl (.cons rfl (.cons rfl (.cons rfl (.cons rfl (.cons rfl (.cons rfl .nil))))))) (fin (hval) (z1)) (by dsimp only; omega)
    · have hk1 : tks t.op = 2 := by unfold tks; rw [if_neg (by omega), if_neg (by omega), if_pos h]
      obtain ⟨y0, y1⟩ := getD_in (q := inW p.w) g4 (i := b + 0) (by omega)
      obtain ⟨z0, z1⟩ := getD_in (q := inW p.w) g4 (i := b + 1) (by omega)
      have hval0 : val1 p.w v t (s.drop b) = if s.getD (b + 1) 0 = 0 ∧ (t.op = 8 ∨ t.op = 9) then (0, 1) else (jn p.w t.op (s.getD (b + 0) 0) (s.getD (b + 1) 0), 0) := by simp only [val1]; rw [dj, dj, dj, if_neg (by omega), if_neg (by omega), if_neg (by omega), if_neg (by omega), if_neg (by omega)]
      refine go2 ?_
      refine WO.q rfl (QE.ixT 1 rfl rfl (by rw [encL_len1]; omega) rfl (by omega)) rfl rfl ?_
      refine WO.q rfl (QE.ldT rfl rfl (by omega)) rfl rfl ?_
      by_cases hz1 : s.getD (b + 1) 0 = 0
      · by_cases h8 : t.op = 8
        · rw [if_pos ⟨hz1, .inl h8⟩] at hval0
          refine go2 ?_
          refine go2 ?_
          refine WO.q rfl (QE.slH (b := b) rfl rfl (by rw [encL_len1]; exact Nat.le_refl _) rfl hbl) rfl rfl ?_
          refine go2 ?_
          refine WO.bsA (us := [i64 (0)]) (cs := encL eI [0]) rfl rfl rfl rfl rfl (by kernel_rfl) rfl ?_
          refine WO.hard (r := 139) (p := []) (x := .ow 2 1 1 (encL eI [0])) (y := .im 1 [.sc (.int .i64 (0))]) rfl rfl rfl ?_
          refine WO.apTI rfl rfl rfl hbl rfl rfl rfl (by unfold maxLen; omega) (by omega) rfl ?_
          rw [pile_app s b hbl (0)]
          refine WO.cln 10 ?_
          refine go2 ?_
          exact lpK.mk (k + 1, s.take b ++ [0]) (.cons rfl (.cons rfl (.cons rfl (.cons rfl (.cons rfl (.cons rfl (.cons rfl .nil))))))) (finC (hval0) (⟨Int.le_refl 0, hsz⟩)) (by dsimp only; omega)
        · by_cases h9 : t.op = 9
          · rw [if_pos ⟨hz1, .inr h9⟩] at hval0
            refine go2 ?_
            refine go2 ?_
            refine WO.q rfl (QE.slH (b := b) rfl rfl (by rw [encL_len1]; exact Nat.le_refl _) rfl hbl) rfl rfl ?_
            refine go2 ?_
            refine WO.bsA (us := [i64 (0)]) (cs := encL eI [0]) rfl rfl rfl rfl rfl (by kernel_rfl) rfl ?_
            refine WO.hard (r := 139) (p := []) (x := .ow 2 1 1 (encL eI [0])) (y := .im 1 [.sc (.int .i64 (0))]) rfl rfl rfl ?_
            refine WO.apTI rfl rfl rfl hbl rfl rfl rfl (by unfold maxLen; omega) (by omega) rfl ?_
            rw [pile_app s b hbl (0)]
            refine WO.cln 10 ?_
            refine go2 ?_
            exact lpK.mk (k + 1, s.take b ++ [0]) (.cons rfl (.cons rfl (.cons rfl (.cons rfl (.cons rfl (.cons rfl (.cons rfl .nil))))))) (finC (hval0) (⟨Int.le_refl 0, hsz⟩)) (by dsimp only; omega)
          · have hval := hval0
            rw [if_neg (by omega)] at hval
            have hz : t.op = 8 ∨ t.op = 9 → s.getD (b + 1) 0 ≠ 0 := by omega
            refine go2 ?_
            refine WC.regionDd ⟨[[], [0], [0, 1], [0, 1, 2], [], [4], [], [6], [6, 7], [], [9], [9, 10], [0, 1, 2, 3, 4, 5, 6, 7, 8, 9, 10, 11], [0, 1, 2, 3, 4, 5, 6, 7, 8, 9, 10, 11, 12]], [0, 1, 2, 3, 4, 5, 6, 7, 8, 9, 10, 11], [], [49, 50, 51, 52, 53, 54, 55, 56, 57, 58, 59, 60], [0, 1, 2, 3, 4, 5, 6, 7, 8, 9, 10, 11, 12, 13], [([53, 54, 55, 56, 57, 58, 59, 60], [53, 54, 55, 56, 57, 58, 59, 60], false), ([53, 54, 55, 56, 57, 58, 59, 60], [53, 54, 55, 56, 57, 58, 59, 60], false), ([53, 54, 55, 56, 57, 58, 59, 60], [53, 54, 55, 56, 57, 58, 59, 60], false), ([53, 54, 55, 56, 57, 58, 59, 60], [53, 54, 55, 56, 57, 58, 59, 60], false), ([49, 50, 51, 52, 55, 56, 57, 58, 59, 60], [49, 50, 51, 52, 55, 56, 57, 58, 59, 60], false), ([49, 50, 51, 52, 55, 56, 57, 58, 59, 60], [49, 50, 51, 52, 55, 56, 57, 58, 59, 60], false), ([49, 50, 51, 52, 53, 54, 58, 59, 60], [49, 50, 51, 52, 53, 54, 58, 59, 60], false), ([49, 50, 51, 52, 53, 54, 58, 59, 60], [49, 50, 51, 52, 53, 54, 58, 59, 60], false), ([49, 50, 51, 52, 53, 54, 58, 59, 60], [49, 50, 51, 52, 53, 54, 58, 59, 60], false), ([49, 50, 51, 52, 53, 54, 55, 56, 57], [49, 50, 51, 52, 53, 54, 55, 56, 57], false), ([49, 50, 51, 52, 53, 54, 55, 56, 57], [49, 50, 51, 52, 53, 54, 55, 56, 57], false), ([49, 50, 51, 52, 53, 54, 55, 56, 57], [49, 50, 51, 52, 53, 54, 55, 56, 57], false), ([], [], false), ([], [], false)]⟩ (by kernel_rfl) ?_
            refine go2 ?_
            refine WD.q rfl rfl rfl rfl rfl (QE.ixT 0 rfl rfl (by rw [encL_len1]; omega) rfl (by omega)) rfl rfl rfl ?_
            refine WD.q rfl rfl rfl rfl rfl (QE.ldT rfl rfl (by omega)) rfl rfl rfl ?_
            refine go2 ?_
            refine WD.q rfl rfl rfl rfl rfl (QE.ixT 1 rfl rfl (by rw [encL_len1]; omega) rfl (by omega)) rfl rfl rfl ?_
            refine WD.q rfl rfl rfl rfl rfl (QE.ldT rfl rfl (by omega)) rfl rfl rfl ?_
            refine go2 ?_
            refine WO.call rfl rfl rfl (join p.w t.op (s.getD (b + 0) 0) (s.getD (b + 1) 0) w1 w8 h.1 h.2 hz y0 y1 z0 z1) rfl rfl ?_
            refine go2 ?_
            refine WO.q rfl (QE.slH (b := b) rfl rfl (by rw [encL_len1]; exact Nat.le_refl _) rfl hbl) rfl rfl ?_
            refine go2 ?_
            refine WO.bsA (us := [i64 (jn p.w t.op (s.getD (b + 0) 0) (s.getD (b + 1) 0))]) (cs := encL eI [jn p.w t.op (s.getD (b + 0) 0) (s.getD (b + 1) 0)]) rfl rfl rfl rfl rfl (by kernel_rfl) rfl ?_
            refine WO.hard (r := 139) (p := []) (x := .ow 2 1 1 (encL eI [jn p.w t.op (s.getD (b + 0) 0) (s.getD (b + 1) 0)])) (y := .im 1 [.sc (.int .i64 (jn p.w t.op (s.getD (b + 0) 0) (s.getD (b + 1) 0)))]) rfl rfl rfl ?_
            refine WO.apTI rfl rfl rfl hbl rfl rfl rfl (by unfold maxLen; omega) (by omega) rfl ?_
            rw [pile_app s b hbl (jn p.w t.op (s.getD (b + 0) 0) (s.getD (b + 1) 0))]
            refine WO.cln 10 ?_
            refine go2 ?_
            exact lpK.mk (k + 1, s.take b ++ [jn p.w t.op (s.getD (b + 0) 0) (s.getD (b + 1) 0)]) (.cons rfl (.cons rfl (.cons rfl (.cons rfl (.cons rfl (.cons rfl (.cons rfl .nil))))))) (fin (hval) (jn_bd8 w8 w1 h.1 h.2 y0 y1 z0 z1)) (by dsimp only; omega)
      · have hval := hval0
        rw [if_neg (by omega)] at hval
        have hz : t.op = 8 ∨ t.op = 9 → s.getD (b + 1) 0 ≠ 0 := fun _ => hz1
        refine go2 ?_
        refine WC.regionDd ⟨[[], [0], [0, 1], [0, 1, 2], [], [4], [], [6], [6, 7], [], [9], [9, 10], [0, 1, 2, 3, 4, 5, 6, 7, 8, 9, 10, 11], [0, 1, 2, 3, 4, 5, 6, 7, 8, 9, 10, 11, 12]], [0, 1, 2, 3, 4, 5, 6, 7, 8, 9, 10, 11], [], [49, 50, 51, 52, 53, 54, 55, 56, 57, 58, 59, 60], [0, 1, 2, 3, 4, 5, 6, 7, 8, 9, 10, 11, 12, 13], [([53, 54, 55, 56, 57, 58, 59, 60], [53, 54, 55, 56, 57, 58, 59, 60], false), ([53, 54, 55, 56, 57, 58, 59, 60], [53, 54, 55, 56, 57, 58, 59, 60], false), ([53, 54, 55, 56, 57, 58, 59, 60], [53, 54, 55, 56, 57, 58, 59, 60], false), ([53, 54, 55, 56, 57, 58, 59, 60], [53, 54, 55, 56, 57, 58, 59, 60], false), ([49, 50, 51, 52, 55, 56, 57, 58, 59, 60], [49, 50, 51, 52, 55, 56, 57, 58, 59, 60], false), ([49, 50, 51, 52, 55, 56, 57, 58, 59, 60], [49, 50, 51, 52, 55, 56, 57, 58, 59, 60], false), ([49, 50, 51, 52, 53, 54, 58, 59, 60], [49, 50, 51, 52, 53, 54, 58, 59, 60], false), ([49, 50, 51, 52, 53, 54, 58, 59, 60], [49, 50, 51, 52, 53, 54, 58, 59, 60], false), ([49, 50, 51, 52, 53, 54, 58, 59, 60], [49, 50, 51, 52, 53, 54, 58, 59, 60], false), ([49, 50, 51, 52, 53, 54, 55, 56, 57], [49, 50, 51, 52, 53, 54, 55, 56, 57], false), ([49, 50, 51, 52, 53, 54, 55, 56, 57], [49, 50, 51, 52, 53, 54, 55, 56, 57], false), ([49, 50, 51, 52, 53, 54, 55, 56, 57], [49, 50, 51, 52, 53, 54, 55, 56, 57], false), ([], [], false), ([], [], false)]⟩ (by kernel_rfl) ?_
        refine go2 ?_
        refine WD.q rfl rfl rfl rfl rfl (QE.ixT 0 rfl rfl (by rw [encL_len1]; omega) rfl (by omega)) rfl rfl rfl ?_
        refine WD.q rfl rfl rfl rfl rfl (QE.ldT rfl rfl (by omega)) rfl rfl rfl ?_
        refine go2 ?_
        refine WD.q rfl rfl rfl rfl rfl (QE.ixT 1 rfl rfl (by rw [encL_len1]; omega) rfl (by omega)) rfl rfl rfl ?_
        refine WD.q rfl rfl rfl rfl rfl (QE.ldT rfl rfl (by omega)) rfl rfl rfl ?_
        refine go2 ?_
        refine WO.call rfl rfl rfl (join p.w t.op (s.getD (b + 0) 0) (s.getD (b + 1) 0) w1 w8 h.1 h.2 hz y0 y1 z0 z1) rfl rfl ?_
        refine go2 ?_
        refine WO.q rfl (QE.slH (b := b) rfl rfl (by rw [encL_len1]; exact Nat.le_refl _) rfl hbl) rfl rfl ?_
        refine go2 ?_
        refine WO.bsA (us := [i64 (jn p.w t.op (s.getD (b + 0) 0) (s.getD (b + 1) 0))]) (cs := encL eI [jn p.w t.op (s.getD (b + 0) 0) (s.getD (b + 1) 0)]) rfl rfl rfl rfl rfl (by kernel_rfl) rfl ?_
        refine WO.hard (r := 139) (p := []) (x := .ow 2 1 1 (encL eI [jn p.w t.op (s.getD (b + 0) 0) (s.getD (b + 1) 0)])) (y := .im 1 [.sc (.int .i64 (jn p.w t.op (s.getD (b + 0) 0) (s.getD (b + 1) 0)))]) rfl rfl rfl ?_
        refine WO.apTI rfl rfl rfl hbl rfl rfl rfl (by unfold maxLen; omega) (by omega) rfl ?_
        rw [pile_app s b hbl (jn p.w t.op (s.getD (b + 0) 0) (s.getD (b + 1) 0))]
        refine WO.cln 10 ?_
        refine go2 ?_
        exact lpK.mk (k + 1, s.take b ++ [jn p.w t.op (s.getD (b + 0) 0) (s.getD (b + 1) 0)]) (.cons rfl (.cons rfl (.cons rfl (.cons rfl (.cons rfl (.cons rfl (.cons rfl .nil))))))) (fin (hval) (jn_bd8 w8 w1 h.1 h.2 y0 y1 z0 z1)) (by dsimp only; omega)
  · have hk : k = e.length := by omega
    subst hk
    rw [List.drop_length] at g2 g3
    rw [← g2]
    simp only [hgt, Option.some.injEq] at g3
    have hs1 : s.length = 1 := by omega
    refine go2 ?_
    refine WO.q rfl (QE.ixT 0 rfl rfl (by rw [encL_len1]; omega) rfl (by omega)) rfl rfl ?_
    refine WO.q rfl (QE.ldT rfl rfl (by omega)) rfl rfl ?_
    refine go2 ?_
    exact retVV rfl rfl rfl rfl rfl
end Go.Eng.C

/- Contracts of functions, by the engine: what the laws draw: expressions, statements, programs. -/
import Derived.Test.YtbhdobjjhkkpkaaEngXb
import Derived.Test.YtbhdobjjhkkpkaaEngV1
import Derived.Test.YtbhdobjjhkkpkaaEngPa
namespace Go.Eng.C
open Go Go.Eng Go.RowKit Go.Proofs
set_option linter.unusedVariables false
set_option linter.unusedSimpArgs false
set_option maxRecDepth 10000
variable {X : FuncId → List AV → AV → List AV → Prop}
theorem nm_laws_formula : (Try.f176.name == "runtime.NumGoroutine") = false := by decide
/-- What a program must have for an expression to be drawn. -/
structure FOk (p : Pr) : Prop where
  l1 : p.lows.length ≤ 1048576
  l2 : p.secs.length ≤ 1048576
  l3 : p.arrs.length ≤ 1048576
  t0 : 0 ≤ p.temps
  t1 : p.temps ≤ 1048576
  v : 0 < insN p
/-- What an expression names is there. -/
structure FN (p : Pr) : Prop where
  w : 4 ≤ sizeW p.w
  v : varsN p ≤ 256
  a : p.arrs.length ≤ 256
def FG (p : Pr) (e : List Tm) : Prop := FN p → Lifts e ∧ ∀ t ∈ e, nameOk p t
theorem FG.var {p : Pr} {c : Int} (h0 : 0 ≤ c) (h1 : c < (p.lows.length : Int) + p.secs.length + p.temps) : FG p [⟨1, c⟩] := fun h => by
  have hv := h.v
  have e : varsN p = (p.lows.length : Int) + p.secs.length + p.temps := by unfold varsN insN; omega
  refine ⟨Lifts.var c h0 (by omega), fun t ht => ?_⟩
  simp only [List.mem_singleton] at ht; subst ht
  exact ⟨by simp, fun _ => by dsimp only; omega, by simp⟩
theorem FG.num {p : Pr} {c : Int} (h0 : 0 ≤ c) (h1 : c < 4) : FG p [⟨0, c⟩] := fun h => by
  have hw := h.w
  refine ⟨Lifts.num c h0 (by omega), fun t ht => ?_⟩
  simp only [List.mem_singleton] at ht; subst ht
  exact ⟨fun _ => by dsimp only; omega, by simp, by simp⟩
theorem nameOk_op {p : Pr} {op : Int} (h : 3 ≤ op) : nameOk p ⟨op, 0⟩ := ⟨fun h' => by dsimp only at h'; omega, fun h' => by dsimp only at h'; omega, fun h' => by dsimp only at h'; omega⟩
theorem FG.one {p : Pr} {op : Int} {e : List Tm} (hg : FG p e) (ho : op = 0 ∨ op = 1) : FG p (e ++ [⟨3 + op, 0⟩]) := fun h => by
  obtain ⟨h1, h2⟩ := hg h
  refine ⟨Lifts.one (3 + op) h1 (by omega), fun t ht => ?_⟩
  rcases List.mem_append.1 ht with ht | ht
  · exact h2 t ht
  · simp only [List.mem_singleton] at ht; subst ht; exact nameOk_op (by omega)
theorem FG.cell {p : Pr} {c : Int} {e : List Tm} (hg : FG p e) (h0 : 0 ≤ c) (hc : c < (p.arrs.length : Int)) : FG p (e ++ [⟨2, c⟩]) := fun h => by
  obtain ⟨h1, h2⟩ := hg h
  have ha := h.a
  refine ⟨Lifts.cell c h1 h0 (by omega), fun t ht => ?_⟩
  rcases List.mem_append.1 ht with ht | ht
  · exact h2 t ht
  · simp only [List.mem_singleton] at ht; subst ht; exact ⟨by simp, by simp, fun _ => by dsimp only; omega⟩
theorem FG.two {p : Pr} {op : Int} {a b : List Tm} (hg : FG p a) (hg' : FG p b) (g0 : 0 ≤ op) (g1 : op ≤ 11) : FG p (a ++ b ++ [⟨5 + op, 0⟩]) := fun h => by
  obtain ⟨h1, h2⟩ := hg h
  obtain ⟨h3, h4⟩ := hg' h
  refine ⟨Lifts.two (5 + op) h1 h3 (by omega) (by omega), fun t ht => ?_⟩
  rcases List.mem_append.1 ht with ht | ht
  · rcases List.mem_append.1 ht with ht | ht
    · exact h2 t ht
    · exact h4 t ht
  · simp only [List.mem_singleton] at ht; subst ht; exact nameOk_op (by omega)
def formG (bs : List Int) (p : Pr) (n : Nat) (res : AV) (fin : List AV) : Prop := ∃ (e : List Tm) (i' h' : Int), res = .ow 93 2 e.length (encL tm e) ∧ fin = [dice bs i' h', .dead, .dead] ∧ DOk bs i' ∧ e.length < 2 ^ (n + 1) ∧ (∀ t ∈ e, 0 ≤ t.op ∧ t.op ≤ 16) ∧ FG p e
theorem pow2_pos (n : Nat) : 2 ≤ 2 ^ (n + 1) := by
  rw [Nat.pow_succ]; have := Nat.one_le_two_pow (n := n); omega
theorem tm_snoc (e : List Tm) (x : Tm) : AV.ow 93 2 (e.length + 1) (encL tm e ++ tm x) = .ow 93 2 (e ++ [x]).length (encL tm (e ++ [x])) := by
  rw [List.length_append, encL_append]; rfl
set_option maxHeartbeats 8000000 in
theorem formula (bs : List Int) (p : Pr) (hp : FOk p) : ∀ (n : Nat) (i h : Int), n ≤ 8 → DOk bs i → ∃ res fin, Ev Try.prog X (.fn 176 [dice bs i h, .ag (prR p), i64 n] res fin) ∧ formG bs p n res fin := by
  intro n
  obtain ⟨l1, l2, l3, t0, t1, hv⟩ := hp
  replace hv : 0 < (p.lows.length : Int) + p.secs.length + p.temps := by unfold insN at hv; omega
  induction n with
  | zero =>
    intro i h hn hD
    refine Ev.fnE (env := [(0, .ad 1000000 [] 0), (1, .ag (prR p)), (2, i64 ((0 : Nat) : Int)), (1000000, dice bs i h)]) (formG bs p 0) Try.func176 rfl nm_laws_formula rfl rfl (by kernel_rfl) (.cons rfl (.cons rfl (.cons rfl (.cons rfl .nil)))) ?_
    refine go ?_
    refine WO.boxA rfl rfl rfl rfl rfl ?_
    refine go ?_
    refine WO.dice rfl rfl rfl rfl hD (by omega) rfl rfl (fun c i h hD hc0 hc1 => ?_)
    refine go ?_
    refine WO.cmp rfl rfl rfl rfl rfl (fun h3 => ?_) (fun h3 => ?_)
    · refine go ?_
      refine WO.dice rfl rfl rfl rfl hD hv rfl rfl (fun c i h hD hc0 hc1 => ?_)
      refine WO.call rfl rfl rfl (variable_ c) rfl rfl ?_
      refine go ?_
      exact retOE (G := formG bs p 0) rfl rfl rfl rfl rfl ⟨[⟨1, c⟩], i, h, rfl, rfl, hD, by have := pow2_pos 0; simp <;> omega, by simp, FG.var hc0 (by omega)⟩
    · refine go ?_
      refine WO.dice rfl rfl rfl rfl hD (by omega) rfl rfl (fun c i h hD hc0 hc1 => ?_)
      refine WO.call rfl rfl rfl (number_ c) rfl rfl ?_
      refine go ?_
      exact retOE (G := formG bs p 0) rfl rfl rfl rfl rfl ⟨[⟨0, c⟩], i, h, rfl, rfl, hD, by have := pow2_pos 0; simp <;> omega, by simp, FG.num hc0 hc1⟩
  | succ n ih =>
    intro i h hn hD
    refine Ev.fnE (env := [(0, .ad 1000000 [] 0), (1, .ag (prR p)), (2, i64 ((n + 1 : Nat) : Int)), (1000000, dice bs i h)]) (formG bs p (n + 1)) Try.func176 rfl nm_laws_formula rfl rfl (by kernel_rfl) (.cons rfl (.cons rfl (.cons rfl (.cons rfl .nil)))) ?_
    refine go ?_
    refine WO.boxA rfl rfl rfl rfl rfl ?_
    refine go ?_
    refine WO.dice rfl rfl rfl rfl hD (by omega) rfl rfl (fun c i h hD hc0 hc1 => ?_)
    refine go ?_
    refine WO.cmp rfl rfl rfl rfl rfl (fun h2 => ?_) (fun h2 => ?_)
    · refine go ?_
      refine WO.dice rfl rfl rfl rfl hD (by omega) rfl rfl (fun c i h hD hc0 hc1 => ?_)
      refine go ?_
      refine WO.cmp rfl rfl rfl rfl rfl (fun h3 => ?_) (fun h3 => ?_)
      · refine go ?_
        refine WO.dice rfl rfl rfl rfl hD hv rfl rfl (fun c i h hD hc0 hc1 => ?_)
        refine WO.call rfl rfl rfl (variable_ c) rfl rfl ?_
        refine go ?_
        exact retOE (G := formG bs p (n + 1)) rfl rfl rfl rfl rfl ⟨[⟨1, c⟩], i, h, rfl, rfl, hD, by have := pow2_pos (n + 1); simp <;> omega, by simp, FG.var hc0 (by omega)⟩
      · refine go ?_
        refine WO.dice rfl rfl rfl rfl hD (by omega) rfl rfl (fun c i h hD hc0 hc1 => ?_)
        refine WO.call rfl rfl rfl (number_ c) rfl rfl ?_
        refine go ?_
        exact retOE (G := formG bs p (n + 1)) rfl rfl rfl rfl rfl ⟨[⟨0, c⟩], i, h, rfl, rfl, hD, by have := pow2_pos (n + 1); simp <;> omega, by simp, FG.num hc0 hc1⟩
    have hpw : 2 ^ (n + 1) ≤ 512 := Nat.pow_le_pow_right (n := 2) (by decide) (show n + 1 ≤ 9 by omega)
    have hps : 2 ^ (n + 1 + 1) = 2 ^ (n + 1) * 2 := Nat.pow_succ ..
    have e1 : ((n + 1 : Nat) : Int) - 1 = n := by omega
    refine go ?_
    refine WO.dice rfl rfl rfl rfl hD (by omega) rfl rfl (fun op i h hD ho0 ho1 => ?_)
    refine go ?_
    refine WO.dice rfl rfl rfl rfl hD (by omega) rfl rfl (fun c i h hD hc0 hc1 => ?_)
    refine go ?_
    refine WO.cmp rfl rfl rfl rfl rfl (fun h3 => ?_) (fun h3 => ?_)
    · refine go ?_
      refine WO.dice rfl rfl rfl rfl hD (by omega) rfl rfl (fun op i h hD ho0 ho1 => ?_)
      refine go ?_
      rw [e1]
      obtain ⟨res, fin, hE, e, i, h, rfl, rfl, hD, hl, ho, hg⟩ := ih i h (by omega) hD
      refine WO.callD rfl rfl rfl rfl rfl hE rfl rfl rfl rfl ?_
      refine go ?_
      refine WO.bld (cs := tm ⟨3 + op, 0⟩) rfl rfl rfl rfl ?_
      refine WO.b1A rfl rfl rfl rfl rfl rfl rfl rfl ?_
      refine WO.apM rfl rfl rfl (encL_length _) rfl rfl rfl rfl rfl (by unfold maxLen; omega) (by omega) rfl ?_
      rw [tm_snoc]
      refine go ?_
      exact retOE (G := formG bs p (n + 1)) rfl rfl (encL_length _) rfl rfl ⟨e ++ [⟨3 + op, 0⟩], i, h, rfl, rfl, hD, by simp; omega, (fun t ht => by
        rcases List.mem_append.1 ht with ht | ht
        · exact ho t ht
        · simp at ht; subst ht; dsimp only; omega), FG.one hg (by omega)⟩
    refine go ?_
    refine WO.cmp rfl rfl rfl rfl rfl (fun h4 => ?_) (fun h4 => ?_)
    · refine go ?_
      refine WO.dice rfl rfl rfl rfl hD (by omega) rfl rfl (fun c i h hD hc0 hc1 => ?_)
      refine go ?_
      refine WO.cmp rfl rfl rfl rfl rfl (fun h5 => ?_) (fun h5 => ?_)
      · refine go ?_
        refine WC.regionD ⟨[[], [], [], [2], [0, 1, 2, 3], [], [], [6], [6, 7], [0, 1, 2, 3, 4, 5, 6, 7, 8], [0, 1, 2, 3, 4, 5, 6, 7, 8, 9], [0, 1, 2, 3, 4, 5, 6, 7, 8, 9, 10], [0, 1, 2, 3, 4, 5, 6, 7, 8, 9, 10, 11], [0, 1, 2, 3, 4, 5, 6, 7, 8, 9, 10, 11, 12]], [0, 1, 2, 3, 5, 6, 7, 8, 10], [(4, [1000000]), (9, [1000000])], [63, 64, 65, 66, 67, 68, 69, 70, 71, 72, 73], [0, 1, 2, 3, 4, 5, 6, 7, 8, 9, 10, 11, 12, 13], [([64, 65, 66, 68, 69, 70, 71], [64, 65, 66, 68, 69, 70, 71], false), ([63, 65, 66, 68, 69, 70, 71], [63, 65, 66, 68, 69, 70, 71], false), ([63, 64, 68, 69, 70, 71], [63, 64, 68, 69, 70, 71], false), ([63, 64, 68, 69, 70, 71], [63, 64, 68, 69, 70, 71], false), ([68, 69, 70, 71], [68, 69, 70, 71], false), ([63, 64, 65, 66, 67, 69, 70, 71], [63, 64, 65, 66, 67, 1000000, 69, 70, 71], true), ([63, 64, 65, 66, 67, 68], [63, 64, 65, 66, 67, 1000000, 68], true), ([63, 64, 65, 66, 67, 68], [63, 64, 65, 66, 67, 1000000, 68], true), ([63, 64, 65, 66, 67, 68], [63, 64, 65, 66, 67, 1000000, 68], true), ([], [], false), ([], [], false), ([], [], false), ([], [], false), ([], [], false)]⟩ (by kernel_rfl) rfl ?_
        refine go ?_
        rw [e1]
        obtain ⟨res, fin, hE, e, i, h, rfl, rfl, hD, hl, ho, hg⟩ := ih i h (by omega) hD
        refine WD.callD rfl rfl rfl rfl rfl rfl rfl rfl rfl rfl hE rfl rfl rfl rfl rfl rfl rfl rfl ?_
        refine go ?_
        refine WD.dice rfl rfl rfl rfl rfl rfl rfl rfl rfl hD (by omega) rfl rfl rfl rfl rfl (fun c i h hD hc0 hc1 => ?_)
        refine WD.q rfl rfl rfl rfl rfl (QE.bld (cs := tm ⟨2, c⟩) rfl) rfl rfl rfl ?_
        refine WD.mut rfl rfl rfl ?_
        refine WO.b1A rfl rfl rfl rfl rfl rfl rfl rfl ?_
        refine go ?_
        refine WO.apM rfl rfl rfl (encL_length _) rfl rfl rfl rfl rfl (by unfold maxLen; omega) (by omega) rfl ?_
        rw [tm_snoc]
        refine go ?_
        exact retOE (G := formG bs p (n + 1)) rfl rfl (encL_length _) rfl rfl ⟨e ++ [⟨2, c⟩], i, h, rfl, rfl, hD, by simp; omega, (fun t ht => by
          rcases List.mem_append.1 ht with ht | ht
          · exact ho t ht
          · simp at ht; subst ht; dsimp only; omega), FG.cell hg hc0 (by omega)⟩
      · refine go ?_
        refine WC.regionD ⟨[[], [], [], [], [3], [1, 2, 3, 4], [], [], [], [8], [1, 2, 3, 4, 5, 6, 7, 8, 9], [0, 1, 2, 3, 4, 5, 6, 7, 8, 9, 10], [0, 1, 2, 3, 4, 5, 6, 7, 8, 9, 10, 11]], [0, 1, 2, 3, 4, 6, 7, 8, 9], [(5, [1000000]), (10, [1000000])], [76, 77, 78, 79, 80, 81, 82, 83, 84, 85, 86], [0, 1, 2, 3, 4, 5, 6, 7, 8, 9, 10, 11, 12], [([77, 78, 79, 80, 81, 82, 83, 84, 85, 86], [77, 78, 79, 80, 81, 1000000, 82, 83, 84, 85, 86, 1000000], true), ([76, 78, 79, 80, 82, 83, 84, 85], [76, 78, 79, 80, 82, 83, 84, 85], false), ([76, 77, 79, 80, 82, 83, 84, 85], [76, 77, 79, 80, 82, 83, 84, 85], false), ([76, 77, 78, 82, 83, 84, 85], [76, 77, 78, 82, 83, 84, 85], false), ([76, 77, 78, 82, 83, 84, 85], [76, 77, 78, 82, 83, 84, 85], false), ([76, 82, 83, 84, 85], [76, 82, 83, 84, 85], false), ([76, 77, 78, 79, 80, 81, 83, 84, 85], [76, 77, 78, 79, 80, 81, 1000000, 83, 84, 85], true), ([76, 77, 78, 79, 80, 81, 82, 84, 85], [76, 77, 78, 79, 80, 81, 1000000, 82, 84, 85], true), ([76, 77, 78, 79, 80, 81, 82, 83], [76, 77, 78, 79, 80, 81, 1000000, 82, 83], true), ([76, 77, 78, 79, 80, 81, 82, 83], [76, 77, 78, 79, 80, 81, 1000000, 82, 83], true), ([76], [76], false), ([], [], false), ([], [], false)]⟩ (by kernel_rfl) rfl ?_
        refine go ?_
        rw [e1]
        obtain ⟨res, fin, hE, e, i, h, rfl, rfl, hD, hl, ho, hg⟩ := ih i h (by omega) hD
        refine WD.callD rfl rfl rfl rfl rfl rfl rfl rfl rfl rfl hE rfl rfl rfl rfl rfl rfl rfl rfl ?_
        refine go ?_
        rw [e1]
        obtain ⟨res, fin, hE, e', i, h, rfl, rfl, hD, hl', ho', hg'⟩ := ih i h (by omega) hD
        refine WD.callD rfl rfl rfl rfl rfl rfl rfl rfl rfl rfl hE rfl rfl rfl rfl rfl rfl rfl rfl ?_
        refine WD.mut rfl rfl rfl ?_
        refine WO.callF rfl (.cons (.plain _ rfl) (.cons (frz1 rfl rfl) (.cons (frz1 rfl rfl) .nil))) (two (5 + op) e e' (by omega) (by omega)) (by simp only [noIm, noIm_tm]) rfl rfl ?_
        refine go ?_
        exact retOE (G := formG bs p (n + 1)) rfl rfl (encL_length _) rfl rfl ⟨e ++ e' ++ [⟨5 + op, 0⟩], i, h, rfl, rfl, hD, by simp; omega, (fun t ht => by
          rcases List.mem_append.1 ht with ht | ht
          · rcases List.mem_append.1 ht with ht | ht
            · exact ho t ht
            · exact ho' t ht
          · simp at ht; subst ht; dsimp only; omega), FG.two hg hg' (by omega) (by omega)⟩
    · refine go ?_
      refine WC.regionD ⟨[[], [], [], [], [3], [1, 2, 3, 4], [], [], [], [8], [1, 2, 3, 4, 5, 6, 7, 8, 9], [0, 1, 2, 3, 4, 5, 6, 7, 8, 9, 10], [0, 1, 2, 3, 4, 5, 6, 7, 8, 9, 10, 11]], [0, 1, 2, 3, 4, 6, 7, 8, 9], [(5, [1000000]), (10, [1000000])], [76, 77, 78, 79, 80, 81, 82, 83, 84, 85, 86], [0, 1, 2, 3, 4, 5, 6, 7, 8, 9, 10, 11, 12], [([77, 78, 79, 80, 81, 82, 83, 84, 85, 86], [77, 78, 79, 80, 81, 1000000, 82, 83, 84, 85, 86, 1000000], true), ([76, 78, 79, 80, 82, 83, 84, 85], [76, 78, 79, 80, 82, 83, 84, 85], false), ([76, 77, 79, 80, 82, 83, 84, 85], [76, 77, 79, 80, 82, 83, 84, 85], false), ([76, 77, 78, 82, 83, 84, 85], [76, 77, 78, 82, 83, 84, 85], false), ([76, 77, 78, 82, 83, 84, 85], [76, 77, 78, 82, 83, 84, 85], false), ([76, 82, 83, 84, 85], [76, 82, 83, 84, 85], false), ([76, 77, 78, 79, 80, 81, 83, 84, 85], [76, 77, 78, 79, 80, 81, 1000000, 83, 84, 85], true), ([76, 77, 78, 79, 80, 81, 82, 84, 85], [76, 77, 78, 79, 80, 81, 1000000, 82, 84, 85], true), ([76, 77, 78, 79, 80, 81, 82, 83], [76, 77, 78, 79, 80, 81, 1000000, 82, 83], true), ([76, 77, 78, 79, 80, 81, 82, 83], [76, 77, 78, 79, 80, 81, 1000000, 82, 83], true), ([76], [76], false), ([], [], false), ([], [], false)]⟩ (by kernel_rfl) rfl ?_
      refine go ?_
      rw [e1]
      obtain ⟨res, fin, hE, e, i, h, rfl, rfl, hD, hl, ho, hg⟩ := ih i h (by omega) hD
      refine WD.callD rfl rfl rfl rfl rfl rfl rfl rfl rfl rfl hE rfl rfl rfl rfl rfl rfl rfl rfl ?_
      refine go ?_
      rw [e1]
      obtain ⟨res, fin, hE, e', i, h, rfl, rfl, hD, hl', ho', hg'⟩ := ih i h (by omega) hD
      refine WD.callD rfl rfl rfl rfl rfl rfl rfl rfl rfl rfl hE rfl rfl rfl rfl rfl rfl rfl rfl ?_
      refine WD.mut rfl rfl rfl ?_
      refine WO.callF rfl (.cons (.plain _ rfl) (.cons (frz1 rfl rfl) (.cons (frz1 rfl rfl) .nil))) (two (5 + op) e e' (by omega) (by omega)) (by simp only [noIm, noIm_tm]) rfl rfl ?_
      refine go ?_
      exact retOE (G := formG bs p (n + 1)) rfl rfl (encL_length _) rfl rfl ⟨e ++ e' ++ [⟨5 + op, 0⟩], i, h, rfl, rfl, hD, by simp; omega, (fun t ht => by
        rcases List.mem_append.1 ht with ht | ht
        · rcases List.mem_append.1 ht with ht | ht
          · exact ho t ht
          · exact ho' t ht
        · simp at ht; subst ht; dsimp only; omega), FG.two hg hg' (by omega) (by omega)⟩
end Go.Eng.C

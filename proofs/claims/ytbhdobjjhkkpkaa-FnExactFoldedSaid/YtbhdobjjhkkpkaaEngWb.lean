/- Contracts of functions, by the engine: the reference's reckoning of an expression (printed by mk/mkwb.py). -/
import Derived.Test.YtbhdobjjhkkpkaaEngWa
namespace Go.Eng
open Go Go.RowKit
section
variable {P : Program} {X : FuncId → List AV → AV → List AV → Prop} {all : Array Oper} {R : (Nat → AV) → Prop} {env : Env} {g : Option (Nat × Bool)} {d t : Nat} {l : List Oper} {ty : TypeId} {pos : String} {af : Array Edge}
theorem put_cln {d : Nat} {a : AV} {e : Env} (ha : nrA d a = true) : Drop (put (look e) d a) (look ((d, a) :: clnE d e)) := by
  intro t
  by_cases ht : t = d
  · subst ht
    right
    simp only [look, Nat.beq_refl, cond_true, put, upd_same]
    exact (nrA_mask a ha).symm
  · have hb : Nat.beq d t = false := by
      cases h : Nat.beq d t
      · rfl
      · exact absurd (Nat.eq_of_beq_eq_true h).symm ht
    simp only [look, hb, cond_false, put, upd_ne _ _ _ ht]
    clear hb
    induction e with
    | nil => left; rfl
    | cons x e ih =>
      obtain ⟨k, c⟩ := x
      simp only [look, clnE]
      cases Nat.beq k t
      · simpa only [cond_false] using ih
      · simp only [cond_true]
        cases hc : nrA d c
        · left; rfl
        · right; exact (nrA_mask c hc).symm
/-- The beginning of what a register owns is kept (in that register, too). -/
theorem WO.takeT {op : Op} {x : Operand} {r n m e sz : Nat} {cs : List AV} (hg : gg all (look env) g = some true) (hop : MV op x) (hx : ov (look env) x = .vw r [] 0 n) (hr : look env r = .ow e sz m cs) (hm : n ≤ m) (k : WO P X all l (look ((d, .ow e sz n (cs.take (n * sz))) :: clnE d ((r, .dead) :: env))) R) : WO P X all (⟨some d, op, ty, pos, af, g⟩ :: l) (look env) R := by
  have hT : TakeL (look env) [ov (look env) x] [.ow e sz n (cs.take (n * sz))] (look ((r, .dead) :: env)) := by
    rw [hx]; exact tkT hr hm (.nil _)
  refine WO.op (σ1 := put (look ((r, .dead) :: env)) d (.ow e sz n (cs.take (n * sz)))) (gg_goes hg) (.take (x := x) (by cases hop <;> simp) rfl hT) ?_
  exact WO.drop (put_cln rfl) k
/-- Cells of what another register owns are copied behind an own slice. -/
theorem WO.apC {x : Operand} {tx e sz by_ n m : Nat} {z : Value} {cs L zc : List AV} [hT : SlT P tx e sz] [hZ : ZrT P e by_ z zc] (hg : gg all (look env) g = some true) (ht : Nat.blt t HB = true) (hs : look env t = .ow e sz n cs) (hl : cs.length = n * sz) (hx : Cpy (look env) (ov (look env) x) m L) (hL : L.length = m * sz) (hz : Nat.beq zc.length sz = true) (h63 : n + m ≤ maxLen) (hby : (n + m) * by_ ≤ 140737488355328) (hn : nrE d env = true)
    (k : WO P X all l (look ((d, .ow e sz (n + m) (cs ++ L)) :: (t, .dead) :: env)) R) : WO P X all (⟨some d, .call { callee := .builtin .append, args := #[.tmp t, x], argTypes := #[tx, tx] }, ty, pos, af, g⟩ :: l) (look env) R := by
  refine WO.op (σ1 := put (look ((t, .dead) :: env)) d (.ow e sz (n + m) (cs ++ L))) (gg_goes hg) (.appendC (z := z) rfl rfl hT.ht hT.hs hZ.hb hZ.hz (zr_size hZ hz) hT.h0 (hx_tk ht hs hl) (.ow n cs) hx hL h63 hby) ?_
  rw [put_look (by simp only [nrE, nrA, hn, Bool.and_self]) rfl]
  exact k
end
end Go.Eng
namespace Go.Eng.C
open Go Go.Eng Go.RowKit Go.Proofs
set_option linter.unusedVariables false
set_option linter.unusedSimpArgs false
set_option maxRecDepth 10000
variable {X : FuncId → List AV → AV → List AV → Prop}
theorem nm_spec_l5Value : (Try.f69.name == "runtime.NumGoroutine") = false := by decide
theorem nm_spec_ValueIn : (Try.f24.name == "runtime.NumGoroutine") = false := by decide
theorem nm_spec_PlainIn : (Try.f16.name == "runtime.NumGoroutine") = false := by decide
theorem rp_cons2 (w : Int) (v : Vs) (t : Tm) (l : List Tm) (s : List Int) (b : Nat) (hb : b = s.length - (tks t.op).toNat) {V c : Int} (hv : val1 w v t (s.drop b) = (V, c)) : rp w v (t :: l) s = ((rp w v l (s.take b ++ [V])).1, if c ≠ 0 then c else (rp w v l (s.take b ++ [V])).2) := by
  subst hb
  simp only [rp, hv]
theorem cpy_drop {env : Env} {r b m : Nat} {e : TypeId} {s : List Int} (hr : look env r = .ow e 1 s.length (encL eI s)) (hb : b ≤ s.length) (hm : m = s.length - b) : Cpy (look env) (.vw r [] b m) m (encL eI (s.drop b)) := by
  subst hm
  have h1 : (encL eI s).drop b = encL eI (s.drop b) := by
    have := encL_drop (f := eI) (sz := 1) b s
    rwa [Nat.mul_one] at this
  have h2 : ((encL eI s).drop b).take ((s.length - b) * 1) = encL eI (s.drop b) := by
    rw [h1, List.take_of_length_le (by rw [encL_len1]; simp)]
  have := Cpy.vw (σ := look env) r b (s.length - b) e 1 s.length [] (encL eI s) (by simp [getN, hr]) (by rw [encL_len1]; omega) (by rw [h2]; exact encL_pl _)
  rwa [h2] at this
theorem own_take (s : List Int) (b : Nat) (hb : b ≤ s.length) : AV.ow 2 1 b ((encL eI s).take (b * 1)) = .ow 2 1 b (encL eI (s.take b)) := by
  rw [encL_take (f := eI) (sz := 1)]
theorem getD_inD {q : Int → Prop} {s : List Int} {b j : Nat} (h : ∀ x ∈ s, q x) (hj : b + j < s.length) : q ((s.drop b).getD j 0) := by
  rw [getD_drop0]; exact getD_in h hj
theorem trap_step (tr c q : Int) : (if tr ≠ 0 then tr else if c ≠ 0 then c else q) = (if (if tr = 0 then c else tr) ≠ 0 then (if tr = 0 then c else tr) else q) := by
  by_cases h : tr = 0 <;> simp [h]
set_option maxHeartbeats 40000000 in
theorem l5Value (p : Pr) (v : Vs) (e : List Tm) (w1 : 1 ≤ p.w) (w8 : p.w ≤ 8) (hB : PB p) (heo : expOk e = true) (hv : VFit p v e) : Ev Try.prog X (.fn 69 [.ag (prR p), .ag (enR v), .im e.length (encL tm e)] (.tu [i64 (rp p.w v e []).1, i64 (rp p.w v e []).2]) [.dead, .dead, .dead]) := by
  obtain ⟨hsz, hsz8⟩ := sizeW_bd w8
  have hB3 := hB.a
  simp only [expOk, Bool.and_eq_true, decide_eq_true_eq] at heo
  obtain ⟨hel, heh⟩ := heo
  refine Ev.fnW (env := [(0, .ag (prR p)), (1, .ag (enR v)), (2, .im e.length (encL tm e))]) Try.func69 rfl nm_spec_l5Value rfl rfl (by kernel_rfl) (.cons rfl (.cons rfl (.cons rfl .nil))) ?_
  refine go2 ?_
  refine WO.call rfl rfl rfl (l3Size p (by omega) w8) rfl rfl ?_
  refine go2 ?_
  refine WC.loopS (S := Nat × List Int × Int) (fun s => [(2, .im e.length (encL tm e)), (3, .op (prR p)), (4, .op (enR v)), (8, .ow 2 1 s.2.1.length (encL eI s.2.1)), (9, i64 s.2.2), (10, i64 (sizeW p.w)), (11, i64 s.1)]) (fun s => s.1 ≤ e.length ∧ (rp p.w v (e.drop s.1) s.2.1).1 = (rp p.w v e []).1 ∧ (if s.2.2 ≠ 0 then s.2.2 else (rp p.w v (e.drop s.1) s.2.1).2) = (rp p.w v e []).2 ∧ hgt (e.drop s.1) s.2.1.length = some 1 ∧ (∀ x ∈ s.2.1, inW p.w x) ∧ s.2.1.length ≤ s.1) (fun s => e.length - s.1) (0, [], 0) (.cons rfl (.cons rfl (.cons rfl (.cons rfl (.cons rfl (.cons rfl (.cons rfl .nil))))))) ⟨Nat.zero_le _, rfl, rfl, heh, (fun x hx => by simp at hx), Nat.le_refl _⟩ ?_
  rintro ⟨k, s, tr⟩ ⟨g1, g2, gt, g3, g4, g5⟩
  dsimp only at g1 g2 gt g3 g4 g5 ⊢
  refine go2 ?_
  refine WO.cmp rfl rfl rfl rfl rfl (fun h3 => ?_) (fun h3 => ?_)
  · have hk : k < e.length := by omega
    obtain ⟨t, ht⟩ : ∃ t, t = e.getD k ⟨0, 0⟩ := ⟨_, rfl⟩
    have htm : t ∈ e := by rw [ht]; simp [List.getD_eq_getElem?_getD, hk]
    have hdr : e.drop k = t :: e.drop (k + 1) := by rw [ht]; exact drop_getD hk ⟨0, 0⟩
    rw [hdr] at g2 g3 gt
    simp only [hgt] at g3
    split at g3
    case isFalse => cases g3
    rename_i htk
    obtain ⟨⟨t0, t1, t2, t3⟩, htk⟩ := htk
    have htr := tks_range t.op
    obtain ⟨b, hb⟩ : ∃ b : Nat, b = s.length - (tks t.op).toNat := ⟨_, rfl⟩
    have hb1 : (s.length : Int) - tks t.op = b := by omega
    have hbl : b ≤ s.length := by omega
    have hsl : s.length ≤ 3000 := by omega
    have hdl : (s.drop b).length = s.length - b := by simp
    have g3' : ∀ V : Int, hgt (e.drop (k + 1)) (s.take b ++ [V]).length = some 1 := by
      intro V
      rw [← g3]; congr 1; simp; omega
    have fin : ∀ {V c : Int}, val1 p.w v t (s.drop b) = (V, c) → inW p.w V → ∀ tr', tr' = (if tr = 0 then c else tr) → k + 1 ≤ e.length ∧ (rp p.w v (e.drop (k + 1)) (s.take b ++ [V])).1 = (rp p.w v e []).1 ∧ (if tr' ≠ 0 then tr' else (rp p.w v (e.drop (k + 1)) (s.take b ++ [V])).2) = (rp p.w v e []).2 ∧ hgt (e.drop (k + 1)) (s.take b ++ [V]).length = some 1 ∧ (∀ x ∈ s.take b ++ [V], inW p.w x) ∧ (s.take b ++ [V]).length ≤ k + 1 := by
      intro V c h1 h2 tr' h4
      have hc := rp_cons2 p.w v t (e.drop (k + 1)) s b hb h1
      rw [hc] at g2 gt
      dsimp only at g2 gt
      refine ⟨hk, g2, by rw [h4, ← gt, trap_step], g3' V, fun x hx => ?_, by simp; omega⟩
      rcases List.mem_append.1 hx with h | h
      · exact g4 x (List.mem_of_mem_take h)
      · simp only [List.mem_singleton] at h; subst h; exact h2
    refine go2 ?_
    refine WO.ixN (f := tm) ⟨0, 0⟩ rfl rfl rfl hk rfl ?_
    rw [← ht]
    refine go2 ?_
    refine WO.call rfl rfl rfl (specTakesOf t.op) rfl rfl ?_
    refine go2 ?_
    rw [hb1]
    refine WO.q rfl (QE.slT (b := b) rfl rfl (by rw [encL_len1]; exact Nat.le_refl _) rfl hbl) rfl rfl ?_
    refine WO.apC (cs := []) rfl rfl rfl rfl (cpy_drop (s := s) rfl hbl rfl) (by rw [encL_len1, hdl]; omega) rfl (by unfold maxLen; omega) (by omega) rfl ?_
    rw [Nat.zero_add, List.nil_append]
    refine go2 ?_
    refine WO.q rfl (QE.slH (b := b) rfl rfl (by rw [encL_len1]; exact Nat.le_refl _) rfl hbl) rfl rfl ?_
    refine WO.takeT rfl (.assign _) rfl rfl hbl ?_
    rw [own_take s b hbl]
    refine go2 ?_
    refine WO.ixN (f := tm) ⟨0, 0⟩ rfl rfl rfl hk rfl ?_
    rw [← ht]
    refine go2 ?_
    have hop : t.op = 0 ∨ t.op = 1 ∨ t.op = 2 ∨ (t.op = 3 ∨ t.op = 4) ∨ t.op = 17 ∨ (5 ≤ t.op ∧ t.op ≤ 16) := by unfold tks at t0; omega
    rcases hop with h | h | h | h | h | h
    · refine go2 ?_
      refine WO.ixN (f := tm) ⟨0, 0⟩ rfl rfl rfl hk rfl ?_
      rw [← ht]
      refine go2 ?_
      refine go2 ?_
      refine WO.cmp rfl rfl rfl rfl rfl (fun hz => ?_) (fun hz => ?_)
      · refine go2 ?_
        refine WO.bsA (us := [i64 (t.n)]) (cs := encL eI [t.n]) rfl rfl rfl rfl rfl (by kernel_rfl) rfl ?_
        refine WO.hard (r := 158) (p := []) (x := .ow 2 1 1 (encL eI [t.n])) (y := .im 1 [.sc (.int .i64 (t.n))]) rfl rfl rfl ?_
        refine WO.apVI rfl rfl rfl (by rw [encL_len1]; simp; omega) rfl rfl rfl (by unfold maxLen; omega) (by omega) rfl ?_
        rw [pile_app s b hbl (t.n)]
        refine WO.cln 8 ?_
        refine go2 ?_
        exact lpK.mk (k + 1, s.take b ++ [t.n], 0) (.cons rfl (.cons rfl (.cons rfl (.cons rfl (.cons rfl (.cons rfl (.cons rfl .nil))))))) (fin (c := 0) (by simp [val1, h]) (⟨t1, hv.num t htm h⟩) _ (by simp [hz])) (by dsimp only; omega)
      · refine go2 ?_
        refine WO.bsA (us := [i64 (t.n)]) (cs := encL eI [t.n]) rfl rfl rfl rfl rfl (by kernel_rfl) rfl ?_
        refine WO.hard (r := 158) (p := []) (x := .ow 2 1 1 (encL eI [t.n])) (y := .im 1 [.sc (.int .i64 (t.n))]) rfl rfl rfl ?_
        refine WO.apVI rfl rfl rfl (by rw [encL_len1]; simp; omega) rfl rfl rfl (by unfold maxLen; omega) (by omega) rfl ?_
        rw [pile_app s b hbl (t.n)]
        refine WO.cln 8 ?_
        refine go2 ?_
        exact lpK.mk (k + 1, s.take b ++ [t.n], tr) (.cons rfl (.cons rfl (.cons rfl (.cons rfl (.cons rfl (.cons rfl (.cons rfl .nil))))))) (fin (c := 0) (by simp [val1, h]) (⟨t1, hv.num t htm h⟩) _ (by simp [hz])) (by dsimp only; omega)
    · have hvl : t.n < (v.vars.length : Int) := hv.var t htm h
      refine go2 ?_
      refine WC.regionDd ⟨[[], [0], [], [], [2, 3], [2, 3, 4], [2, 3, 4, 5], [0, 1, 2, 3, 4, 5, 6], [0, 1, 2, 3, 4, 5, 6, 7], [0, 1, 2, 3, 4, 5, 6, 7, 8]], [0, 1, 2, 3, 4, 5, 6, 7, 8], [], [89, 90, 91, 92, 93, 94, 95, 96, 97], [0, 1, 2, 3, 4, 5, 6, 7, 8, 9], [([91, 92, 93, 94, 95], [91, 92, 93, 94, 95], false), ([91, 92, 93, 94, 95], [91, 92, 93, 94, 95], false), ([89, 90, 92], [89, 90, 92], false), ([89, 90, 91], [89, 90, 91], false), ([89, 90], [89, 90], false), ([89, 90], [89, 90], false), ([89, 90], [89, 90], false), ([], [], false), ([], [], false), ([], [], false)]⟩ (by kernel_rfl) ?_
      refine go2 ?_
      refine WD.q rfl rfl rfl rfl rfl (QE.ixN (f := tm) ⟨0, 0⟩ rfl rfl hk) rfl rfl rfl ?_
      rw [← ht]
      refine go2 ?_
      refine WD.q rfl rfl rfl rfl rfl (QE.ixI (f := eI) 0 rfl rfl t1 hvl) rfl rfl rfl ?_
      refine go2 ?_
      refine WO.cmp rfl rfl rfl rfl rfl (fun hz => ?_) (fun hz => ?_)
      · refine go2 ?_
        refine WO.bsA (us := [i64 (v.vars.getD t.n.toNat 0)]) (cs := encL eI [v.vars.getD t.n.toNat 0]) rfl rfl rfl rfl rfl (by kernel_rfl) rfl ?_
        refine WO.hard (r := 158) (p := []) (x := .ow 2 1 1 (encL eI [v.vars.getD t.n.toNat 0])) (y := .im 1 [.sc (.int .i64 (v.vars.getD t.n.toNat 0))]) rfl rfl rfl ?_
        refine WO.apVI rfl rfl rfl (by rw [encL_len1]; simp; omega) rfl rfl rfl (by unfold maxLen; omega) (by omega) rfl ?_
        rw [pile_app s b hbl (v.vars.getD t.n.toNat 0)]
        refine WO.cln 8 ?_
        refine go2 ?_
        exact lpK.mk (k + 1, s.take b ++ [v.vars.getD t.n.toNat 0], 0) (.cons rfl (.cons rfl (.cons rfl (.cons rfl (.cons rfl (.cons rfl (.cons rfl .nil))))))) (fin (c := 0) (by simp [val1, h]) (getD_in (q := inW p.w) hv.vs (by omega)) _ (by simp [hz])) (by dsimp only; omega)
      · refine go2 ?_
        refine WO.bsA (us := [i64 (v.vars.getD t.n.toNat 0)]) (cs := encL eI [v.vars.getD t.n.toNat 0]) rfl rfl rfl rfl rfl (by kernel_rfl) rfl ?_
        refine WO.hard (r := 158) (p := []) (x := .ow 2 1 1 (encL eI [v.vars.getD t.n.toNat 0])) (y := .im 1 [.sc (.int .i64 (v.vars.getD t.n.toNat 0))]) rfl rfl rfl ?_
        refine WO.apVI rfl rfl rfl (by rw [encL_len1]; simp; omega) rfl rfl rfl (by unfold maxLen; omega) (by omega) rfl ?_
        rw [pile_app s b hbl (v.vars.getD t.n.toNat 0)]
        refine WO.cln 8 ?_
        refine go2 ?_
        exact lpK.mk (k + 1, s.take b ++ [v.vars.getD t.n.toNat 0], tr) (.cons rfl (.cons rfl (.cons rfl (.cons rfl (.cons rfl (.cons rfl (.cons rfl .nil))))))) (fin (c := 0) (by simp [val1, h]) (getD_in (q := inW p.w) hv.vs (by omega)) _ (by simp [hz])) (by dsimp only; omega)
    · have hk1 : tks t.op = 1 := by rw [h]; rfl
      obtain ⟨hal, hcl, c1, c2⟩ := hv.cell t htm h t1
      obtain ⟨y0, y1⟩ := getD_inD (q := inW p.w) g4 (b := b) (j := 0) (by omega)
      refine go2 ?_
      refine WC.regionDd ⟨[[], [0], [0, 1], [], [3], [], [], [5, 6], [5, 6, 7], [5, 6, 7, 8], [3, 4, 5, 6, 7, 8, 9], [3, 4, 5, 6, 7, 8, 9, 10], [3, 4, 5, 6, 7, 8, 9, 10, 11], [0, 1, 2, 3, 4, 5, 6, 7, 8, 9, 10, 11, 12]], [0, 1, 2, 3, 4, 5, 6, 7, 8, 9, 10, 11, 12, 13], [], [100, 101, 102, 103, 104, 105, 106, 107, 108, 109, 110, 111, 112, 113], [0, 1, 2, 3, 4, 5, 6, 7, 8, 9, 10, 11, 12, 13], [([103, 104, 105, 106, 107, 108, 109, 110, 111, 112], [103, 104, 105, 106, 107, 108, 109, 110, 111, 112], false), ([103, 104, 105, 106, 107, 108, 109, 110, 111, 112], [103, 104, 105, 106, 107, 108, 109, 110, 111, 112], false), ([103, 104, 105, 106, 107, 108, 109, 110, 111, 112], [103, 104, 105, 106, 107, 108, 109, 110, 111, 112], false), ([100, 101, 102, 105, 106, 107, 108, 109], [100, 101, 102, 105, 106, 107, 108, 109], false), ([100, 101, 102, 105, 106, 107, 108, 109], [100, 101, 102, 105, 106, 107, 108, 109], false), ([100, 101, 102, 103, 104, 106], [100, 101, 102, 103, 104, 106], false), ([100, 101, 102, 103, 104, 105], [100, 101, 102, 103, 104, 105], false), ([100, 101, 102, 103, 104], [100, 101, 102, 103, 104], false), ([100, 101, 102, 103, 104], [100, 101, 102, 103, 104], false), ([100, 101, 102, 103, 104], [100, 101, 102, 103, 104], false), ([100, 101, 102], [100, 101, 102], false), ([100, 101, 102], [100, 101, 102], false), ([100, 101, 102], [100, 101, 102], false), ([], [], false)]⟩ (by kernel_rfl) ?_
      refine go2 ?_
      refine WD.q rfl rfl rfl rfl rfl (QE.ixT (b := 0) 0 rfl rfl (by rw [encL_len1, hdl]; omega) rfl (by omega)) rfl rfl rfl ?_
      refine WD.q rfl rfl rfl rfl rfl (QE.ldT rfl rfl (by omega)) rfl rfl rfl ?_
      rw [show 0 + 0 = 0 from rfl]
      refine go2 ?_
      refine WD.q rfl rfl rfl rfl rfl (QE.ixN (f := tm) ⟨0, 0⟩ rfl rfl hk) rfl rfl rfl ?_
      rw [← ht]
      refine go2 ?_
      refine WD.q rfl rfl rfl rfl rfl (QE.ixI (f := eRow) [] rfl rfl t1 hcl) rfl rfl rfl ?_
      refine go2 ?_
      by_cases hlt : (s.drop b).getD 0 0 < ((v.cells.getD t.n.toNat []).length : Int)
      · have hval : val1 p.w v t (s.drop b) = ((v.cells.getD t.n.toNat []).getD ((s.drop b).getD 0 0).toNat 0, 0) := by simp only [val1, h]; rw [if_neg (by decide), if_neg (by decide), if_pos True.intro, if_pos hlt]
        refine go2 ?_
        refine WC.regionDd ⟨[[], [0], [], [], [2, 3], [2, 3, 4], [2, 3, 4, 5], [0, 1, 2, 3, 4, 5, 6], [0, 1, 2, 3, 4, 5, 6, 7], [], [9], [9, 10], [0, 1, 2, 3, 4, 5, 6, 7, 8, 9, 10, 11], [0, 1, 2, 3, 4, 5, 6, 7, 8, 9, 10, 11, 12], [0, 1, 2, 3, 4, 5, 6, 7, 8, 9, 10, 11, 12, 13]], [0, 1, 2, 3, 4, 5, 6, 7, 8, 9, 10, 11, 12, 13], [], [114, 115, 116, 117, 118, 119, 120, 121, 122, 123, 124, 125, 126, 127], [0, 1, 2, 3, 4, 5, 6, 7, 8, 9, 10, 11, 12, 13, 14], [([116, 117, 118, 119, 120, 123, 124, 125], [116, 117, 118, 119, 120, 123, 124, 125], false), ([116, 117, 118, 119, 120, 123, 124, 125], [116, 117, 118, 119, 120, 123, 124, 125], false), ([114, 115, 117, 123, 124, 125], [114, 115, 117, 123, 124, 125], false), ([114, 115, 116, 123, 124, 125], [114, 115, 116, 123, 124, 125], false), ([114, 115, 123, 124, 125], [114, 115, 123, 124, 125], false), ([114, 115, 123, 124, 125], [114, 115, 123, 124, 125], false), ([114, 115, 123, 124, 125], [114, 115, 123, 124, 125], false), ([123, 124, 125], [123, 124, 125], false), ([123, 124, 125], [123, 124, 125], false), ([114, 115, 116, 117, 118, 119, 120, 121, 122], [114, 115, 116, 117, 118, 119, 120, 121, 122], false), ([114, 115, 116, 117, 118, 119, 120, 121, 122], [114, 115, 116, 117, 118, 119, 120, 121, 122], false), ([114, 115, 116, 117, 118, 119, 120, 121, 122], [114, 115, 116, 117, 118, 119, 120, 121, 122], false), ([], [], false), ([], [], false), ([], [], false)]⟩ (by kernel_rfl) ?_
        refine go2 ?_
        refine WD.q rfl rfl rfl rfl rfl (QE.ixN (f := tm) ⟨0, 0⟩ rfl rfl hk) rfl rfl rfl ?_
        rw [← ht]
        refine go2 ?_
        refine WD.q rfl rfl rfl rfl rfl (QE.ixI (f := eRow) [] rfl rfl t1 hcl) rfl rfl rfl ?_
        refine go2 ?_
        refine WD.q rfl rfl rfl rfl rfl (QE.ixT (b := 0) 0 rfl rfl (by rw [encL_len1, hdl]; omega) rfl (by omega)) rfl rfl rfl ?_
        refine WD.q rfl rfl rfl rfl rfl (QE.ldT rfl rfl (by omega)) rfl rfl rfl ?_
        rw [show 0 + 0 = 0 from rfl]
        refine go2 ?_
        refine WD.q rfl rfl rfl rfl rfl (QE.ixI (f := eI) 0 rfl rfl y0 hlt) rfl rfl rfl ?_
        refine go2 ?_
        refine WO.cmp rfl rfl rfl rfl rfl (fun hz => ?_) (fun hz => ?_)
        · refine go2 ?_
          refine WO.bsA (us := [i64 ((v.cells.getD t.n.toNat []).getD ((s.drop b).getD 0 0).toNat 0)]) (cs := encL eI [(v.cells.getD t.n.toNat []).getD ((s.drop b).getD 0 0).toNat 0]) rfl rfl rfl rfl rfl (by kernel_rfl) rfl ?_
          refine WO.hard (r := 158) (p := []) (x := .ow 2 1 1 (encL eI [(v.cells.getD t.n.toNat []).getD ((s.drop b).getD 0 0).toNat 0])) (y := .im 1 [.sc (.int .i64 ((v.cells.getD t.n.toNat []).getD ((s.drop b).getD 0 0).toNat 0))]) rfl rfl rfl ?_
          refine WO.apVI rfl rfl rfl (by rw [encL_len1]; simp; omega) rfl rfl rfl (by unfold maxLen; omega) (by omega) rfl ?_
          rw [pile_app s b hbl ((v.cells.getD t.n.toNat []).getD ((s.drop b).getD 0 0).toNat 0)]
          refine WO.cln 8 ?_
          refine go2 ?_
          exact lpK.mk (k + 1, s.take b ++ [(v.cells.getD t.n.toNat []).getD ((s.drop b).getD 0 0).toNat 0], 0) (.cons rfl (.cons rfl (.cons rfl (.cons rfl (.cons rfl (.cons rfl (.cons rfl .nil))))))) (fin (c := 0) (hval) (getD_in (q := inW p.w) c2 (by omega)) _ (by simp [hz])) (by dsimp only; omega)
        · refine go2 ?_
          refine WO.bsA (us := [i64 ((v.cells.getD t.n.toNat []).getD ((s.drop b).getD 0 0).toNat 0)]) (cs := encL eI [(v.cells.getD t.n.toNat []).getD ((s.drop b).getD 0 0).toNat 0]) rfl rfl rfl rfl rfl (by kernel_rfl) rfl ?_
          refine WO.hard (r := 158) (p := []) (x := .ow 2 1 1 (encL eI [(v.cells.getD t.n.toNat []).getD ((s.drop b).getD 0 0).toNat 0])) (y := .im 1 [.sc (.int .i64 ((v.cells.getD t.n.toNat []).getD ((s.drop b).getD 0 0).toNat 0))]) rfl rfl rfl ?_
          refine WO.apVI rfl rfl rfl (by rw [encL_len1]; simp; omega) rfl rfl rfl (by unfold maxLen; omega) (by omega) rfl ?_
          rw [pile_app s b hbl ((v.cells.getD t.n.toNat []).getD ((s.drop b).getD 0 0).toNat 0)]
          refine WO.cln 8 ?_
          refine go2 ?_
          exact lpK.mk (k + 1, s.take b ++ [(v.cells.getD t.n.toNat []).getD ((s.drop b).getD 0 0).toNat 0], tr) (.cons rfl (.cons rfl (.cons rfl (.cons rfl (.cons rfl (.cons rfl (.cons rfl .nil))))))) (fin (c := 0) (hval) (getD_in (q := inW p.w) c2 (by omega)) _ (by simp [hz])) (by dsimp only; omega)
      · have hval : val1 p.w v t (s.drop b) = (0, 2) := by simp only [val1, h]; rw [if_neg (by decide), if_neg (by decide), if_pos True.intro, if_neg hlt]
        refine go2 ?_
        refine WO.cmp rfl rfl rfl rfl rfl (fun hz => ?_) (fun hz => ?_)
        · refine go2 ?_
          refine WO.bsA (us := [i64 (0)]) (cs := encL eI [0]) rfl rfl rfl rfl rfl (by kernel_rfl) rfl ?_
          refine WO.hard (r := 158) (p := []) (x := .ow 2 1 1 (encL eI [0])) (y := .im 1 [.sc (.int .i64 (0))]) rfl rfl rfl ?_
          refine WO.apVI rfl rfl rfl (by rw [encL_len1]; simp; omega) rfl rfl rfl (by unfold maxLen; omega) (by omega) rfl ?_
          rw [pile_app s b hbl (0)]
          refine WO.cln 8 ?_
          refine go2 ?_
          exact lpK.mk (k + 1, s.take b ++ [0], 2) (.cons rfl (.cons rfl (.cons rfl (.cons rfl (.cons rfl (.cons rfl (.cons rfl .nil))))))) (fin (c := 2) (hval) (⟨Int.le_refl 0, hsz⟩) _ (by simp [hz])) (by dsimp only; omega)
        · refine go2 ?_
          refine WO.bsA (us := [i64 (0)]) (cs := encL eI [0]) rfl rfl rfl rfl rfl (by kernel_rfl) rfl ?_
          refine WO.hard (r := 158) (p := []) (x := .ow 2 1 1 (encL eI [0])) (y := .im 1 [.sc (.int .i64 (0))]) rfl rfl rfl ?_
          refine WO.apVI rfl rfl rfl (by rw [encL_len1]; simp; omega) rfl rfl rfl (by unfold maxLen; omega) (by omega) rfl ?_
          rw [pile_app s b hbl (0)]
          refine WO.cln 8 ?_
          refine go2 ?_
          exact lpK.mk (k + 1, s.take b ++ [0], tr) (.cons rfl (.cons rfl (.cons rfl (.cons rfl (.cons rfl (.cons rfl (.cons rfl .nil))))))) (fin (c := 2) (hval) (⟨Int.le_refl 0, hsz⟩) _ (by simp [hz])) (by dsimp only; omega)
    · have hk1 : tks t.op = 1 := by rcases h with h | h <;> rw [h] <;> rfl
      obtain ⟨y0, y1⟩ := getD_inD (q := inW p.w) g4 (b := b) (j := 0) (by omega)
      have hval : val1 p.w v t (s.drop b) = (tn p.w t.op ((s.drop b).getD 0 0), 0) := by simp only [val1]; rw [if_neg (by omega), if_neg (by omega), if_neg (by omega), if_pos h]
      have hop := h
      rcases h with h | h
      · refine go2 ?_
        refine WC.regionDd ⟨[[], [], [], [1, 2], [1, 2, 3], [1, 2, 3, 4], [], [6], [6, 7], [0, 1, 2, 3, 4, 5, 6, 7, 8], [0, 1, 2, 3, 4, 5, 6, 7, 8, 9]], [0, 1, 2, 3, 4, 5, 6, 7, 8], [], [131, 132, 133, 134, 135, 136, 137, 138, 139], [0, 1, 2, 3, 4, 5, 6, 7, 8, 9, 10], [([132, 133, 134, 135, 136, 137, 138, 139], [132, 133, 134, 135, 136, 137, 138, 139], false), ([131, 133, 137, 138, 139], [131, 133, 137, 138, 139], false), ([131, 132, 137, 138, 139], [131, 132, 137, 138, 139], false), ([131, 137, 138, 139], [131, 137, 138, 139], false), ([131, 137, 138, 139], [131, 137, 138, 139], false), ([131, 137, 138, 139], [131, 137, 138, 139], false), ([131, 132, 133, 134, 135, 136], [131, 132, 133, 134, 135, 136], false), ([131, 132, 133, 134, 135, 136], [131, 132, 133, 134, 135, 136], false), ([131, 132, 133, 134, 135, 136], [131, 132, 133, 134, 135, 136], false), ([], [], false), ([], [], false)]⟩ (by kernel_rfl) ?_
        refine go2 ?_
        refine WD.q rfl rfl rfl rfl rfl (QE.ixN (f := tm) ⟨0, 0⟩ rfl rfl hk) rfl rfl rfl ?_
        rw [← ht]
        refine go2 ?_
        refine WD.q rfl rfl rfl rfl rfl (QE.ixT (b := 0) 0 rfl rfl (by rw [encL_len1, hdl]; omega) rfl (by omega)) rfl rfl rfl ?_
        refine WD.q rfl rfl rfl rfl rfl (QE.ldT rfl rfl (by omega)) rfl rfl rfl ?_
        rw [show 0 + 0 = 0 from rfl]
        refine go2 ?_
        refine WO.call rfl rfl rfl (l5Op1 p.w t.op ((s.drop b).getD 0 0) w1 w8 hop y0 y1) rfl rfl ?_
        refine go2 ?_
        refine WO.cmp rfl rfl rfl rfl rfl (fun hz => ?_) (fun hz => ?_)
        · refine go2 ?_
          refine WO.bsA (us := [i64 (tn p.w t.op ((s.drop b).getD 0 0))]) (cs := encL eI [tn p.w t.op ((s.drop b).getD 0 0)]) rfl rfl rfl rfl rfl (by kernel_rfl) rfl ?_
          refine WO.hard (r := 158) (p := []) (x := .ow 2 1 1 (encL eI [tn p.w t.op ((s.drop b).getD 0 0)])) (y := .im 1 [.sc (.int .i64 (tn p.w t.op ((s.drop b).getD 0 0)))]) rfl rfl rfl ?_
          refine WO.apVI rfl rfl rfl (by rw [encL_len1]; simp; omega) rfl rfl rfl (by unfold maxLen; omega) (by omega) rfl ?_
          rw [pile_app s b hbl (tn p.w t.op ((s.drop b).getD 0 0))]
          refine WO.cln 8 ?_
          refine go2 ?_
          exact lpK.mk (k + 1, s.take b ++ [tn p.w t.op ((s.drop b).getD 0 0)], 0) (.cons rfl (.cons rfl (.cons rfl (.cons rfl (.cons rfl (.cons rfl (.cons rfl .nil))))))) (fin (c := 0) (hval) (tn_bd8 w8 hop y0 y1) _ (by simp [hz])) (by dsimp only; omega)
        · refine go2 ?_
          refine WO.bsA (us := [i64 (tn p.w t.op ((s.drop b).getD 0 0))]) (cs := encL eI [tn p.w t.op ((s.drop b).getD 0 0)]) rfl rfl rfl rfl rfl (by kernel_rfl) rfl ?_
          refine WO.hard (r := 158) (p := []) (x := .ow 2 1 1 (encL eI [tn p.w t.op ((s.drop b).getD 0 0)])) (y := .im 1 [.sc (.int .i64 (tn p.w t.op ((s.drop b).getD 0 0)))]) rfl rfl rfl ?_
          refine WO.apVI rfl rfl rfl (by rw [encL_len1]; simp; omega) rfl rfl rfl (by unfold maxLen; omega) (by omega) rfl ?_
          rw [pile_app s b hbl (tn p.w t.op ((s.drop b).getD 0 0))]
          refine WO.cln 8 ?_
          refine go2 ?_
          exact lpK.mk (k + 1, s.take b ++ [tn p.w t.op ((s.drop b).getD 0 0)], tr) (.cons rfl (.cons rfl (.cons rfl (.cons rfl (.cons rfl (.cons rfl (.cons rfl .nil))))))) (fin (c := 0) (hval) (tn_bd8 w8 hop y0 y1) _ (by simp [hz])) (by dsimp only; omega)
      · refine go2 ?_
        refine WC.regionDd ⟨[[], [], [], [1, 2], [1, 2, 3], [1, 2, 3, 4], [], [6], [6, 7], [0, 1, 2, 3, 4, 5, 6, 7, 8], [0, 1, 2, 3, 4, 5, 6, 7, 8, 9]], [0, 1, 2, 3, 4, 5, 6, 7, 8], [], [131, 132, 133, 134, 135, 136, 137, 138, 139], [0, 1, 2, 3, 4, 5, 6, 7, 8, 9, 10], [([132, 133, 134, 135, 136, 137, 138, 139], [132, 133, 134, 135, 136, 137, 138, 139], false), ([131, 133, 137, 138, 139], [131, 133, 137, 138, 139], false), ([131, 132, 137, 138, 139], [131, 132, 137, 138, 139], false), ([131, 137, 138, 139], [131, 137, 138, 139], false), ([131, 137, 138, 139], [131, 137, 138, 139], false), ([131, 137, 138, 139], [131, 137, 138, 139], false), ([131, 132, 133, 134, 135, 136], [131, 132, 133, 134, 135, 136], false), ([131, 132, 133, 134, 135, 136], [131, 132, 133, 134, 135, 136], false), ([131, 132, 133, 134, 135, 136], [131, 132, 133, 134, 135, 136], false), ([], [], false), ([], [], false)]⟩ (by kernel_rfl) ?_
        refine go2 ?_
        refine WD.q rfl rfl rfl rfl rfl (QE.ixN (f := tm) ⟨0, 0⟩ rfl rfl hk) rfl rfl rfl ?_
        rw [← ht]
        refine go2 ?_
        refine WD.q rfl rfl rfl rfl rfl (QE.ixT (b := 0) 0 rfl rfl (by rw [encL_len1, hdl]; omega) rfl (by omega)) rfl rfl rfl ?_
        refine WD.q rfl rfl rfl rfl rfl (QE.ldT rfl rfl (by omega)) rfl rfl rfl ?_
        rw [show 0 + 0 = 0 from rfl]
        refine go2 ?_
        refine WO.call rfl rfl rfl (l5Op1 p.w t.op ((s.drop b).getD 0 0) w1 w8 hop y0 y1) rfl rfl ?_
        refine go2 ?_
        refine WO.cmp rfl rfl rfl rfl rfl (fun hz => ?_) (fun hz => ?_)
        · refine go2 ?_
          refine WO.bsA (us := [i64 (tn p.w t.op ((s.drop b).getD 0 0))]) (cs := encL eI [tn p.w t.op ((s.drop b).getD 0 0)]) rfl rfl rfl rfl rfl (by kernel_rfl) rfl ?_
          refine WO.hard (r := 158) (p := []) (x := .ow 2 1 1 (encL eI [tn p.w t.op ((s.drop b).getD 0 0)])) (y := .im 1 [.sc (.int .i64 (tn p.w t.op ((s.drop b).getD 0 0)))]) rfl rfl rfl ?_
          refine WO.apVI rfl rfl rfl (by rw [encL_len1]; simp; omega) rfl rfl rfl (by unfold maxLen; omega) (by omega) rfl ?_
          rw [pile_app s b hbl (tn p.w t.op ((s.drop b).getD 0 0))]
          refine WO.cln 8 ?_
          refine go2 ?_
          exact lpK.mk (k + 1, s.take b ++ [tn p.w t.op ((s.drop b).getD 0 0)], 0) (.cons rfl (.cons rfl (.cons rfl (.cons rfl (.cons rfl (.cons rfl (.cons rfl .nil))))))) (fin (c := 0) (hval) (tn_bd8 w8 hop y0 y1) _ (by simp [hz])) (by dsimp only; omega)
        · refine go2 ?_
          refine WO.bsA (us := [i64 (tn p.w t.op ((s.drop b).getD 0 0))]) (cs := encL eI [tn p.w t.op ((s.drop b).getD 0 0)]) rfl rfl rfl rfl rfl (by kernel_rfl) rfl ?_
          refine WO.hard (r := 158) (p := []) (x := .ow 2 1 1 (encL eI [tn p.w t.op ((s.drop b).getD 0 0)])) (y := .im 1 [.sc (.int .i64 (tn p.w t.op ((s.drop b).getD 0 0)))]) rfl rfl rfl ?_
          refine WO.apVI rfl rfl rfl (by rw [encL_len1]; simp; omega) rfl rfl rfl (by unfold maxLen; omega) (by omega) rfl ?_
          rw [pile_app s b hbl (tn p.w t.op ((s.drop b).getD 0 0))]
          refine WO.cln 8 ?_
          refine go2 ?_
          exact lpK.mk (k + 1, s.take b ++ [tn p.w t.op ((s.drop b).getD 0 0)], tr) (.cons rfl (.cons rfl (.cons rfl (.cons rfl (.cons rfl (.cons rfl (.cons rfl .nil))))))) (fin (c := 0) (hval) (tn_bd8 w8 hop y0 y1) _ (by simp [hz])) (by dsimp only; omega)
    · have hk1 : tks t.op = 3 := by rw [h]; rfl
      have z0 := getD_inD (q := inW p.w) g4 (b := b) (j := 0) (by omega)
      have z1 := getD_inD (q := inW p.w) g4 (b := b) (j := 1) (by omega)
      have z2 := getD_inD (q := inW p.w) g4 (b := b) (j := 2) (by omega)
      refine go2 ?_
      refine WO.q rfl (QE.ixT (b := 0) 2 rfl rfl (by rw [encL_len1, hdl]; omega) rfl (by omega)) rfl rfl ?_
      refine WO.q rfl (QE.ldT rfl rfl (by omega)) rfl rfl ?_
      rw [show 0 + 2 = 2 from rfl]
      refine go2 ?_
      refine WO.q rfl (QE.ixT (b := 0) 0 rfl rfl (by rw [encL_len1, hdl]; omega) rfl (by omega)) rfl rfl ?_
      refine WO.q rfl (QE.ldT rfl rfl (by omega)) rfl rfl ?_
      rw [show 0 + 0 = 0 from rfl]
      refine go2 ?_
      by_cases h0 : (s.drop b).getD 0 0 = 0
      · have hval : val1 p.w v t (s.drop b) = ((s.drop b).getD 2 0, 0) := by simp only [val1, h]; rw [if_neg (by decide), if_neg (by decide), if_neg (by decide), if_neg (by decide), if_pos True.intro, if_neg (by omega)]
        refine go2 ?_
        refine WO.cmp rfl rfl rfl rfl rfl (fun hz => ?_) (fun hz => ?_)
        · refine go2 ?_
          refine WO.bsA (us := [i64 ((s.drop b).getD 2 0)]) (cs := encL eI [(s.drop b).getD 2 0]) rfl rfl rfl rfl rfl (by kernel_rfl) rfl ?_
          refine WO.hard (r := 158) (p := []) (x := .ow 2 1 1 (encL eI [(s.drop b).getD 2 0])) (y := .im 1 [.sc (.int .i64 ((s.drop b).getD 2 0))]) rfl rfl rfl ?_
          refine WO.apVI rfl rfl rfl (by rw [encL_len1]; simp; omega) rfl rfl rfl (by unfold maxLen; omega) (by omega) rfl ?_
          rw [pile_app s b hbl ((s.drop b).getD 2 0)]
          refine WO.cln 8 ?_
          refine go2 ?_
          exact lpK.mk (k + 1, s.take b ++ [(s.drop b).getD 2 0], 0) (.cons rfl (.cons rfl (.cons rfl (.cons rfl (.cons rfl (.cons rfl (.cons rfl .nil))))))) (fin (c := 0) (hval) (z2) _ (by simp [hz])) (by dsimp only; omega)
        · refine go2 ?_
          refine WO.bsA (us := [i64 ((s.drop b).getD 2 0)]) (cs := encL eI [(s.drop b).getD 2 0]) rfl rfl rfl rfl rfl (by kernel_rfl) rfl ?_
          refine WO.hard (r := 158) (p := []) (x := .ow 2 1 1 (encL eI [(s.drop b).getD 2 0])) (y := .im 1 [.sc (.int .i64 ((s.drop b).getD 2 0))]) rfl rfl rfl ?_
          refine WO.apVI rfl rfl rfl (by rw [encL_len1]; simp; omega) rfl rfl rfl (by unfold maxLen; omega) (by omega) rfl ?_
          rw [pile_app s b hbl ((s.drop b).getD 2 0)]
          refine WO.cln 8 ?_
          refine go2 ?_
          exact lpK.mk (k + 1, s.take b ++ [(s.drop b).getD 2 0], tr) (.cons rfl (.cons rfl (.cons rfl (.cons rfl (.cons rfl (.cons rfl (.cons rfl .nil))))))) (fin (c := 0) (hval) (z2) _ (by simp [hz])) (by dsimp only; omega)
      · have hval : val1 p.w v t (s.drop b) = ((s.drop b).getD 1 0, 0) := by simp only [val1, h]; rw [if_neg (by decide), if_neg (by decide), if_neg (by decide), if_neg (by decide), if_pos True.intro, if_pos (by omega)]
        refine go2 ?_
        refine WO.q rfl (QE.ixT (b := 0) 1 rfl rfl (by rw [encL_len1, hdl]; omega) rfl (by omega)) rfl rfl ?_
        refine WO.q rfl (QE.ldT rfl rfl (by omega)) rfl rfl ?_
        rw [show 0 + 1 = 1 from rfl]
        refine go2 ?_
        refine go2 ?_
        refine WO.cmp rfl rfl rfl rfl rfl (fun hz => ?_) (fun hz => ?_)
        · refine go2 ?_
          refine WO.bsA (us := [i64 ((s.drop b).getD 1 0)]) (cs := encL eI [(s.drop b).getD 1 0]) rfl rfl rfl rfl rfl (by kernel_rfl) rfl ?_
          refine WO.hard (r := 158) (p := []) (x := .ow 2 1 1 (encL eI [(s.drop b).getD 1 0])) (y := .im 1 [.sc (.int .i64 ((s.drop b).getD 1 0))]) rfl rfl rfl ?_
          refine WO.apVI rfl rfl rfl (by rw [encL_len1]; simp; omega) rfl rfl rfl (by unfold maxLen; omega) (by omega) rfl ?_
          rw [pile_app s b hbl ((s.drop b).getD 1 0)]
          refine WO.cln 8 ?_
          refine go2 ?_
          exact lpK.mk (k + 1, s.take b ++ [(s.drop b).getD 1 0], 0) (.cons rfl (.cons rfl (.cons rfl (.cons rfl (.cons rfl (.cons rfl (.cons rfl .nil))))))) (fin (c := 0) (hval) (z1) _ (by simp [hz])) (by dsimp only; omega)
        · refine go2 ?_
          refine WO.bsA (us := [i64 ((s.drop b).getD 1 0)]) (cs := encL eI [(s.drop b).getD 1 0]) rfl rfl rfl rfl rfl (by kernel_rfl) rfl ?_
          refine WO.hard (r := 158) (p := []) (x := .ow 2 1 1 (encL eI [(s.drop b).getD 1 0])) (y := .im 1 [.sc (.int .i64 ((s.drop b).getD 1 0))]) rfl rfl rfl ?_
          refine WO.apVI rfl rfl rfl (by rw [encL_len1]; simp; omega) rfl rfl rfl (by unfold maxLen; omega) (by omega) rfl ?_
          rw [pile_app s b hbl ((s.drop b).getD 1 0)]
          refine WO.cln 8 ?_
          refine go2 ?_
          exact lpK.mk (k + 1, s.take b ++ [(s.drop b).getD 1 0], tr) (.cons rfl (.cons rfl (.cons rfl (.cons rfl (.cons rfl (.cons rfl (.cons rfl .nil))))))) (fin (c := 0) (hval) (z1) _ (by simp [hz])) (by dsimp only; omega)
    · have hk1 : tks t.op = 2 := by unfold tks; rw [if_neg (by omega), if_neg (by omega), if_pos h]
      obtain ⟨y0, y1⟩ := getD_inD (q := inW p.w) g4 (b := b) (j := 0) (by omega)
      obtain ⟨z0, z1⟩ := getD_inD (q := inW p.w) g4 (b := b) (j := 1) (by omega)
      have hval0 : val1 p.w v t (s.drop b) = if ((s.drop b).getD 1 0) = 0 ∧ (t.op = 8 ∨ t.op = 9) then (0, 1) else (jn p.w t.op ((s.drop b).getD 0 0) ((s.drop b).getD 1 0), 0) := by simp only [val1]; rw [if_neg (by omega), if_neg (by omega), if_neg (by omega), if_neg (by omega), if_neg (by omega)]
      refine go2 ?_
      refine WO.q rfl (QE.ixT (b := 0) 1 rfl rfl (by rw [encL_len1, hdl]; omega) rfl (by omega)) rfl rfl ?_
      refine WO.q rfl (QE.ldT rfl rfl (by omega)) rfl rfl ?_
      rw [show 0 + 1 = 1 from rfl]
      refine go2 ?_
      by_cases hz1 : ((s.drop b).getD 1 0) = 0
      · by_cases h8 : t.op = 8 ∨ t.op = 9
        · rw [if_pos ⟨hz1, h8⟩] at hval0
          have hO0 : (if ((s.drop b).getD 1 0) = 0 ∧ (t.op = 8 ∨ t.op = 9) then 0 else jn p.w t.op ((s.drop b).getD 0 0) ((s.drop b).getD 1 0)) = 0 := if_pos ⟨hz1, h8⟩
          have h89 := h8
          rcases h89 with h89 | h89
          · refine go2 ?_
            refine WO.ixN (f := tm) ⟨0, 0⟩ rfl rfl rfl hk rfl ?_
            rw [← ht]
            refine go2 ?_
            refine WC.regionDd ⟨[[], [], [], [1, 2], [1, 2, 3], [1, 2, 3, 4], [], [6], [6, 7], [], [9], [9, 10], [0, 1, 2, 3, 4, 5, 6, 7, 8, 9, 10, 11], [0, 1, 2, 3, 4, 5, 6, 7, 8, 9, 10, 11, 12]], [0, 1, 2, 3, 4, 5, 6, 7, 8, 9, 10, 11], [], [67, 68, 69, 70, 71, 72, 73, 74, 75, 76, 77, 78], [0, 1, 2, 3, 4, 5, 6, 7, 8, 9, 10, 11, 12, 13], [([68, 69, 70, 71, 72, 73, 74, 75, 76, 77, 78], [68, 69, 70, 71, 72, 73, 74, 75, 76, 77, 78], false), ([67, 69, 73, 74, 75, 76, 77, 78], [67, 69, 73, 74, 75, 76, 77, 78], false), ([67, 68, 73, 74, 75, 76, 77, 78], [67, 68, 73, 74, 75, 76, 77, 78], false), ([67, 73, 74, 75, 76, 77, 78], [67, 73, 74, 75, 76, 77, 78], false), ([67, 73, 74, 75, 76, 77, 78], [67, 73, 74, 75, 76, 77, 78], false), ([67, 73, 74, 75, 76, 77, 78], [67, 73, 74, 75, 76, 77, 78], false), ([67, 68, 69, 70, 71, 72, 76, 77, 78], [67, 68, 69, 70, 71, 72, 76, 77, 78], false), ([67, 68, 69, 70, 71, 72, 76, 77, 78], [67, 68, 69, 70, 71, 72, 76, 77, 78], false), ([67, 68, 69, 70, 71, 72, 76, 77, 78], [67, 68, 69, 70, 71, 72, 76, 77, 78], false), ([67, 68, 69, 70, 71, 72, 73, 74, 75], [67, 68, 69, 70, 71, 72, 73, 74, 75], false), ([67, 68, 69, 70, 71, 72, 73, 74, 75], [67, 68, 69, 70, 71, 72, 73, 74, 75], false), ([67, 68, 69, 70, 71, 72, 73, 74, 75], [67, 68, 69, 70, 71, 72, 73, 74, 75], false), ([], [], false), ([], [], false)]⟩ (by kernel_rfl) ?_
            refine go2 ?_
            refine WD.q rfl rfl rfl rfl rfl (QE.ixN (f := tm) ⟨0, 0⟩ rfl rfl hk) rfl rfl rfl ?_
            rw [← ht]
            refine go2 ?_
            refine WD.q rfl rfl rfl rfl rfl (QE.ixT (b := 0) 0 rfl rfl (by rw [encL_len1, hdl]; omega) rfl (by omega)) rfl rfl rfl ?_
            refine WD.q rfl rfl rfl rfl rfl (QE.ldT rfl rfl (by omega)) rfl rfl rfl ?_
            rw [show 0 + 0 = 0 from rfl]
            refine go2 ?_
            refine WD.q rfl rfl rfl rfl rfl (QE.ixT (b := 0) 1 rfl rfl (by rw [encL_len1, hdl]; omega) rfl (by omega)) rfl rfl rfl ?_
            refine WD.q rfl rfl rfl rfl rfl (QE.ldT rfl rfl (by omega)) rfl rfl rfl ?_
            rw [show 0 + 1 = 1 from rfl]
            refine go2 ?_
            have hO := l5Op (X := X) p.w t.op ((s.drop b).getD 0 0) ((s.drop b).getD 1 0) w1 w8 h.1 h.2 y0 y1 z0 z1
            rw [hO0] at hO
            refine WO.call rfl rfl rfl hO rfl rfl ?_
            refine go2 ?_
            refine WO.cmp rfl rfl rfl rfl rfl (fun hz => ?_) (fun hz => ?_)
            · refine go2 ?_
              refine WO.bsA (us := [i64 (0)]) (cs := encL eI [0]) rfl rfl rfl rfl rfl (by kernel_rfl) rfl ?_
              refine WO.hard (r := 158) (p := []) (x := .ow 2 1 1 (encL eI [0])) (y := .im 1 [.sc (.int .i64 (0))]) rfl rfl rfl ?_
              refine WO.apVI rfl rfl rfl (by rw [encL_len1]; simp; omega) rfl rfl rfl (by unfold maxLen; omega) (by omega) rfl ?_
              rw [pile_app s b hbl (0)]
              refine WO.cln 8 ?_
              refine go2 ?_
              exact lpK.mk (k + 1, s.take b ++ [0], 1) (.cons rfl (.cons rfl (.cons rfl (.cons rfl (.cons rfl (.cons rfl (.cons rfl .nil))))))) (fin (c := 1) (hval0) (⟨Int.le_refl 0, hsz⟩) _ (by simp [hz])) (by dsimp only; omega)
            · refine go2 ?_
              refine WO.bsA (us := [i64 (0)]) (cs := encL eI [0]) rfl rfl rfl rfl rfl (by kernel_rfl) rfl ?_
              refine WO.hard (r := 158) (p := []) (x := .ow 2 1 1 (encL eI [0])) (y := .im 1 [.sc (.int .i64 (0))]) rfl rfl rfl ?_
              refine WO.apVI rfl rfl rfl (by rw [encL_len1]; simp; omega) rfl rfl rfl (by unfold maxLen; omega) (by omega) rfl ?_
              rw [pile_app s b hbl (0)]
              refine WO.cln 8 ?_
              refine go2 ?_
              exact lpK.mk (k + 1, s.take b ++ [0], tr) (.cons rfl (.cons rfl (.cons rfl (.cons rfl (.cons rfl (.cons rfl (.cons rfl .nil))))))) (fin (c := 1) (hval0) (⟨Int.le_refl 0, hsz⟩) _ (by simp [hz])) (by dsimp only; omega)
          · refine go2 ?_
            refine WO.ixN (f := tm) ⟨0, 0⟩ rfl rfl rfl hk rfl ?_
            rw [← ht]
            refine go2 ?_
            refine go2 ?_
            refine WO.ixN (f := tm) ⟨0, 0⟩ rfl rfl rfl hk rfl ?_
            rw [← ht]
            refine go2 ?_
            refine WC.regionDd ⟨[[], [], [], [1, 2], [1, 2, 3], [1, 2, 3, 4], [], [6], [6, 7], [], [9], [9, 10], [0, 1, 2, 3, 4, 5, 6, 7, 8, 9, 10, 11], [0, 1, 2, 3, 4, 5, 6, 7, 8, 9, 10, 11, 12]], [0, 1, 2, 3, 4, 5, 6, 7, 8, 9, 10, 11], [], [67, 68, 69, 70, 71, 72, 73, 74, 75, 76, 77, 78], [0, 1, 2, 3, 4, 5, 6, 7, 8, 9, 10, 11, 12, 13], [([68, 69, 70, 71, 72, 73, 74, 75, 76, 77, 78], [68, 69, 70, 71, 72, 73, 74, 75, 76, 77, 78], false), ([67, 69, 73, 74, 75, 76, 77, 78], [67, 69, 73, 74, 75, 76, 77, 78], false), ([67, 68, 73, 74, 75, 76, 77, 78], [67, 68, 73, 74, 75, 76, 77, 78], false), ([67, 73, 74, 75, 76, 77, 78], [67, 73, 74, 75, 76, 77, 78], false), ([67, 73, 74, 75, 76, 77, 78], [67, 73, 74, 75, 76, 77, 78], false), ([67, 73, 74, 75, 76, 77, 78], [67, 73, 74, 75, 76, 77, 78], false), ([67, 68, 69, 70, 71, 72, 76, 77, 78], [67, 68, 69, 70, 71, 72, 76, 77, 78], false), ([67, 68, 69, 70, 71, 72, 76, 77, 78], [67, 68, 69, 70, 71, 72, 76, 77, 78], false), ([67, 68, 69, 70, 71, 72, 76, 77, 78], [67, 68, 69, 70, 71, 72, 76, 77, 78], false), ([67, 68, 69, 70, 71, 72, 73, 74, 75], [67, 68, 69, 70, 71, 72, 73, 74, 75], false), ([67, 68, 69, 70, 71, 72, 73, 74, 75], [67, 68, 69, 70, 71, 72, 73, 74, 75], false), ([67, 68, 69, 70, 71, 72, 73, 74, 75], [67, 68, 69, 70, 71, 72, 73, 74, 75], false), ([], [], false), ([], [], false)]⟩ (by kernel_rfl) ?_
            refine go2 ?_
            refine WD.q rfl rfl rfl rfl rfl (QE.ixN (f := tm) ⟨0, 0⟩ rfl rfl hk) rfl rfl rfl ?_
            rw [← ht]
            refine go2 ?_
            refine WD.q rfl rfl rfl rfl rfl (QE.ixT (b := 0) 0 rfl rfl (by rw [encL_len1, hdl]; omega) rfl (by omega)) rfl rfl rfl ?_
            refine WD.q rfl rfl rfl rfl rfl (QE.ldT rfl rfl (by omega)) rfl rfl rfl ?_
            rw [show 0 + 0 = 0 from rfl]
            refine go2 ?_
            refine WD.q rfl rfl rfl rfl rfl (QE.ixT (b := 0) 1 rfl rfl (by rw [encL_len1, hdl]; omega) rfl (by omega)) rfl rfl rfl ?_
            refine WD.q rfl rfl rfl rfl rfl (QE.ldT rfl rfl (by omega)) rfl rfl rfl ?_
            rw [show 0 + 1 = 1 from rfl]
            refine go2 ?_
            have hO := l5Op (X := X) p.w t.op ((s.drop b).getD 0 0) ((s.drop b).getD 1 0) w1 w8 h.1 h.2 y0 y1 z0 z1
            rw [hO0] at hO
            refine WO.call rfl rfl rfl hO rfl rfl ?_
            refine go2 ?_
            refine WO.cmp rfl rfl rfl rfl rfl (fun hz => ?_) (fun hz => ?_)
            · refine go2 ?_
              refine WO.bsA (us := [i64 (0)]) (cs := encL eI [0]) rfl rfl rfl rfl rfl (by kernel_rfl) rfl ?_
              refine WO.hard (r := 158) (p := []) (x := .ow 2 1 1 (encL eI [0])) (y := .im 1 [.sc (.int .i64 (0))]) rfl rfl rfl ?_
              refine WO.apVI rfl rfl rfl (by rw [encL_len1]; simp; omega) rfl rfl rfl (by unfold maxLen; omega) (by omega) rfl ?_
              rw [pile_app s b hbl (0)]
              refine WO.cln 8 ?_
              refine go2 ?_
              exact lpK.mk (k + 1, s.take b ++ [0], 1) (.cons rfl (.cons rfl (.cons rfl (.cons rfl (.cons rfl (.cons rfl (.cons rfl .nil))))))) (fin (c := 1) (hval0) (⟨Int.le_refl 0, hsz⟩) _ (by simp [hz])) (by dsimp only; omega)
            · refine go2 ?_
              refine WO.bsA (us := [i64 (0)]) (cs := encL eI [0]) rfl rfl rfl rfl rfl (by kernel_rfl) rfl ?_
              refine WO.hard (r := 158) (p := []) (x := .ow 2 1 1 (encL eI [0])) (y := .im 1 [.sc (.int .i64 (0))]) rfl rfl rfl ?_
              refine WO.apVI rfl rfl rfl (by rw [encL_len1]; simp; omega) rfl rfl rfl (by unfold maxLen; omega) (by omega) rfl ?_
              rw [pile_app s b hbl (0)]
              refine WO.cln 8 ?_
              refine go2 ?_
              exact lpK.mk (k + 1, s.take b ++ [0], tr) (.cons rfl (.cons rfl (.cons rfl (.cons rfl (.cons rfl (.cons rfl (.cons rfl .nil))))))) (fin (c := 1) (hval0) (⟨Int.le_refl 0, hsz⟩) _ (by simp [hz])) (by dsimp only; omega)
        · have hval := hval0
          rw [if_neg (by omega)] at hval
          have hO0 : (if ((s.drop b).getD 1 0) = 0 ∧ (t.op = 8 ∨ t.op = 9) then 0 else jn p.w t.op ((s.drop b).getD 0 0) ((s.drop b).getD 1 0)) = jn p.w t.op ((s.drop b).getD 0 0) ((s.drop b).getD 1 0) := if_neg (by omega)
          refine go2 ?_
          refine WO.ixN (f := tm) ⟨0, 0⟩ rfl rfl rfl hk rfl ?_
          rw [← ht]
          refine go2 ?_
          refine go2 ?_
          refine WO.ixN (f := tm) ⟨0, 0⟩ rfl rfl rfl hk rfl ?_
          rw [← ht]
          refine go2 ?_
          refine WC.regionDd ⟨[[], [], [], [1, 2], [1, 2, 3], [1, 2, 3, 4], [], [6], [6, 7], [], [9], [9, 10], [0, 1, 2, 3, 4, 5, 6, 7, 8, 9, 10, 11], [0, 1, 2, 3, 4, 5, 6, 7, 8, 9, 10, 11, 12]], [0, 1, 2, 3, 4, 5, 6, 7, 8, 9, 10, 11], [], [67, 68, 69, 70, 71, 72, 73, 74, 75, 76, 77, 78], [0, 1, 2, 3, 4, 5, 6, 7, 8, 9, 10, 11, 12, 13], [([68, 69, 70, 71, 72, 73, 74, 75, 76, 77, 78], [68, 69, 70, 71, 72, 73, 74, 75, 76, 77, 78], false), ([67, 69, 73, 74, 75, 76, 77, 78], [67, 69, 73, 74, 75, 76, 77, 78], false), ([67, 68, 73, 74, 75, 76, 77, 78], [67, 68, 73, 74, 75, 76, 77, 78], false), ([67, 73, 74, 75, 76, 77, 78], [67, 73, 74, 75, 76, 77, 78], false), ([67, 73, 74, 75, 76, 77, 78], [67, 73, 74, 75, 76, 77, 78], false), ([67, 73, 74, 75, 76, 77, 78], [67, 73, 74, 75, 76, 77, 78], false), ([67, 68, 69, 70, 71, 72, 76, 77, 78], [67, 68, 69, 70, 71, 72, 76, 77, 78], false), ([67, 68, 69, 70, 71, 72, 76, 77, 78], [67, 68, 69, 70, 71, 72, 76, 77, 78], false), ([67, 68, 69, 70, 71, 72, 76, 77, 78], [67, 68, 69, 70, 71, 72, 76, 77, 78], false), ([67, 68, 69, 70, 71, 72, 73, 74, 75], [67, 68, 69, 70, 71, 72, 73, 74, 75], false), ([67, 68, 69, 70, 71, 72, 73, 74, 75], [67, 68, 69, 70, 71, 72, 73, 74, 75], false), ([67, 68, 69, 70, 71, 72, 73, 74, 75], [67, 68, 69, 70, 71, 72, 73, 74, 75], false), ([], [], false), ([], [], false)]⟩ (by kernel_rfl) ?_
          refine go2 ?_
          refine WD.q rfl rfl rfl rfl rfl (QE.ixN (f := tm) ⟨0, 0⟩ rfl rfl hk) rfl rfl rfl ?_
          rw [← ht]
          refine go2 ?_
          refine WD.q rfl rfl rfl rfl rfl (QE.ixT (b := 0) 0 rfl rfl (by rw [encL_len1, hdl]; omega) rfl (by omega)) rfl rfl rfl ?_
          refine WD.q rfl rfl rfl rfl rfl (QE.ldT rfl rfl (by omega)) rfl rfl rfl ?_
          rw [show 0 + 0 = 0 from rfl]
          refine go2 ?_
          refine WD.q rfl rfl rfl rfl rfl (QE.ixT (b := 0) 1 rfl rfl (by rw [encL_len1, hdl]; omega) rfl (by omega)) rfl rfl rfl ?_
          refine WD.q rfl rfl rfl rfl rfl (QE.ldT rfl rfl (by omega)) rfl rfl rfl ?_
          rw [show 0 + 1 = 1 from rfl]
          refine go2 ?_
          have hO := l5Op (X := X) p.w t.op ((s.drop b).getD 0 0) ((s.drop b).getD 1 0) w1 w8 h.1 h.2 y0 y1 z0 z1
          rw [hO0] at hO
          refine WO.call rfl rfl rfl hO rfl rfl ?_
          refine go2 ?_
          refine WO.cmp rfl rfl rfl rfl rfl (fun hz => ?_) (fun hz => ?_)
          · refine go2 ?_
            refine WO.bsA (us := [i64 (jn p.w t.op ((s.drop b).getD 0 0) ((s.drop b).getD 1 0))]) (cs := encL eI [jn p.w t.op ((s.drop b).getD 0 0) ((s.drop b).getD 1 0)]) rfl rfl rfl rfl rfl (by kernel_rfl) rfl ?_
            refine WO.hard (r := 158) (p := []) (x := .ow 2 1 1 (encL eI [jn p.w t.op ((s.drop b).getD 0 0) ((s.drop b).getD 1 0)])) (y := .im 1 [.sc (.int .i64 (jn p.w t.op ((s.drop b).getD 0 0) ((s.drop b).getD 1 0)))]) rfl rfl rfl ?_
            refine WO.apVI rfl rfl rfl (by rw [encL_len1]; simp; omega) rfl rfl rfl (by unfold maxLen; omega) (by omega) rfl ?_
            rw [pile_app s b hbl (jn p.w t.op ((s.drop b).getD 0 0) ((s.drop b).getD 1 0))]
            refine WO.cln 8 ?_
            refine go2 ?_
            exact lpK.mk (k + 1, s.take b ++ [jn p.w t.op ((s.drop b).getD 0 0) ((s.drop b).getD 1 0)], 0) (.cons rfl (.cons rfl (.cons rfl (.cons rfl (.cons rfl (.cons rfl (.cons rfl .nil))))))) (fin (c := 0) (hval) (jn_bd8 w8 w1 h.1 h.2 y0 y1 z0 z1) _ (by simp [hz])) (by dsimp only; omega)
          · refine go2 ?_
            refine WO.bsA (us := [i64 (jn p.w t.op ((s.drop b).getD 0 0) ((s.drop b).getD 1 0))]) (cs := encL eI [jn p.w t.op ((s.drop b).getD 0 0) ((s.drop b).getD 1 0)]) rfl rfl rfl rfl rfl (by kernel_rfl) rfl ?_
            refine WO.hard (r := 158) (p := []) (x := .ow 2 1 1 (encL eI [jn p.w t.op ((s.drop b).getD 0 0) ((s.drop b).getD 1 0)])) (y := .im 1 [.sc (.int .i64 (jn p.w t.op ((s.drop b).getD 0 0) ((s.drop b).getD 1 0)))]) rfl rfl rfl ?_
            refine WO.apVI rfl rfl rfl (by rw [encL_len1]; simp; omega) rfl rfl rfl (by unfold maxLen; omega) (by omega) rfl ?_
            rw [pile_app s b hbl (jn p.w t.op ((s.drop b).getD 0 0) ((s.drop b).getD 1 0))]
            refine WO.cln 8 ?_
            refine go2 ?_
            exact lpK.mk (k + 1, s.take b ++ [jn p.w t.op ((s.drop b).getD 0 0) ((s.drop b).getD 1 0)], tr) (.cons rfl (.cons rfl (.cons rfl (.cons rfl (.cons rfl (.cons rfl (.cons rfl .nil))))))) (fin (c := 0) (hval) (jn_bd8 w8 w1 h.1 h.2 y0 y1 z0 z1) _ (by simp [hz])) (by dsimp only; omega)
      · have hval := hval0
        rw [if_neg (by omega)] at hval
        have hO0 : (if ((s.drop b).getD 1 0) = 0 ∧ (t.op = 8 ∨ t.op = 9) then 0 else jn p.w t.op ((s.drop b).getD 0 0) ((s.drop b).getD 1 0)) = jn p.w t.op ((s.drop b).getD 0 0) ((s.drop b).getD 1 0) := if_neg (by omega)
        refine go2 ?_
        refine WC.regionDd ⟨[[], [], [], [1, 2], [1, 2, 3], [1, 2, 3, 4], [], [6], [6, 7], [], [9], [9, 10], [0, 1, 2, 3, 4, 5, 6, 7, 8, 9, 10, 11], [0, 1, 2, 3, 4, 5, 6, 7, 8, 9, 10, 11, 12]], [0, 1, 2, 3, 4, 5, 6, 7, 8, 9, 10, 11], [], [67, 68, 69, 70, 71, 72, 73, 74, 75, 76, 77, 78], [0, 1, 2, 3, 4, 5, 6, 7, 8, 9, 10, 11, 12, 13], [([68, 69, 70, 71, 72, 73, 74, 75, 76, 77, 78], [68, 69, 70, 71, 72, 73, 74, 75, 76, 77, 78], false), ([67, 69, 73, 74, 75, 76, 77, 78], [67, 69, 73, 74, 75, 76, 77, 78], false), ([67, 68, 73, 74, 75, 76, 77, 78], [67, 68, 73, 74, 75, 76, 77, 78], false), ([67, 73, 74, 75, 76, 77, 78], [67, 73, 74, 75, 76, 77, 78], false), ([67, 73, 74, 75, 76, 77, 78], [67, 73, 74, 75, 76, 77, 78], false), ([67, 73, 74, 75, 76, 77, 78], [67, 73, 74, 75, 76, 77, 78], false), ([67, 68, 69, 70, 71, 72, 76, 77, 78], [67, 68, 69, 70, 71, 72, 76, 77, 78], false), ([67, 68, 69, 70, 71, 72, 76, 77, 78], [67, 68, 69, 70, 71, 72, 76, 77, 78], false), ([67, 68, 69, 70, 71, 72, 76, 77, 78], [67, 68, 69, 70, 71, 72, 76, 77, 78], false), ([67, 68, 69, 70, 71, 72, 73, 74, 75], [67, 68, 69, 70, 71, 72, 73, 74, 75], false), ([67, 68, 69, 70, 71, 72, 73, 74, 75], [67, 68, 69, 70, 71, 72, 73, 74, 75], false), ([67, 68, 69, 70, 71, 72, 73, 74, 75], [67, 68, 69, 70, 71, 72, 73, 74, 75], false), ([], [], false), ([], [], false)]⟩ (by kernel_rfl) ?_
        refine go2 ?_
        refine WD.q rfl rfl rfl rfl rfl (QE.ixN (f := tm) ⟨0, 0⟩ rfl rfl hk) rfl rfl rfl ?_
        rw [← ht]
        refine go2 ?_
        refine WD.q rfl rfl rfl rfl rfl (QE.ixT (b := 0) 0 rfl rfl (by rw [encL_len1, hdl]; omega) rfl (by omega)) rfl rfl rfl ?_
        refine WD.q rfl rfl rfl rfl rfl (QE.ldT rfl rfl (by omega)) rfl rfl rfl ?_
        rw [show 0 + 0 = 0 from rfl]
        refine go2 ?_
        refine WD.q rfl rfl rfl rfl rfl (QE.ixT (b := 0) 1 rfl rfl (by rw [encL_len1, hdl]; omega) rfl (by omega)) rfl rfl rfl ?_
        refine WD.q rfl rfl rfl rfl rfl (QE.ldT rfl rfl (by omega)) rfl rfl rfl ?_
        rw [show 0 + 1 = 1 from rfl]
        refine go2 ?_
        have hO := l5Op (X := X) p.w t.op ((s.drop b).getD 0 0) ((s.drop b).getD 1 0) w1 w8 h.1 h.2 y0 y1 z0 z1
        rw [hO0] at hO
        refine WO.call rfl rfl rfl hO rfl rfl ?_
        refine go2 ?_
        refine WO.cmp rfl rfl rfl rfl rfl (fun hz => ?_) (fun hz => ?_)
        · refine go2 ?_
          refine WO.bsA (us := [i64 (jn p.w t.op ((s.drop b).getD 0 0) ((s.drop b).getD 1 0))]) (cs := encL eI [jn p.w t.op ((s.drop b).getD 0 0) ((s.drop b).getD 1 0)]) rfl rfl rfl rfl rfl (by kernel_rfl) rfl ?_
          refine WO.hard (r := 158) (p := []) (x := .ow 2 1 1 (encL eI [jn p.w t.op ((s.drop b).getD 0 0) ((s.drop b).getD 1 0)])) (y := .im 1 [.sc (.int .i64 (jn p.w t.op ((s.drop b).getD 0 0) ((s.drop b).getD 1 0)))]) rfl rfl rfl ?_
          refine WO.apVI rfl rfl rfl (by rw [encL_len1]; simp; omega) rfl rfl rfl (by unfold maxLen; omega) (by omega) rfl ?_
          rw [pile_app s b hbl (jn p.w t.op ((s.drop b).getD 0 0) ((s.drop b).getD 1 0))]
          refine WO.cln 8 ?_
          refine go2 ?_
          exact lpK.mk (k + 1, s.take b ++ [jn p.w t.op ((s.drop b).getD 0 0) ((s.drop b).getD 1 0)], 0) (.cons rfl (.cons rfl (.cons rfl (.cons rfl (.cons rfl (.cons rfl (.cons rfl .nil))))))) (fin (c := 0) (hval) (jn_bd8 w8 w1 h.1 h.2 y0 y1 z0 z1) _ (by simp [hz])) (by dsimp only; omega)
        · refine go2 ?_
          refine WO.bsA (us := [i64 (jn p.w t.op ((s.drop b).getD 0 0) ((s.drop b).getD 1 0))]) (cs := encL eI [jn p.w t.op ((s.drop b).getD 0 0) ((s.drop b).getD 1 0)]) rfl rfl rfl rfl rfl (by kernel_rfl) rfl ?_
          refine WO.hard (r := 158) (p := []) (x := .ow 2 1 1 (encL eI [jn p.w t.op ((s.drop b).getD 0 0) ((s.drop b).getD 1 0)])) (y := .im 1 [.sc (.int .i64 (jn p.w t.op ((s.drop b).getD 0 0) ((s.drop b).getD 1 0)))]) rfl rfl rfl ?_
          refine WO.apVI rfl rfl rfl (by rw [encL_len1]; simp; omega) rfl rfl rfl (by unfold maxLen; omega) (by omega) rfl ?_
          rw [pile_app s b hbl (jn p.w t.op ((s.drop b).getD 0 0) ((s.drop b).getD 1 0))]
          refine WO.cln 8 ?_
          refine go2 ?_
          exact lpK.mk (k + 1, s.take b ++ [jn p.w t.op ((s.drop b).getD 0 0) ((s.drop b).getD 1 0)], tr) (.cons rfl (.cons rfl (.cons rfl (.cons rfl (.cons rfl (.cons rfl (.cons rfl .nil))))))) (fin (c := 0) (hval) (jn_bd8 w8 w1 h.1 h.2 y0 y1 z0 z1) _ (by simp [hz])) (by dsimp only; omega)
  · have hk : k = e.length := by omega
    subst hk
    rw [List.drop_length] at g2 g3 gt
    rw [← g2, ← gt]
    simp only [hgt, Option.some.injEq] at g3
    have hs1 : s.length = 1 := by omega
    have e2 : (if tr ≠ 0 then tr else (rp p.w v [] s).2) = tr := by by_cases h : tr = 0 <;> simp [rp, h]
    rw [e2]
    refine go2 ?_
    refine WO.q rfl (QE.ixT (b := 0) 0 rfl rfl (by rw [encL_len1]; omega) rfl (by omega)) rfl rfl ?_
    refine WO.q rfl (QE.ldT rfl rfl (by omega)) rfl rfl ?_
    refine go2 ?_
    exact retVV rfl rfl rfl rfl rfl
theorem specValueIn (p : Pr) (v : Vs) (e : List Tm) (hp : PrOk p) (hB : PB p) (hv : EOk p v) (he : reckOk p e) : Ev Try.prog X (.fn 24 [.ag (prR p), .ag (enR v), .im e.length (encL tm e)] (.tu [i64 (rk p.w v e []).1, i64 (rk p.w v e []).2]) [.dead, .dead, .dead]) := by
  obtain ⟨r1, r2, r3, r4, r5⟩ := hp.r
  have hel : e.length ≤ 3000 := by have := he.1; simp only [expOk, Bool.and_eq_true, decide_eq_true_eq] at this; exact this.1
  have b1 := hB.l; have b2 := hB.s; have b3 := hB.a
  have hv1 := hv.n; have hv2 := hv.m
  have hvn : varsN p = ((p.lows.length + p.secs.length : Nat) : Int) + p.temps := rfl
  have hcl : ∀ c ∈ v.cells, c.length ≤ 4194304 := fun c hc => by
    obtain ⟨j, hj, rfl⟩ := List.getElem_of_mem hc
    have h1 := (hv.c j (by omega)).1
    have h2 := getD_in (q := fun n => 1 ≤ n ∧ n ≤ 6) r5 (i := j) (by omega)
    have h3 : v.cells.getD j [] = v.cells[j] := by simp [List.getD_eq_getElem?_getD, hj]
    rw [h3] at h1; omega
  refine Ev.fnW (env := [(0, .ag (prR p)), (1, .ag (enR v)), (2, .im e.length (encL tm e))]) Try.func24 rfl nm_spec_ValueIn rfl rfl (by kernel_rfl) (.cons rfl (.cons rfl (.cons rfl .nil))) ?_
  refine go2 ?_
  refine WO.call rfl rfl rfl (specEnvOk p v hB (by omega) (by omega) hcl (r := true) (by simp [hp, hv])) rfl rfl ?_
  refine go2 ?_
  refine WO.call rfl rfl rfl (l3Names p hp.w0 hp.w8 hB r1 r2 e (by omega) (r := true) (by simp [he])) rfl rfl ?_
  refine go2 ?_
  refine WO.call rfl rfl rfl (l5Value p v e hp.w0 hp.w8 hB he.1 (hv.fit he)) rfl rfl ?_
  rw [rk_rp]
  refine go2 ?_
  refine WO.cmp rfl rfl rfl rfl rfl (fun hz => ?_) (fun hz => ?_)
  · rw [if_pos hz]
    refine go2 ?_
    exact retVV rfl rfl rfl rfl rfl
  · rw [if_neg hz]
    have hz : (rp p.w v e []).2 = 0 := by omega
    rw [hz]
    refine go2 ?_
    exact retVV rfl rfl rfl rfl rfl
theorem specPlainIn (p : Pr) (v : Vs) (e : List Tm) (hp : PrOk p) (hB : PB p) (hv : EOk p v) (he : reckOk p e) : Ev Try.prog X (.fn 16 [.ag (prR p), .ag (enR v), .im e.length (encL tm e)] (i64 (rp p.w v e []).1) [.dead, .dead, .dead]) := by
  obtain ⟨r1, r2, r3, r4, r5⟩ := hp.r
  have hel : e.length ≤ 3000 := by have := he.1; simp only [expOk, Bool.and_eq_true, decide_eq_true_eq] at this; exact this.1
  have b1 := hB.l; have b2 := hB.s; have b3 := hB.a
  have hv1 := hv.n; have hv2 := hv.m
  have hvn : varsN p = ((p.lows.length + p.secs.length : Nat) : Int) + p.temps := rfl
  have hcl : ∀ c ∈ v.cells, c.length ≤ 4194304 := fun c hc => by
    obtain ⟨j, hj, rfl⟩ := List.getElem_of_mem hc
    have h1 := (hv.c j (by omega)).1
    have h2 := getD_in (q := fun n => 1 ≤ n ∧ n ≤ 6) r5 (i := j) (by omega)
    have h3 : v.cells.getD j [] = v.cells[j] := by simp [List.getD_eq_getElem?_getD, hj]
    rw [h3] at h1; omega
  refine Ev.fnW (env := [(0, .ag (prR p)), (1, .ag (enR v)), (2, .im e.length (encL tm e))]) Try.func16 rfl nm_spec_PlainIn rfl rfl (by kernel_rfl) (.cons rfl (.cons rfl (.cons rfl .nil))) ?_
  refine go2 ?_
  refine WO.call rfl rfl rfl (specEnvOk p v hB (by omega) (by omega) hcl (r := true) (by simp [hp, hv])) rfl rfl ?_
  refine go2 ?_
  refine WO.call rfl rfl rfl (l3Names p hp.w0 hp.w8 hB r1 r2 e (by omega) (r := true) (by simp [he])) rfl rfl ?_
  refine go2 ?_
  refine WO.call rfl rfl rfl (l5Value p v e hp.w0 hp.w8 hB he.1 (hv.fit he)) rfl rfl ?_
  refine go2 ?_
  exact retV rfl rfl rfl rfl
end Go.Eng.C

/- The law FnRun, walked by the engine. -/
import Derived.Test.YtbhdobjjhkkpkaaEngRf
import Derived.Test.YtbhdobjjhkkpkaaEngXp
namespace Go.Eng
open Go Go.RowKit
theorem qe_shl1 {P : Program} {X : FuncId → List AV → AV → List AV → Prop} {env : Env} {g : Option (Nat × Bool)} {d : Nat} {ty : TypeId} {pos : String} {af : Array Edge} {x y : Operand} {tx ty2 : TypeId} {k k' : IntKind} {a b c : Int} (hx : ov (look env) x = .sc (.int k a)) (hy : ov (look env) y = .sc (.int k' b)) (h0 : 0 ≤ b) (hc : k.wrap (a * 2 ^ (min b.toNat k.bits)) = c) : Ev P X (.qe ⟨some d, .binOp .shl tx x y ty2, ty, pos, af, g⟩ (look env) (.sc (.int k c))) :=
  .qo (qo_shl hx hy h0 hc)
end Go.Eng
namespace Go.Eng.C
open Go Go.Eng Go.RowKit Go.Proofs
set_option linter.unusedVariables false
set_option linter.unusedSimpArgs false
set_option maxRecDepth 10000
variable {X : FuncId → List AV → AV → List AV → Prop}
theorem nm_laws_FnRun : (Try.f10.name == "runtime.NumGoroutine") = false := by decide
theorem gA {a b : List Int} {i : Nat} (h : i < a.length) : (a ++ b).getD i 0 = a.getD i 0 := by simp [List.getD_eq_getElem?_getD, List.getElem?_append_left h]
theorem gB {a b : List Int} {i : Nat} (h : a.length ≤ i) : (a ++ b).getD i 0 = b.getD (i - a.length) 0 := by simp [List.getD_eq_getElem?_getD, List.getElem?_append_right h]
/-- A step leaves a variable as it is. -/
def Kps (f : Mc → Rn) (j : Nat) : Prop := ∀ s, (f s).1.v.vars.getD j 0 = s.v.vars.getD j 0
theorem times_keep {f : Mc → Rn} {j : Nat} (h : Kps f j) : ∀ k, Kps (times f k) j
  | 0, s => rfl
  | k + 1, s => by
    simp only [times]
    split
    · exact h s
    · rw [times_keep h k, h s]
theorem stpN_keep {p : Pr} (hp : RP p) {a : Nat} (ha : a < p.body.length) {fb fo : Mc → Rn} {j : Nat} (hj : (j : Int) < insN p) (hb : Kps fb j) (ho : Kps fo j) (ct : Int) : Kps (stpN p (p.body.getD a zst) fb fo ct) j := by
  intro s
  have ht := hp.at_ ha
  generalize p.body.getD a zst = t at *
  unfold stpN
  split
  · unfold putN
    repeat' split
    all_goals rfl
  · split
    · rfl
    · split
      · exact times_keep hb _ s
      · split
        · split
          · rw [ho, hb]
          · exact hb s
        · split
          · rfl
          · split
            · rename_i h0
              have m := (stOk0 h0).1 ht
              simp only [setV]
              rw [List.getD_eq_getElem?_getD, List.getElem?_set_ne (by omega), ← List.getD_eq_getElem?_getD]
            · split
              · rfl
              · split
                · exact hb s
                · exact ho s
theorem runN_keep {p : Pr} (hp : RP p) {j : Nat} (hj : (j : Int) < insN p) : ∀ (r : Ns), gdN p r → Kps (runN p r) j
  | .nil, _, s => rfl
  | .cons a b o r, h, s => by
    obtain ⟨⟨h1, -⟩, hb, ho, hr⟩ := h
    have k := stpN_keep hp h1 hj (runN_keep hp hj b hb) (runN_keep hp hj o ho) (catN p a)
    simp only [runN]
    split
    · exact k s
    · rw [runN_keep hp hj r hr, k s]
theorem runP_keep {p : Pr} {a b : List Int} (h : StOk p a b) {j : Nat} (hj : (j : Int) < insN p) : (runP p a b).1.v.vars.getD j 0 = (stV p a b).vars.getD j 0 := by
  obtain ⟨r, -, hbk, -, -, -, e⟩ := runP_good h
  rw [e, runN_keep h.1.rp hj r hbk.gd]
theorem splitL : ∀ {l m : List Inp} {u : List Int}, InL (l ++ m) u → InL l (u.take l.length) ∧ InL m (u.drop l.length)
  | [], m, u, h => ⟨by simp [InL], by simpa using h⟩
  | x :: l, m, a :: u, h => by
    obtain ⟨h1, h2⟩ := splitL (l := l) (m := m) (u := u) h.2
    exact ⟨⟨h.1, h1⟩, h2⟩
  | x :: l, m, [], h => h.elim
set_option maxHeartbeats 40000000 in
theorem fnRun (bs : List Int) (hb : ∀ b ∈ bs, 0 ≤ b ∧ b ≤ 255) : Ev Try.prog X (.fn 10 [.im bs.length (encL eU8 bs)] (bl true) [.dead]) := by
  refine Ev.fnW (env := [(0, .im bs.length (encL eU8 bs))]) Try.func10 rfl nm_laws_FnRun rfl rfl (by kernel_rfl) (.cons rfl .nil) ?_
  refine go3 ?_
  refine WO.callB rfl rfl rfl (big bs.length (encL eU8 bs)) rfl (fun hl => ?_) (fun hl => ?_)
  · refine go3 ?_
    exact retV rfl rfl rfl rfl
  refine go3 ?_
  obtain ⟨res, fin, hM, h, rfl, rfl⟩ := roll (X := X) bs 9 (by omega)
  refine WO.call rfl rfl rfl hM rfl rfl ?_
  clear hM
  refine go3 ?_
  have hD : DOk bs 0 := ⟨hb, by omega, by omega, by omega⟩
  obtain ⟨res, fin, hM, p, i', h', rfl, rfl, hD, hp⟩ := program (X := X) bs 0 h hD
  refine WO.callD rfl rfl rfl rfl rfl hM rfl rfl rfl rfl ?_
  clear hM hD
  refine go3 ?_
  have hB := hp.b
  have hok := hp.ok
  have hl1 := hp.l
  have hl2 := hp.s
  have hpw := hp.w
  have hc := CB.of hok.i hok.w8
  have hcm : ∀ x ∈ p.lows ++ p.secs, 0 ≤ x.max := fun x hx => (hc.m x hx).1
  have c2 := specInputsIn (X := X) p hB hok
  have cI := fun (n : Int) (h0 : 0 ≤ n) (h1 : n < cntL (p.lows ++ p.secs)) => lawInputs (X := X) p hB hok n h0 h1
  have cS := fun (n : Int) => splitL (atL_in (l := p.lows ++ p.secs) n hcm)
  have l1 := fun (n : Int) => (cS n).1.len
  have l2 := fun (n : Int) => (cS n).2.len
  have hst := fun (n : Int) => (⟨hok, cS n⟩ : StOk p ((atL (p.lows ++ p.secs) n).take p.lows.length) ((atL (p.lows ++ p.secs) n).drop p.lows.length))
  have hqn := hc.all
  generalize cntL (p.lows ++ p.secs) = M at *
  clear cS hc
  refine WC.loopS (S := Nat) (fun i => [(3, .op (prR p)), (4, i64 i)]) (fun i => (i : Int) ≤ max M 0) (fun i => M.toNat - i) 0 (.cons rfl (.cons rfl .nil)) (by omega) ?_
  intro n hn
  refine go3 ?_
  refine WO.call rfl rfl rfl c2 rfl rfl ?_
  refine go3 ?_
  refine WO.cmp rfl rfl rfl rfl rfl (fun h3 => ?_) (fun h3 => ?_)
  case refine_2 =>
    refine go3 ?_
    exact retV rfl rfl rfl rfl
  have ci := cI n (by omega) h3
  have hS := hst n
  have la := l1 n
  have lb := l2 n
  clear cI hst l1 l2
  generalize (atL (p.lows ++ p.secs) n).take p.lows.length = a at *
  generalize (atL (p.lows ++ p.secs) n).drop p.lows.length = b at *
  have cR := implRunOf (X := X) p a b hB hS (by omega) (by omega)
  have cP := specRunOf (X := X) p a b hB hS (by omega) (by omega)
  have cT := implStartOf (X := X) p a b hB hS
  have cA := implAfterOf (X := X) p a b hB hS (by omega) (by omega)
  obtain ⟨r, -, -, s0, s4, hg, -⟩ := runP_good hS
  have hk2 := runP_keep hS (j := 2) (by unfold insN; omega)
  have hins : insN p = 3 := by unfold insN; rw [hl1, hl2]; rfl
  have hvn : varsN p = 5 := by unfold varsN; rw [hins, hp.t]; rfl
  have v5 : (runP p a b).1.v.vars.length = 5 := by have := hg.k.v.n; omega
  have hol : (runP p a b).1.o.length ≤ 4000 := by have := hg.l; simp only [List.length_nil] at this; omega
  have ho := hg.k.o
  have hsz := hk2
  have w5 : (stV p a b).vars.length = 5 := by have := (StOk.mok hS).v.n; dsimp only at this; omega
  have e0 : (stV p a b).vars.getD 0 0 = a.getD 0 0 := by
    simp only [stV]
    rw [List.append_assoc, gA (by omega)]
  have e1 : (stV p a b).vars.getD 1 0 = b.getD 0 0 := by
    simp only [stV]
    rw [List.append_assoc, gB (by omega), gA (by omega), la, hl1]
  have e2 : (stV p a b).vars.getD 2 0 = b.getD 1 0 := by
    simp only [stV]
    rw [List.append_assoc, gB (by omega), gA (by omega), la, hl1]
  rw [e2] at hk2
  have cL := likeSame (X := X) (runP p a b).1.o (runP p a b).2.1 (runP p a b).2.2 (by omega)
  have hw1 := hok.w0
  have hw8 := hok.w8
  clear e2 hsz hg hS hvn hins
  generalize runP p a b = q at *
  generalize stV p a b = V at *
  refine go3 ?_
  refine WO.call rfl rfl rfl ci rfl rfl ?_
  refine go3 ?_
  refine WO.call rfl rfl rfl cR rfl rfl ?_
  refine go3 ?_
  refine WO.call rfl rfl rfl cP rfl rfl ?_
  refine go3 ?_
  refine WO.keep (e' := [(3, .op (prR p)), (4, i64 n), (5, .im a.length (encL eI a)), (6, .im b.length (encL eI b)), (7, .op (ocR q.1.o q.2.1 q.2.2)), (8, bl true), (9, .op (ocR q.1.o q.2.1 q.2.2)), (48, .ag (prR p)), (49, .im a.length (encL eI a)), (50, .im b.length (encL eI b))]) (.cons rfl (.cons rfl (.cons rfl (.cons rfl (.cons rfl (.cons rfl (.cons rfl (.cons rfl (.cons rfl (.cons rfl .nil)))))))))) ?_
  refine WO.call rfl rfl rfl cT rfl rfl ?_
  refine WO.mvR rfl (.move _) rfl rfl rfl ?_
  refine WO.extR rfl rfl rfl rfl rfl ?_
  refine WO.extR rfl rfl rfl rfl rfl ?_
  refine go3 ?_
  refine WO.stG (vs := enO V) rfl rfl rfl (takeAgQ (r := 51) (p := [0]) (cs := enO V) rfl (whL_enO _) rfl) rfl rfl rfl rfl ?_
  refine WO.hard (r := 11) (p := [0]) (x := ints V.vars) (y := .op [.im V.vars.length (encL eI V.vars), rowsO V.cells]) rfl rfl (by simp only [ints, Eng.hard, hardL_pl (encL_pl (f := eI) _)]; rfl) ?_
  refine WO.hard (r := 11) (p := [1]) (x := rowsO V.cells) (y := .op (enR V)) rfl rfl (by simp only [rowsO, Eng.hard, hardL_rows]; rfl) ?_
  refine go3 ?_
  refine WO.call rfl rfl rfl cA rfl rfl ?_
  refine go3 ?_
  refine WC.keep (e' := [(3, .op (prR p)), (4, i64 n), (5, .im a.length (encL eI a)), (6, .im b.length (encL eI b)), (7, .op (ocR q.1.o q.2.1 q.2.2)), (8, bl true), (9, .op (ocR q.1.o q.2.1 q.2.2)), (11, .op (enR V)), (12, bl true), (13, .op (enR q.1.v)), (14, bl true)]) (.cons rfl (.cons rfl (.cons rfl (.cons rfl (.cons rfl (.cons rfl (.cons rfl (.cons rfl (.cons rfl (.cons rfl (.cons rfl .nil))))))))))) ?_
  refine WC.regionDd ⟨[[], [0], [0, 1], [0, 1, 2], [0, 1, 2, 3], [0, 1, 2, 3, 4], [0, 1, 2, 3, 4, 5], [0, 1, 2, 3, 4, 5, 6], [0, 1, 2, 3, 4, 5, 6, 7], [0, 1, 2, 3, 4, 5, 6, 7, 8], [0, 1, 2, 3, 4, 5, 6, 7, 8, 9], [0, 1, 2, 3, 4, 5, 6, 7, 8, 9, 10], [0, 1, 2, 3, 4, 5, 6, 7, 8, 9, 10], [0, 1, 2, 3, 4, 5, 6, 7, 8, 9, 10, 11, 12], [0, 1, 2, 3, 4, 5, 6, 7, 8, 9, 10, 11, 12, 13], [0, 1, 2, 3, 4, 5, 6, 7, 8, 9, 10, 11, 12, 13, 14], [0, 1, 2, 3, 4, 5, 6, 7, 8, 9, 10, 11, 12, 13, 14, 15], [0, 1, 2, 3, 4, 5, 6, 7, 8, 9, 10, 11, 12, 13, 14, 15, 16], [0, 1, 2, 3, 4, 5, 6, 7, 8, 9, 10, 11, 12, 13, 14, 15, 16, 17], [0, 1, 2, 3, 4, 5, 6, 7, 8, 9, 10, 11, 12, 13, 14, 15, 16, 17, 18], [0, 1, 2, 3, 4, 5, 6, 7, 8, 9, 10, 11, 12, 13, 14, 15, 16, 17, 18, 19], [0, 1, 2, 3, 4, 5, 6, 7, 8, 9, 10, 11, 12, 13, 14, 15, 16, 17, 18, 19, 20], [0, 1, 2, 3, 4, 5, 6, 7, 8, 9, 10, 11, 12, 13, 14, 15, 16, 17, 18, 19, 20, 21], [0, 1, 2, 3, 4, 5, 6, 7, 8, 9, 10, 11, 12, 13, 14, 15, 16, 17, 18, 19, 20, 21, 22], [0, 1, 2, 3, 4, 5, 6, 7, 8, 9, 10, 11, 12, 13, 14, 15, 16, 17, 18, 19, 20, 21, 22, 23], [0, 1, 2, 3, 4, 5, 6, 7, 8, 9, 10, 11, 12, 13, 14, 15, 16, 17, 18, 19, 20, 21, 22, 23, 24], [0, 1, 2, 3, 4, 5, 6, 7, 8, 9, 10, 11, 12, 13, 14, 15, 16, 17, 18, 19, 20, 21, 22, 23, 24, 25], [0, 1, 2, 3, 4, 5, 6, 7, 8, 9, 10, 11, 12, 13, 14, 15, 16, 17, 18, 19, 20, 21, 22], [0, 1, 2, 3, 4, 5, 6, 7, 8, 9, 10, 11, 12, 13, 14, 15, 16, 17, 18, 19, 20, 21, 22, 27], [0, 1, 2, 3, 4, 5, 6, 7, 8, 9, 10, 11, 12, 13, 14, 15, 16, 17, 18, 19, 20, 21, 22, 27, 28], [0, 1, 2, 3, 4, 5, 6, 7, 8, 9, 10, 11, 12, 13, 14, 15, 16, 17, 18, 19, 20, 21, 22, 23, 24, 25, 26, 27, 28, 29], [0, 1, 2, 3, 4, 5, 6, 7, 8, 9, 10, 11, 12, 13, 14, 15, 16, 17, 18, 19, 20, 21, 22, 23, 24, 25, 26, 27, 28, 29, 30], [0, 1, 2, 3, 4, 5, 6, 7, 8, 9, 10, 11, 12, 13, 14, 15, 16, 17, 18, 19, 20, 21, 22, 23, 24, 25, 26, 27, 28, 29, 30, 31], [0, 1, 2, 3, 4, 5, 6, 7, 8, 9, 10, 11, 12, 13, 14, 15, 16, 17, 18, 19, 20, 21, 22, 23, 24, 25, 26, 27, 28, 29, 30, 31, 32], [0, 1, 2, 3, 4, 5, 6, 7, 8, 9, 10, 11, 12, 13, 14, 15, 16, 17, 18, 19, 20, 21, 22, 23, 24, 25, 26, 27, 28, 29, 30, 31, 32, 33], [0, 1, 2, 3, 4, 5, 6, 7, 8, 9, 10, 11, 12, 13, 14, 15, 16, 17, 18, 19, 20, 21, 22, 23, 24, 25, 26, 27, 28, 29, 30, 31, 32, 33, 34], [0, 1, 2, 3, 4, 5, 6, 7, 8, 9, 10, 11, 12, 13, 14, 15, 16, 17, 18, 19, 20, 21, 22, 23, 24, 25, 26, 27, 28, 29, 30, 31, 32, 33, 34, 35], [0, 1, 2, 3, 4, 5, 6, 7, 8, 9, 10, 11, 12, 13, 14, 15, 16, 17, 18, 19, 20, 21, 22, 23, 24, 25, 26, 27, 28, 29, 30, 31, 32], [0, 1, 2, 3, 4, 5, 6, 7, 8, 9, 10, 11, 12, 13, 14, 15, 16, 17, 18, 19, 20, 21, 22, 23, 24, 25, 26, 27, 28, 29, 30, 31, 32, 37], [0, 1, 2, 3, 4, 5, 6, 7, 8, 9, 10, 11, 12, 13, 14, 15, 16, 17, 18, 19, 20, 21, 22, 23, 24, 25, 26, 27, 28, 29, 30, 31, 32, 37, 38], [0, 1, 2, 3, 4, 5, 6, 7, 8, 9, 10, 11, 12, 13, 14, 15, 16, 17, 18, 19, 20, 21, 22, 23, 24, 25, 26, 27, 28, 29, 30, 31, 32, 33, 34, 35, 36, 37, 38, 39], [0, 1, 2, 3, 4, 5, 6, 7, 8, 9, 10, 11, 12, 13, 14, 15, 16, 17, 18, 19, 20, 21, 22, 23, 24, 25, 26, 27, 28, 29, 30, 31, 32, 33, 34, 35, 36, 37, 38, 39, 40], [0, 1, 2, 3, 4, 5, 6, 7, 8, 9, 10, 11, 12, 13, 14, 15, 16, 17, 18, 19, 20, 21, 22, 23, 24, 25, 26, 27, 28, 29, 30, 31, 32, 33, 34, 35, 36, 37, 38, 39, 40, 41], [0, 1, 2, 3, 4, 5, 6, 7, 8, 9, 10, 11, 12, 13, 14, 15, 16, 17, 18, 19, 20, 21, 22, 23, 24, 25, 26, 27, 28, 29, 30, 31, 32, 33, 34, 35, 36, 37, 38, 39, 40, 41, 42], [0, 1, 2, 3, 4, 5, 6, 7, 8, 9, 10, 11, 12, 13, 14, 15, 16, 17, 18, 19, 20, 21, 22, 23, 24, 25, 26, 27, 28, 29, 30, 31, 32, 33, 34, 35, 36, 37, 38, 39, 40, 41, 42, 43], [0, 1, 2, 3, 4, 5, 6, 7, 8, 9, 10, 11, 12, 13, 14, 15, 16, 17, 18, 19, 20, 21, 22, 23, 24, 25, 26, 27, 28, 29, 30, 31, 32, 33, 34, 35, 36, 37, 38, 39, 40, 41, 42, 43, 44], [0, 1, 2, 3, 4, 5, 6, 7, 8, 9, 10, 11, 12, 13, 14, 15, 16, 17, 18, 19, 20, 21, 22, 23, 24, 25, 26, 27, 28, 29, 30, 31, 32, 33, 34, 35, 36, 37, 38, 39, 40, 41, 42, 43, 44, 45], [0, 1, 2, 3, 4, 5, 6, 7, 8, 9, 10, 11, 12, 13, 14, 15, 16, 17, 18, 19, 20, 21, 22, 23, 24, 25, 26, 27, 28, 29, 30, 31, 32, 33, 34, 35, 36, 37, 38, 39, 40, 41, 42, 43, 44, 45, 46], [0, 1, 2, 3, 4, 5, 6, 7, 8, 9, 10, 11, 12, 13, 14, 15, 16, 17, 18, 19, 20, 21, 22, 23, 24, 25, 26, 27, 28, 29, 30, 31, 32, 33, 34, 35, 36, 37, 38, 39, 40, 41, 42, 43, 44, 45, 46, 47], [0, 1, 2, 3, 4, 5, 6, 7, 8, 9, 10, 11, 12, 13, 14, 15, 16, 17, 18, 19, 20, 21, 22, 23, 24, 25, 26, 27, 28, 29, 30, 31, 32, 33, 34, 35, 36, 37, 38, 39, 40, 41, 42, 43, 44, 45, 46, 47, 48], [0, 1, 2, 3, 4, 5, 6, 7, 8, 9, 10, 11, 12, 13, 14, 15, 16, 17, 18, 19, 20, 21, 22, 23, 24, 25, 26, 27, 28, 29, 30, 31, 32, 33, 34, 35, 36, 37, 38, 39, 40, 41, 42, 43, 44, 45, 46, 47, 48, 49], [0, 1, 2, 3, 4, 5, 6, 7, 8, 9, 10, 11, 12, 13, 14, 15, 16, 17, 18, 19, 20, 21, 22, 23, 24, 25, 26, 27, 28, 29, 30, 31, 32, 33, 34, 35, 36, 37, 38, 39, 40, 41, 42, 43, 44, 45, 46, 47, 48, 49, 50], [0, 1, 2, 3, 4, 5, 6, 7, 8, 9, 10, 11, 12, 13, 14, 15, 16, 17, 18, 19, 20, 21, 22, 23, 24, 25, 26, 27, 28, 29, 30, 31, 32, 33, 34, 35, 36, 37, 38, 39, 40, 41, 42, 43, 44, 45, 46, 47, 48, 49, 50, 51], [0, 1, 2, 3, 4, 5, 6, 7, 8, 9, 10, 11, 12, 13, 14, 15, 16, 17, 18, 19, 20, 21, 22, 23, 24, 25, 26, 27, 28, 29, 30, 31, 32, 33, 34, 35, 36, 37, 38, 39, 40, 41, 42, 43, 44, 45, 46, 47, 48], [0, 1, 2, 3, 4, 5, 6, 7, 8, 9, 10, 11, 12, 13, 14, 15, 16, 17, 18, 19, 20, 21, 22, 23, 24, 25, 26, 27, 28, 29, 30, 31, 32, 33, 34, 35, 36, 37, 38, 39, 40, 41, 42, 43, 44, 45, 46, 47, 48, 53], [0, 1, 2, 3, 4, 5, 6, 7, 8, 9, 10, 11, 12, 13, 14, 15, 16, 17, 18, 19, 20, 21, 22, 23, 24, 25, 26, 27, 28, 29, 30, 31, 32, 33, 34, 35, 36, 37, 38, 39, 40, 41, 42, 43, 44, 45, 46, 47, 48, 53, 54], [0, 1, 2, 3, 4, 5, 6, 7, 8, 9, 10, 11, 12, 13, 14, 15, 16, 17, 18, 19, 20, 21, 22, 23, 24, 25, 26, 27, 28, 29, 30, 31, 32, 33, 34, 35, 36, 37, 38, 39, 40, 41, 42, 43, 44, 45, 46, 47, 48, 49, 50, 51, 52, 53, 54, 55], [0, 1, 2, 3, 4, 5, 6, 7, 8, 9, 10, 11, 12, 13, 14, 15, 16, 17, 18, 19, 20, 21, 22, 23, 24, 25, 26, 27, 28, 29, 30, 31, 32, 33, 34, 35, 36, 37, 38, 39, 40, 41, 42, 43, 44, 45, 46, 47, 48, 49, 50, 51, 52, 53, 54, 55, 56]], [0, 1, 2, 3, 4, 5, 6, 7, 8, 9, 10, 11, 12, 14, 15, 16, 17, 18, 19, 20, 21, 22, 23, 24, 25, 26, 27, 28, 29, 30, 31, 32, 33, 34, 35, 36, 37, 38, 39, 40, 41, 42, 43, 44, 45, 46, 47, 48, 49, 50, 51, 52, 53, 54, 55, 56, 57], [], [61, 62, 63, 64, 65, 66, 67, 68, 69, 70, 71, 72, 73, 75, 76, 77, 78, 79, 80, 81, 82, 83, 84, 85, 86, 87, 88, 89, 90, 91, 92, 93, 94, 95, 96, 97, 98, 99, 100, 101, 102, 103, 104, 105, 106, 107, 108, 109, 110, 111, 112, 113, 114, 115, 116, 117, 118], [0, 1, 2, 3, 4, 5, 6, 7, 8, 9, 10, 11, 12, 13, 14, 15, 16, 17, 18, 19, 20, 21, 22, 23, 24, 25, 26, 27, 28, 29, 30, 31, 32, 33, 34, 35, 36, 37, 38, 39, 40, 41, 42, 43, 44, 45, 46, 47, 48, 49, 50, 51, 52, 53, 54, 55, 56, 57], [([], [], false), ([], [], false), ([], [], false), ([], [], false), ([], [], false), ([], [], false), ([], [], false), ([], [], false), ([], [], false), ([], [], false), ([], [], false), ([73], [73], false), ([72], [72], false), ([], [], false), ([], [], false), ([], [], false), ([], [], false), ([], [], false), ([], [], false), ([], [], false), ([], [], false), ([], [], false), ([], [], false), ([88, 89, 90], [88, 89, 90], false), ([88, 89, 90], [88, 89, 90], false), ([88, 89, 90], [88, 89, 90], false), ([88, 89, 90], [88, 89, 90], false), ([84, 85, 86, 87], [84, 85, 86, 87], false), ([84, 85, 86, 87], [84, 85, 86, 87], false), ([84, 85, 86, 87], [84, 85, 86, 87], false), ([], [], false), ([], [], false), ([], [], false), ([98, 99, 100], [98, 99, 100], false), ([98, 99, 100], [98, 99, 100], false), ([98, 99, 100], [98, 99, 100], false), ([98, 99, 100], [98, 99, 100], false), ([94, 95, 96, 97], [94, 95, 96, 97], false), ([94, 95, 96, 97], [94, 95, 96, 97], false), ([94, 95, 96, 97], [94, 95, 96, 97], false), ([], [], false), ([], [], false), ([], [], false), ([], [], false), ([], [], false), ([], [], false), ([], [], false), ([], [], false), ([], [], false), ([114, 115, 116], [114, 115, 116], false), ([114, 115, 116], [114, 115, 116], false), ([114, 115, 116], [114, 115, 116], false), ([114, 115, 116], [114, 115, 116], false), ([110, 111, 112, 113], [110, 111, 112, 113], false), ([110, 111, 112, 113], [110, 111, 112, 113], false), ([110, 111, 112, 113], [110, 111, 112, 113], false), ([], [], false), ([], [], false)]⟩ (by kernel_rfl) ?_
  refine go3 ?_
  refine WO.call rfl rfl rfl cL rfl rfl ?_
  refine go3 ?_
  refine WD.q rfl rfl rfl rfl rfl (QE.ixN (f := eI) (i := 0) 0 rfl rfl (by omega)) rfl rfl rfl ?_
  refine go3 ?_
  refine WD.q rfl rfl rfl rfl rfl (QE.ixN (f := eI) (i := 0) 0 rfl rfl (by omega)) rfl rfl rfl ?_
  refine go3 ?_
  refine WD.q rfl rfl rfl rfl rfl (QE.ixN (f := eI) (i := 1) 0 rfl rfl (by omega)) rfl rfl rfl ?_
  refine go3 ?_
  refine WD.q rfl rfl rfl rfl rfl (QE.ixN (f := eI) (i := 0) 0 rfl rfl (by omega)) rfl rfl rfl ?_
  refine go3 ?_
  refine WD.q rfl rfl rfl rfl rfl (QE.ixN (f := eI) (i := 2) 0 rfl rfl (by omega)) rfl rfl rfl ?_
  refine go3 ?_
  refine WD.q rfl rfl rfl rfl rfl (QE.ixN (f := eI) (i := 1) 0 rfl rfl (by omega)) rfl rfl rfl ?_
  refine go3 ?_
  refine WC.loopS (S := Nat) (fun j => [(3, .op (prR p)), (4, i64 n), (7, .op (ocR q.1.o q.2.1 q.2.2)), (15, i64 j)]) (fun j => j ≤ q.1.o.length) (fun j => q.1.o.length - j) 0 (.cons rfl (.cons rfl (.cons rfl (.cons rfl .nil)))) (Nat.zero_le _) ?_
  intro j hj
  refine go3 ?_
  refine WO.cmp rfl rfl rfl rfl rfl (fun h4 => ?_) (fun h4 => ?_)
  · have hi : j < q.1.o.length := by omega
    obtain ⟨x1, x2⟩ := ho _ (show q.1.o.getD j 0 ∈ q.1.o by simp [List.getD_eq_getElem?_getD, hi])
    refine go3 ?_
    refine WC.regionDd ⟨[[], [0], [], [0, 1, 2], [0, 1, 2, 3], [0, 1, 2, 3, 4], [0, 1, 2, 3, 4, 5], [0, 1, 2, 3, 4, 5, 6], [0, 1, 2, 3, 4, 5, 6, 7], [0, 1, 2, 3, 4, 5, 6], [0, 1, 2, 3, 4, 5, 6, 7, 8, 9], [0, 1, 2, 3, 4, 5, 6, 7, 8, 9, 10], [0, 1, 2, 3, 4, 5, 6], [0, 1, 2, 3, 4, 5, 6, 12], [0, 1, 2, 3, 4, 5, 6, 12, 13], [0, 1, 2, 3, 4, 5, 6, 7, 8, 9, 10, 11, 12, 13, 14], [0, 1, 2, 3, 4, 5, 6, 7, 8, 9, 10, 11, 12, 13, 14, 15]], [0, 1, 2, 3, 4, 5, 6, 7, 8, 9, 10, 11, 12, 13, 14, 15, 16], [], [126, 127, 128, 129, 130, 131, 132, 133, 134, 135, 136, 137, 138, 139, 140, 141, 142], [0, 1, 2, 3, 4, 5, 6, 7, 8, 9, 10, 11, 12, 13, 14, 15, 16], [([128], [128], false), ([128], [128], false), ([126, 127], [126, 127], false), ([], [], false), ([], [], false), ([], [], false), ([], [], false), ([135, 138, 139, 140], [135, 138, 139, 140], false), ([135, 138, 139, 140], [135, 138, 139, 140], false), ([133, 134, 138, 139, 140], [133, 134, 138, 139, 140], false), ([138, 139, 140], [138, 139, 140], false), ([138, 139, 140], [138, 139, 140], false), ([133, 134, 135, 136, 137], [133, 134, 135, 136, 137], false), ([133, 134, 135, 136, 137], [133, 134, 135, 136, 137], false), ([133, 134, 135, 136, 137], [133, 134, 135, 136, 137], false), ([], [], false), ([], [], false)]⟩ (by kernel_rfl) ?_
    refine go3 ?_
    refine WD.q rfl rfl rfl rfl rfl (QE.ixN (f := eI) 0 rfl rfl hi) rfl rfl rfl ?_
    refine go3 ?_
    refine WD.q rfl rfl rfl rfl rfl (QE.ixN (f := eI) 0 rfl rfl hi) rfl rfl rfl ?_
    refine go3 ?_
    refine WD.q rfl rfl rfl rfl rfl (qe_shl1 (c := sizeW p.w) rfl rfl (by omega) (shl_one hw1 hw8)) rfl rfl rfl ?_
    refine go3 ?_
    rw [show (j : Int) + 1 = ((j + 1 : Nat) : Int) by omega]
    exact lpK.mk (j + 1) (.cons rfl (.cons rfl (.cons rfl (.cons rfl .nil)))) hi (show q.1.o.length - (j + 1) < q.1.o.length - j by omega)
  · refine go3 ?_
    rw [show (n : Int) + 1 = ((n + 1 : Nat) : Int) by omega]
    exact lpK.mk (n + 1) (.cons rfl (.cons rfl .nil)) (by omega) (show M.toNat - (n + 1) < M.toNat - n by omega)
theorem fnRunW (bs : List Int) (h : bs.length ≤ 9223372036854775807 ∧ ∀ b ∈ bs, (Lit.int .u8 b).wf = true) : Ev Try.prog X (.fn 10 [.im bs.length (encL eU8 bs)] (bl true) [.dead]) := fnRun bs (wf_u8 h)
end Go.Eng.C

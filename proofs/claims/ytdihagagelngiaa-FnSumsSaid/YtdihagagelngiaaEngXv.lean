/- The law FnSums, walked by the engine. -/
import Derived.Test.YtdihagagelngiaaEngXn
import Derived.Test.YtdihagagelngiaaEngXs
import Derived.Test.YtdihagagelngiaaEngXt
import Derived.Test.YtdihagagelngiaaEngPa
import Derived.Test.YtdihagagelngiaaEngB4
import Derived.Test.YtdihagagelngiaaEngV1
import Derived.Test.YtdihagagelngiaaEngXp
namespace Go.Eng.C
open Go Go.Eng Go.RowKit Go.Proofs
set_option linter.unusedVariables false
set_option linter.unusedSimpArgs false
set_option maxRecDepth 10000
theorem nm_laws_FnSums : (Try.f5.name == "runtime.NumGoroutine") = false := by decide
variable {X : FuncId → List AV → AV → List AV → Prop}
/-- Terms that name what there is: variables below five, and operations. -/
def Plain5 (e : List Tm) : Prop := ∀ t ∈ e, (t.op = 1 ∧ t.n < 5) ∨ (3 ≤ t.op)
theorem Plain5.app {a b : List Tm} (ha : Plain5 a) (hb : Plain5 b) : Plain5 (a ++ b) := fun t ht => (List.mem_append.1 ht).elim (ha t) (hb t)
theorem Plain5.var {n : Int} (h : n < 5) : Plain5 [⟨1, n⟩] := fun t ht => by simp only [List.mem_singleton] at ht; subst ht; exact .inl ⟨rfl, h⟩
theorem Plain5.op {op : Int} (h : 3 ≤ op) : Plain5 [⟨op, 0⟩] := fun t ht => by simp only [List.mem_singleton] at ht; subst ht; exact .inr h
theorem reck5 {p : Pr} (hp : Drawn p) {e : List Tm} (h1 : Lifts e) (h2 : e.length ≤ 3000) (h3 : Plain5 e) : reckOk p e := by
  refine ⟨h1.ok h2, fun t ht => ?_⟩
  have hv : varsN p = 5 := by unfold varsN insN; rw [hp.l, hp.s, hp.t]; rfl
  rcases h3 t ht with ⟨h, k⟩ | h
  · exact ⟨fun e => by omega, fun _ => by omega, fun e => by omega⟩
  · exact ⟨fun e => by omega, fun e => by omega, fun e => by omega⟩
theorem valueE {p : Pr} {v : Vs} (hp : Drawn p) (hv : EOk p v) {e : List Tm} {V c : Int} (h : rk p.w v e [] = (V, c)) (h1 : Lifts e) (h2 : e.length ≤ 3000) (h3 : Plain5 e) : Ev Try.prog X (.fn 30 [.ag (prR p), .ag (enR v), .im e.length (encL tm e)] (.tu [i64 V, i64 c]) [.dead, .dead, .dead]) := by
  have := implValueIn (X := X) p v e hp.ok hp.b hv (reck5 hp h1 h2 h3)
  rwa [h] at this
/-- An expression of a law: how it stands. -/
structure Ex5 (e : List Tm) : Prop where
  l : Lifts e
  n : e.length ≤ 40
  p : Plain5 e
theorem Ex5.var {n : Int} (h0 : 0 ≤ n) (h : n < 5) : Ex5 [⟨1, n⟩] := ⟨Lifts.var n h0 (by omega), by simp, Plain5.var h⟩
theorem Ex5.two {a b : List Tm} (op : Int) (ha : Ex5 a) (hb : Ex5 b) (hn : (a ++ b ++ [(⟨op, 0⟩ : Tm)]).length ≤ 40) (g0 : 5 ≤ op) (g1 : op ≤ 16) : Ex5 (a ++ b ++ [⟨op, 0⟩]) := ⟨Lifts.two op ha.l hb.l g0 g1, hn, (ha.p.app hb.p).app (Plain5.op (by omega))⟩
theorem Ex5.one {a : List Tm} (op : Int) (ha : Ex5 a) (hn : (a ++ [(⟨op, 0⟩ : Tm)]).length ≤ 40) (ho : op = 3 ∨ op = 4) : Ex5 (a ++ [⟨op, 0⟩]) := ⟨Lifts.one op ha.l ho, hn, ha.p.app (Plain5.op (by omega))⟩
theorem mk2 (op : Int) {a b : List Tm} (ha : Ex5 a) (hb : Ex5 b) (hn : a.length + b.length < 40) (g0 : 5 ≤ op) (g1 : op ≤ 16) : ∃ e : List Tm, e = a ++ b ++ [⟨op, 0⟩] ∧ Ex5 e ∧ Ev Try.prog X (.fn 31 [i64 op, .im a.length (encL tm a), .im b.length (encL tm b)] (.ow 53 2 e.length (encL tm e)) [.dead, .dead, .dead]) :=
  ⟨_, rfl, Ex5.two op ha hb (by simp; omega) g0 g1, two op a b (by omega) (by omega)⟩
set_option maxHeartbeats 40000000 in
theorem fnSums (bs : List Int) (hb : ∀ b ∈ bs, 0 ≤ b ∧ b ≤ 255) : Ev Try.prog X (.fn 5 [.im bs.length (encL eU8 bs)] (bl true) [.dead]) := by
  refine Ev.fnW (env := [(0, .im bs.length (encL eU8 bs))]) Try.func5 rfl nm_laws_FnSums rfl rfl (by kernel_rfl) (.cons rfl .nil) ?_
  refine go3 ?_
  refine WO.callB rfl rfl rfl (big bs.length (encL eU8 bs)) rfl (fun hl => ?_) (fun hl => ?_)
  · refine go3 ?_
    exact retV rfl rfl rfl rfl
  refine go3 ?_
  obtain ⟨res, fin, hM, h, rfl, rfl⟩ := roll (X := X) bs 8 (by omega)
  refine WO.call rfl rfl rfl hM rfl rfl ?_
  clear hM
  refine go3 ?_
  have hD : DOk bs 0 := ⟨hb, by omega, by omega, by omega⟩
  obtain ⟨res, fin, hM, p, i', h', rfl, rfl, hD, hp⟩ := program (X := X) bs 0 h hD
  refine WO.callD rfl rfl rfl rfl rfl hM rfl rfl rfl rfl ?_
  clear hM
  refine go3 ?_
  obtain ⟨r1, r2, r3, r4, r5⟩ := hp.ok.r
  obtain ⟨res, fin, hM, v, i', h', rfl, rfl, hD, hv⟩ := surroundings (X := X) bs p i' h' hp.w hp.b r1 r2 ⟨r3, r5⟩ hD
  refine WO.callD rfl rfl rfl rfl rfl hM rfl rfl rfl rfl ?_
  clear hM
  refine go3 ?_
  obtain ⟨hvs, hvn⟩ := show (∀ x ∈ v.vars, 0 ≤ x ∧ x < sizeW p.w) ∧ (v.vars.length : Int) = 5 from ⟨hv.vs, by rw [hv.n]; unfold varsN insN; rw [hp.l, hp.s, hp.t]; rfl⟩
  refine WO.dice rfl rfl rfl rfl hD (by omega) rfl rfl (fun m i' h' hD m0 m1 => ?_)
  refine go3 ?_
  refine WO.call rfl rfl rfl (variable_ m) rfl rfl ?_
  refine WO.hard (r := 37) (p := []) (x := .ow 53 2 1 (encL tm [⟨1, m⟩])) (y := .im 1 (encL tm [⟨1, m⟩])) rfl rfl rfl ?_
  refine go3 ?_
  refine WO.dice rfl rfl rfl rfl hD (by omega) rfl rfl (fun n i' h' hD n0 n1 => ?_)
  refine go3 ?_
  refine WO.call rfl rfl rfl (variable_ n) rfl rfl ?_
  refine WO.hard (r := 40) (p := []) (x := .ow 53 2 1 (encL tm [⟨1, n⟩])) (y := .im 1 (encL tm [⟨1, n⟩])) rfl rfl rfl ?_
  refine go3 ?_
  clear hD
  have xa := Ex5.var m0 m1
  have xb := Ex5.var n0 n1
  have va := Evals.var p.w v m
  have vb := Evals.var p.w v n
  have ha := getD_in (q := fun x => 0 ≤ x ∧ x < sizeW p.w) hvs (i := m.toNat) (by omega)
  have hb := getD_in (q := fun x => 0 ≤ x ∧ x < sizeW p.w) hvs (i := n.toNat) (by omega)
  obtain ⟨s1, s2, s3, s4, s5, s6⟩ := sums hp.w ha.1 ha.2 hb.1 hb.2
  have hml : m < (v.vars.length : Int) := by omega
  have hnl : n < (v.vars.length : Int) := by omega
  generalize hA : v.vars.getD m.toNat 0 = A at *
  generalize hB' : v.vars.getD n.toNat 0 = B at *
  refine WO.call rfl rfl rfl (valueE hp hv va.rk xa.l (by simp) xa.p) rfl rfl ?_
  refine go3 ?_
  refine WO.call rfl rfl rfl (valueE hp hv vb.rk xb.l (by simp) xb.p) rfl rfl ?_
  refine go3 ?_
  have x5 := Ex5.two 5 xa xb (by simp) (by decide) (by decide)
  have v5 := Evals.two 5 va vb (by decide) (by decide) (by omega)
  have x6 := Ex5.two 6 x5 xb (by simp) (by decide) (by decide)
  have v6 := (Evals.two 6 v5 vb (by decide) (by decide) (by omega)).rk
  rw [s1] at v6
  refine WC.keep (e' := [(4, .op (prR p)), (5, .op (enR v)), (6, .im 1 (encL tm [⟨1, m⟩])), (7, .im 1 (encL tm [⟨1, n⟩])), (8, i64 A), (10, i64 B)]) (.cons rfl (.cons rfl (.cons rfl (.cons rfl (.cons rfl (.cons rfl .nil)))))) ?_
  refine WC.regionDd ⟨[[], [], [], [], [2, 3], [], [2, 3, 4, 5], [0, 1, 2, 3, 4, 5, 6], [0, 1, 2, 3, 4, 5, 6, 7], [0, 1, 2, 3, 4, 5, 6, 7, 8], [0, 1, 2, 3, 4, 5, 6, 7, 8], [0, 1, 2, 3, 4, 5, 6, 7, 8, 9], [0, 1, 2, 3, 4, 5, 6, 7, 8, 9, 10, 11]], [0, 1, 2, 3, 4, 5, 6, 8, 9, 10, 11], [], [56, 57, 58, 59, 60, 61, 62, 55, 64, 65, 12], [0, 1, 2, 3, 4, 5, 6, 7, 8, 9, 10, 11, 12], [([57, 58, 59, 60, 61, 62], [57, 58, 59, 60, 61, 62], false), ([56, 58, 59, 60, 61, 62], [56, 58, 59, 60, 61, 62], false), ([56, 57, 59, 61], [56, 57, 59, 61], false), ([56, 57, 58, 61], [56, 57, 58, 61], false), ([56, 57, 61], [56, 57, 61], false), ([56, 57, 58, 59, 60], [56, 57, 58, 59, 60], false), ([56, 57], [56, 57], false), ([], [], false), ([], [], false), ([65], [65], false), ([64, 12], [64, 12], false), ([65], [65], false), ([], [], false)]⟩ (by kernel_rfl) ?_
  refine go3 ?_
  first | refine WD.q rfl rfl rfl rfl rfl (QE.callF (.cons (.plain _ rfl) (.cons (.plain _ rfl) (.cons (.plain _ rfl) .nil))) (two 5 [⟨1, m⟩] [⟨1, n⟩] (by simp) (by simp)) (show noIm (.ow _ _ _ (encL tm _)) = true from noIm_tm _)) rfl rfl rfl ?_ | refine WO.callF rfl (.cons (.plain _ rfl) (.cons (.plain _ rfl) (.cons (.plain _ rfl) .nil))) (two 5 [⟨1, m⟩] [⟨1, n⟩] (by simp) (by simp)) (show noIm (.ow _ _ _ (encL tm _)) = true from noIm_tm _) rfl rfl ?_
  refine go3 ?_
  first | refine WD.q rfl rfl rfl rfl rfl (QE.callF (.cons (.plain _ rfl) (.cons (frz1 rfl rfl) (.cons (.plain _ rfl) .nil))) (two 6 ([⟨1, m⟩] ++ [⟨1, n⟩] ++ [⟨5, 0⟩]) [⟨1, n⟩] (by simp) (by simp)) (show noIm (.ow _ _ _ (encL tm _)) = true from noIm_tm _)) rfl rfl rfl ?_ | refine WO.callF rfl (.cons (.plain _ rfl) (.cons (frz1 rfl rfl) (.cons (.plain _ rfl) .nil))) (two 6 ([⟨1, m⟩] ++ [⟨1, n⟩] ++ [⟨5, 0⟩]) [⟨1, n⟩] (by simp) (by simp)) (show noIm (.ow _ _ _ (encL tm _)) = true from noIm_tm _) rfl rfl ?_
  refine go3 ?_
  refine WO.callF rfl (.ag (FrzL.plains rfl) (.ag (FrzL.plains rfl) (.cons (frz1 rfl rfl) .nil))) (valueE hp hv v6 x6.l (by simp) x6.p) rfl rfl rfl ?_
  refine go3 ?_
  have x3 := Ex5.one 3 xa (by simp) (.inl rfl)
  have v3 := Evals.one 3 va (.inl rfl)
  have x33 := Ex5.one 3 x3 (by simp) (.inl rfl)
  have v33 := (Evals.one 3 v3 (.inl rfl)).rk
  rw [s2] at v33
  refine WC.keep (e' := [(4, .op (prR p)), (5, .op (enR v)), (6, .im 1 (encL tm [⟨1, m⟩])), (7, .im 1 (encL tm [⟨1, n⟩])), (8, i64 A), (10, i64 B), (12, i64 A)]) (.cons rfl (.cons rfl (.cons rfl (.cons rfl (.cons rfl (.cons rfl (.cons rfl .nil))))))) ?_
  refine WC.regionDd ⟨[[], [], [], [], [2, 3], [], [], [5, 6], [2, 3, 4, 5, 6, 7], [0, 1, 2, 3, 4, 5, 6, 7, 8], [0, 1, 2, 3, 4, 5, 6, 7, 8, 9], [0, 1, 2, 3, 4, 5, 6, 7, 8, 9, 10], [0, 1, 2, 3, 4, 5, 6, 7, 8, 9, 10], [0, 1, 2, 3, 4, 5, 6, 7, 8, 9, 10, 11], [0, 1, 2, 3, 4, 5, 6, 7, 8, 9, 10, 11, 12, 13]], [0, 1, 3, 5, 6, 10, 11, 12, 13], [(2, []), (4, [69]), (7, []), (8, [71, 74])], [67, 68, 69, 70, 71, 72, 73, 74, 75, 66, 77, 78, 14], [0, 1, 2, 3, 4, 5, 6, 7, 8, 9, 10, 11, 12, 13, 14], [([68, 69, 70, 71, 72, 73, 74, 75], [68, 69, 70, 71, 69, 72, 73, 74, 75, 71, 74], true), ([67, 69, 70, 71, 72, 73, 74, 75], [67, 69, 70, 71, 69, 72, 73, 74, 75, 71, 74], true), ([67, 68, 70, 72, 73, 74], [67, 68, 70, 72, 73, 74], true), ([67, 68, 69, 72, 73, 74], [67, 68, 69, 72, 73, 74], true), ([67, 68, 72, 73, 74], [67, 68, 72, 73, 74], true), ([67, 68, 69, 70, 71, 73], [67, 68, 69, 70, 71, 69, 73], true), ([67, 68, 69, 70, 71, 72], [67, 68, 69, 70, 71, 69, 72], true), ([67, 68, 69, 70, 71], [67, 68, 69, 70, 71, 69], true), ([67, 68], [67, 68], false), ([], [], false), ([], [], false), ([78], [78], false), ([77, 14], [77, 14], false), ([78], [78], false), ([], [], false)]⟩ (by kernel_rfl) ?_
  refine go3 ?_
  refine WD.gen [(69, .ow 53 2 0 [])] rfl rfl rfl rfl rfl (WO.build0 rfl rfl rfl (WO.nil (WK.mk' (.cons _ (.nil _))))) rfl rfl rfl ⟨rfl, trivial⟩ rfl rfl (.cons _ (.nil _)) ?_
  refine go3 ?_
  refine WD.gen [(71, .ow 53 2 1 (encL tm [⟨1, m⟩])), (69, .dead)] rfl rfl rfl rfl rfl (WO.apI rfl rfl rfl rfl rfl rfl rfl (by unfold maxLen; omega) (by omega) rfl (WO.nil (WK.mk' (.cons _ (.cons _ (.nil _)))))) rfl rfl rfl ⟨rfl, trivial⟩ rfl rfl (.cons _ (.cons _ (.nil _))) ?_
  refine go3 ?_
  refine WD.q rfl rfl rfl rfl rfl (QE.bld (cs := tm ⟨3, 0⟩) rfl) rfl rfl rfl ?_
  refine go3 ?_
  refine WD.q rfl rfl rfl rfl rfl (QE.bld (cs := tm ⟨3, 0⟩) rfl) rfl rfl rfl ?_
  refine go3 ?_
  refine WD.gen [(74, .ow 53 2 2 (encL tm [⟨3, 0⟩, ⟨3, 0⟩]))] rfl rfl rfl rfl rfl (WO.bsA (us := [.ag (tm ⟨3, 0⟩), .ag (tm ⟨3, 0⟩)]) (cs := encL tm [⟨3, 0⟩, ⟨3, 0⟩]) rfl rfl rfl rfl rfl (by kernel_rfl) rfl (WO.nil (WK.mk' (.cons _ (.nil _))))) rfl rfl rfl ⟨rfl, trivial⟩ rfl rfl (.cons _ (.nil _)) ?_
  refine go3 ?_
  refine WD.gen [(75, .ow 53 2 3 (encL tm ([⟨1, m⟩] ++ [⟨3, 0⟩] ++ [⟨3, 0⟩]))), (74, .dead), (71, .dead)] rfl rfl rfl rfl rfl (WO.apM rfl rfl rfl rfl rfl rfl rfl rfl rfl (by unfold maxLen; omega) (by omega) rfl (WO.nil (WK.mk' (.cons _ (.cons _ (.cons _ (.nil _))))))) rfl rfl rfl ⟨rfl, trivial⟩ rfl rfl (.cons _ (.cons _ (.cons _ (.nil _)))) ?_
  refine go3 ?_
  refine WO.callF rfl (.ag (FrzL.plains rfl) (.ag (FrzL.plains rfl) (.cons (frz1 rfl rfl) .nil))) (valueE hp hv v33 x33.l (by simp) x33.p) rfl rfl rfl ?_
  refine go3 ?_
  have x12 := Ex5.two 12 xa xb (by simp) (by decide) (by decide)
  have v12 := Evals.two 12 va vb (by decide) (by decide) (by omega)
  have x122 := Ex5.two 12 x12 xb (by simp) (by decide) (by decide)
  have v122 := (Evals.two 12 v12 vb (by decide) (by decide) (by omega)).rk
  rw [s3] at v122
  refine WC.keep (e' := [(4, .op (prR p)), (5, .op (enR v)), (6, .im 1 (encL tm [⟨1, m⟩])), (7, .im 1 (encL tm [⟨1, n⟩])), (8, i64 A), (10, i64 B), (12, i64 A), (14, i64 A)]) (.cons rfl (.cons rfl (.cons rfl (.cons rfl (.cons rfl (.cons rfl (.cons rfl (.cons rfl .nil)))))))) ?_
  refine WC.regionDd ⟨[[], [], [], [], [2, 3], [], [2, 3, 4, 5], [0, 1, 2, 3, 4, 5, 6], [0, 1, 2, 3, 4, 5, 6, 7], [0, 1, 2, 3, 4, 5, 6, 7, 8], [0, 1, 2, 3, 4, 5, 6, 7, 8], [0, 1, 2, 3, 4, 5, 6, 7, 8, 9], [0, 1, 2, 3, 4, 5, 6, 7, 8, 9, 10, 11]], [0, 1, 2, 3, 4, 5, 6, 8, 9, 10, 11], [], [80, 81, 82, 83, 84, 85, 86, 79, 88, 89, 16], [0, 1, 2, 3, 4, 5, 6, 7, 8, 9, 10, 11, 12], [([81, 82, 83, 84, 85, 86], [81, 82, 83, 84, 85, 86], false), ([80, 82, 83, 84, 85, 86], [80, 82, 83, 84, 85, 86], false), ([80, 81, 83, 85], [80, 81, 83, 85], false), ([80, 81, 82, 85], [80, 81, 82, 85], false), ([80, 81, 85], [80, 81, 85], false), ([80, 81, 82, 83, 84], [80, 81, 82, 83, 84], false), ([80, 81], [80, 81], false), ([], [], false), ([], [], false), ([89], [89], false), ([88, 16], [88, 16], false), ([89], [89], false), ([], [], false)]⟩ (by kernel_rfl) ?_
  refine go3 ?_
  first | refine WD.q rfl rfl rfl rfl rfl (QE.callF (.cons (.plain _ rfl) (.cons (.plain _ rfl) (.cons (.plain _ rfl) .nil))) (two 12 [⟨1, m⟩] [⟨1, n⟩] (by simp) (by simp)) (show noIm (.ow _ _ _ (encL tm _)) = true from noIm_tm _)) rfl rfl rfl ?_ | refine WO.callF rfl (.cons (.plain _ rfl) (.cons (.plain _ rfl) (.cons (.plain _ rfl) .nil))) (two 12 [⟨1, m⟩] [⟨1, n⟩] (by simp) (by simp)) (show noIm (.ow _ _ _ (encL tm _)) = true from noIm_tm _) rfl rfl ?_
  refine go3 ?_
  first | refine WD.q rfl rfl rfl rfl rfl (QE.callF (.cons (.plain _ rfl) (.cons (frz1 rfl rfl) (.cons (.plain _ rfl) .nil))) (two 12 ([⟨1, m⟩] ++ [⟨1, n⟩] ++ [⟨12, 0⟩]) [⟨1, n⟩] (by simp) (by simp)) (show noIm (.ow _ _ _ (encL tm _)) = true from noIm_tm _)) rfl rfl rfl ?_ | refine WO.callF rfl (.cons (.plain _ rfl) (.cons (frz1 rfl rfl) (.cons (.plain _ rfl) .nil))) (two 12 ([⟨1, m⟩] ++ [⟨1, n⟩] ++ [⟨12, 0⟩]) [⟨1, n⟩] (by simp) (by simp)) (show noIm (.ow _ _ _ (encL tm _)) = true from noIm_tm _) rfl rfl ?_
  refine go3 ?_
  refine WO.callF rfl (.ag (FrzL.plains rfl) (.ag (FrzL.plains rfl) (.cons (frz1 rfl rfl) .nil))) (valueE hp hv v122 x122.l (by simp) x122.p) rfl rfl rfl ?_
  refine go3 ?_
  have x4 := Ex5.one 4 xa (by simp) (.inr rfl)
  have v4 := Evals.one 4 va (.inr rfl)
  have x54 := Ex5.two 5 xa x4 (by simp) (by decide) (by decide)
  have v54 := (Evals.two 5 va v4 (by decide) (by decide) (by omega)).rk
  rw [s4] at v54
  refine WC.keep (e' := [(4, .op (prR p)), (5, .op (enR v)), (6, .im 1 (encL tm [⟨1, m⟩])), (7, .im 1 (encL tm [⟨1, n⟩])), (8, i64 A), (10, i64 B), (12, i64 A), (14, i64 A), (16, i64 A)]) (.cons rfl (.cons rfl (.cons rfl (.cons rfl (.cons rfl (.cons rfl (.cons rfl (.cons rfl (.cons rfl .nil))))))))) ?_
  refine WC.regionDd ⟨[[], [], [], [], [], [3, 4], [], [6], [3, 4, 5, 6, 7], [2, 3, 4, 5, 6, 7, 8], [0, 1, 2, 3, 4, 5, 6, 7, 8, 9], [0, 1, 2, 3, 4, 5, 6, 7, 8, 9, 10], [0, 1, 2, 3, 4, 5, 6, 7, 8, 9, 10, 11], [0, 1, 2, 3, 4, 5, 6, 7, 8, 9, 10, 11], [0, 1, 2, 3, 4, 5, 6, 7, 8, 9, 10, 11, 12], [0, 1, 2, 3, 4, 5, 6, 7, 8, 9, 10, 11, 12, 13, 14]], [0, 1, 2, 4, 6, 9, 11, 12, 13, 14], [(3, []), (5, [94]), (7, []), (8, [96, 98])], [91, 92, 93, 94, 95, 96, 97, 98, 99, 100, 90, 102, 103, 18], [0, 1, 2, 3, 4, 5, 6, 7, 8, 9, 10, 11, 12, 13, 14, 15], [([92, 93, 94, 95, 96, 97, 98, 99, 100], [92, 93, 94, 95, 96, 94, 97, 98, 99, 96, 98, 100], true), ([91, 93, 94, 95, 96, 97, 98, 99, 100], [91, 93, 94, 95, 96, 94, 97, 98, 99, 96, 98, 100], true), ([91, 92, 94, 95, 96, 97, 98, 99], [91, 92, 94, 95, 96, 94, 97, 98, 99, 96, 98], true), ([91, 92, 93, 95, 97, 98], [91, 92, 93, 95, 97, 98], true), ([91, 92, 93, 94, 97, 98], [91, 92, 93, 94, 97, 98], true), ([91, 92, 93, 97, 98], [91, 92, 93, 97, 98], true), ([91, 92, 93, 94, 95, 96], [91, 92, 93, 94, 95, 96, 94], true), ([91, 92, 93, 94, 95, 96], [91, 92, 93, 94, 95, 96, 94], true), ([91, 92, 93], [91, 92, 93], false), ([91, 92], [91, 92], false), ([], [], false), ([], [], false), ([103], [103], false), ([102, 18], [102, 18], false), ([103], [103], false), ([], [], false)]⟩ (by kernel_rfl) ?_
  refine go3 ?_
  refine WD.gen [(94, .ow 53 2 0 [])] rfl rfl rfl rfl rfl (WO.build0 rfl rfl rfl (WO.nil (WK.mk' (.cons _ (.nil _))))) rfl rfl rfl ⟨rfl, trivial⟩ rfl rfl (.cons _ (.nil _)) ?_
  refine go3 ?_
  refine WD.gen [(96, .ow 53 2 1 (encL tm [⟨1, m⟩])), (94, .dead)] rfl rfl rfl rfl rfl (WO.apI rfl rfl rfl rfl rfl rfl rfl (by unfold maxLen; omega) (by omega) rfl (WO.nil (WK.mk' (.cons _ (.cons _ (.nil _)))))) rfl rfl rfl ⟨rfl, trivial⟩ rfl rfl (.cons _ (.cons _ (.nil _))) ?_
  refine go3 ?_
  refine WD.q rfl rfl rfl rfl rfl (QE.bld (cs := tm ⟨4, 0⟩) rfl) rfl rfl rfl ?_
  refine go3 ?_
  refine WD.gen [(98, .ow 53 2 1 (encL tm [⟨4, 0⟩]))] rfl rfl rfl rfl rfl (WO.bsA (us := [.ag (tm ⟨4, 0⟩)]) (cs := encL tm [⟨4, 0⟩]) rfl rfl rfl rfl rfl (by kernel_rfl) rfl (WO.nil (WK.mk' (.cons _ (.nil _))))) rfl rfl rfl ⟨rfl, trivial⟩ rfl rfl (.cons _ (.nil _)) ?_
  refine go3 ?_
  refine WD.gen [(99, .ow 53 2 2 (encL tm ([⟨1, m⟩] ++ [⟨4, 0⟩]))), (98, .dead), (96, .dead)] rfl rfl rfl rfl rfl (WO.apM rfl rfl rfl rfl rfl rfl rfl rfl rfl (by unfold maxLen; omega) (by omega) rfl (WO.nil (WK.mk' (.cons _ (.cons _ (.cons _ (.nil _))))))) rfl rfl rfl ⟨rfl, trivial⟩ rfl rfl (.cons _ (.cons _ (.cons _ (.nil _)))) ?_
  refine go3 ?_
  first | refine WD.q rfl rfl rfl rfl rfl (QE.callF (.cons (.plain _ rfl) (.cons (.plain _ rfl) (.cons (frz1 rfl rfl) .nil))) (two 5 [⟨1, m⟩] ([⟨1, m⟩] ++ [⟨4, 0⟩]) (by simp) (by simp)) (show noIm (.ow _ _ _ (encL tm _)) = true from noIm_tm _)) rfl rfl rfl ?_ | refine WO.callF rfl (.cons (.plain _ rfl) (.cons (.plain _ rfl) (.cons (frz1 rfl rfl) .nil))) (two 5 [⟨1, m⟩] ([⟨1, m⟩] ++ [⟨4, 0⟩]) (by simp) (by simp)) (show noIm (.ow _ _ _ (encL tm _)) = true from noIm_tm _) rfl rfl ?_
  refine go3 ?_
  refine WO.callF rfl (.ag (FrzL.plains rfl) (.ag (FrzL.plains rfl) (.cons (frz1 rfl rfl) .nil))) (valueE hp hv v54 x54.l (by simp) x54.p) rfl rfl rfl ?_
  refine go3 ?_
  obtain ⟨a, hea⟩ : ∃ a : List Tm, a = [⟨1, m⟩] := ⟨_, rfl⟩
  obtain ⟨b, heb⟩ : ∃ b : List Tm, b = [⟨1, n⟩] := ⟨_, rfl⟩
  refine WC.keep (e' := [(4, .op (prR p)), (5, .op (enR v)), (6, .im a.length (encL tm a)), (7, .im b.length (encL tm b)), (8, i64 A), (10, i64 B), (12, i64 A), (14, i64 A), (16, i64 A), (18, i64 0)]) (.cons rfl (.cons rfl (.cons (by subst hea; rfl) (.cons (by subst heb; rfl) (.cons rfl (.cons rfl (.cons rfl (.cons rfl (.cons rfl (.cons rfl .nil)))))))))) ?_
  have hal : a.length = 1 := by rw [hea]; rfl
  have hbl : b.length = 1 := by rw [heb]; rfl
  rw [← hea] at va xa
  rw [← heb] at vb xb
  obtain ⟨e8, he8, x8, c8⟩ := mk2 (X := X) 8 xa xb (by omega) (by decide) (by decide)
  have hl8 : e8.length = 3 := by rw [he8]; simp; omega
  obtain ⟨e7, he7, x7, c7⟩ := mk2 (X := X) 7 x8 xb (by omega) (by decide) (by decide)
  have hl7 : e7.length = 5 := by rw [he7]; simp; omega
  obtain ⟨e9, he9, x9, c9⟩ := mk2 (X := X) 9 xa xb (by omega) (by decide) (by decide)
  have hl9 : e9.length = 3 := by rw [he9]; simp; omega
  obtain ⟨ew, hew, xw, cw⟩ := mk2 (X := X) 5 x7 x9 (by omega) (by decide) (by decide)
  have hlw : ew.length = 9 := by rw [hew]; simp; omega
  obtain ⟨e10, he10, x10, c10⟩ := mk2 (X := X) 10 xa xb (by omega) (by decide) (by decide)
  have hl10 : e10.length = 3 := by rw [he10]; simp; omega
  obtain ⟨e11, he11, x11, c11⟩ := mk2 (X := X) 11 xa xb (by omega) (by decide) (by decide)
  have hl11 : e11.length = 3 := by rw [he11]; simp; omega
  obtain ⟨em, hem, xm, cm⟩ := mk2 (X := X) 5 x10 x11 (by omega) (by decide) (by decide)
  have hlm : em.length = 7 := by rw [hem]; simp; omega
  obtain ⟨ep, hep, xp, cp⟩ := mk2 (X := X) 5 xa xb (by omega) (by decide) (by decide)
  have hlp : ep.length = 3 := by rw [hep]; simp; omega
  obtain ⟨W, c, vw, hW⟩ : ∃ W c, rk p.w v ew [] = (W, c) ∧ (if B = 0 then W = 0 ∧ c = 1 else W = A ∧ c = 0) := by
    rw [hew, he7, he8, he9]
    by_cases hz : B = 0
    · subst hz
      refine ⟨0, 1, ?_, by simp⟩
      have := Evals.div0 8 va vb (.inl rfl) (b ++ [⟨7, 0⟩] ++ (a ++ b ++ [⟨9, 0⟩]) ++ [⟨5, 0⟩]) []
      simpa only [List.append_assoc] using this
    · have := (Evals.two 5 (Evals.two 7 (Evals.two 8 va vb (by decide) (by decide) (fun _ => hz)) vb (by decide) (by decide) (by omega)) (Evals.two 9 va vb (by decide) (by decide) (fun _ => hz)) (by decide) (by decide) (by omega)).rk
      rw [s5 hz] at this
      exact ⟨A, 0, this, by simp [hz]⟩
  have vm : rk p.w v em [] = (jn p.w 5 A B, 0) := by
    rw [hem, he10, he11, ← s6]
    exact (Evals.two 5 (Evals.two 10 va vb (by decide) (by decide) (by omega)) (Evals.two 11 va vb (by decide) (by decide) (by omega)) (by decide) (by decide) (by omega)).rk
  have vp : rk p.w v ep [] = (jn p.w 5 A B, 0) := by
    rw [hep]
    exact (Evals.two 5 va vb (by decide) (by decide) (by omega)).rk
  refine WC.regionDd ⟨[[], [], [], [], [2, 3], [], [2, 3, 4, 5], [], [], [2, 3, 4, 5, 6, 7, 8], [2, 3, 4, 5, 6, 7, 8, 9], [0, 1, 2, 3, 4, 5, 6, 7, 8, 9, 10], [0, 1, 2, 3, 4, 5, 6, 7, 8, 9, 10, 11], [0, 1, 2, 3, 4, 5, 6, 7, 8, 9, 10, 11, 12], [0, 1, 2, 3, 4, 5, 6, 7, 8, 9, 10, 11, 12], [0, 1, 2, 3, 4, 5, 6, 7, 8, 9, 10, 11, 12, 13], [0, 1, 2, 3, 4, 5, 6, 7, 8, 9, 10, 11, 12, 13, 14, 15]], [0, 1, 2, 3, 4, 5, 6, 7, 8, 9, 10, 12, 13, 14, 15], [], [105, 106, 107, 108, 109, 110, 111, 112, 113, 114, 115, 104, 117, 118, 20], [0, 1, 2, 3, 4, 5, 6, 7, 8, 9, 10, 11, 12, 13, 14, 15, 16], [([106, 107, 108, 109, 110, 111, 112, 113, 114, 115], [106, 107, 108, 109, 110, 111, 112, 113, 114, 115], false), ([105, 107, 108, 109, 110, 111, 112, 113, 114, 115], [105, 107, 108, 109, 110, 111, 112, 113, 114, 115], false), ([105, 106, 108, 110, 112, 113], [105, 106, 108, 110, 112, 113], false), ([105, 106, 107, 110, 112, 113], [105, 106, 107, 110, 112, 113], false), ([105, 106, 110, 112, 113], [105, 106, 110, 112, 113], false), ([105, 106, 107, 108, 109, 112, 113], [105, 106, 107, 108, 109, 112, 113], false), ([105, 106, 112, 113], [105, 106, 112, 113], false), ([105, 106, 107, 108, 109, 110, 111, 113], [105, 106, 107, 108, 109, 110, 111, 113], false), ([105, 106, 107, 108, 109, 110, 111, 112], [105, 106, 107, 108, 109, 110, 111, 112], false), ([105, 106], [105, 106], false), ([105, 106], [105, 106], false), ([], [], false), ([], [], false), ([118], [118], false), ([117, 20], [117, 20], false), ([118], [118], false), ([], [], false)]⟩ (by kernel_rfl) ?_
  refine go3 ?_
  first | refine WD.q rfl rfl rfl rfl rfl (QE.callF (.cons (.plain _ rfl) (.cons (.plain _ rfl) (.cons (.plain _ rfl) .nil))) c8 (show noIm (.ow _ _ _ (encL tm _)) = true from noIm_tm _)) rfl rfl rfl ?_ | refine WO.callF rfl (.cons (.plain _ rfl) (.cons (.plain _ rfl) (.cons (.plain _ rfl) .nil))) c8 (show noIm (.ow _ _ _ (encL tm _)) = true from noIm_tm _) rfl rfl ?_
  refine go3 ?_
  first | refine WD.q rfl rfl rfl rfl rfl (QE.callF (.cons (.plain _ rfl) (.cons (frz1 rfl rfl) (.cons (.plain _ rfl) .nil))) c7 (show noIm (.ow _ _ _ (encL tm _)) = true from noIm_tm _)) rfl rfl rfl ?_ | refine WO.callF rfl (.cons (.plain _ rfl) (.cons (frz1 rfl rfl) (.cons (.plain _ rfl) .nil))) c7 (show noIm (.ow _ _ _ (encL tm _)) = true from noIm_tm _) rfl rfl ?_
  refine go3 ?_
  first | refine WD.q rfl rfl rfl rfl rfl (QE.callF (.cons (.plain _ rfl) (.cons (.plain _ rfl) (.cons (.plain _ rfl) .nil))) c9 (show noIm (.ow _ _ _ (encL tm _)) = true from noIm_tm _)) rfl rfl rfl ?_ | refine WO.callF rfl (.cons (.plain _ rfl) (.cons (.plain _ rfl) (.cons (.plain _ rfl) .nil))) c9 (show noIm (.ow _ _ _ (encL tm _)) = true from noIm_tm _) rfl rfl ?_
  refine go3 ?_
  first | refine WD.q rfl rfl rfl rfl rfl (QE.callF (.cons (.plain _ rfl) (.cons (frz1 rfl rfl) (.cons (frz1 rfl rfl) .nil))) cw (show noIm (.ow _ _ _ (encL tm _)) = true from noIm_tm _)) rfl rfl rfl ?_ | refine WO.callF rfl (.cons (.plain _ rfl) (.cons (frz1 rfl rfl) (.cons (frz1 rfl rfl) .nil))) cw (show noIm (.ow _ _ _ (encL tm _)) = true from noIm_tm _) rfl rfl ?_
  refine go3 ?_
  refine WO.callF rfl (.ag (FrzL.plains rfl) (.ag (FrzL.plains rfl) (.cons (frz1 rfl rfl) .nil))) (valueE hp hv vw xw.l (by have := xw.n; omega) xw.p) rfl rfl rfl ?_
  refine go3 ?_
  refine WC.keep (e' := [(4, .op (prR p)), (5, .op (enR v)), (6, .im a.length (encL tm a)), (7, .im b.length (encL tm b)), (8, i64 A), (10, i64 B), (12, i64 A), (14, i64 A), (16, i64 A), (18, i64 0), (20, i64 W), (21, i64 c)]) (.cons rfl (.cons rfl (.cons rfl (.cons rfl (.cons rfl (.cons rfl (.cons rfl (.cons rfl (.cons rfl (.cons rfl (.cons rfl (.cons rfl .nil)))))))))))) ?_
  generalize jn p.w 5 A B = S at *
  refine WC.regionDd ⟨[[], [], [], [], [2, 3], [], [], [2, 3, 4, 5, 6], [2, 3, 4, 5, 6, 7], [0, 1, 2, 3, 4, 5, 6, 7, 8], [0, 1, 2, 3, 4, 5, 6, 7, 8, 9], [0, 1, 2, 3, 4, 5, 6, 7, 8, 9, 10], [0, 1, 2, 3, 4, 5, 6, 7, 8, 9, 10], [0, 1, 2, 3, 4, 5, 6, 7, 8, 9, 10, 11], [0, 1, 2, 3, 4, 5, 6, 7, 8, 9, 10, 11, 12, 13]], [0, 1, 2, 3, 4, 5, 6, 7, 8, 10, 11, 12, 13], [], [120, 121, 122, 123, 124, 125, 126, 127, 128, 119, 130, 131, 22], [0, 1, 2, 3, 4, 5, 6, 7, 8, 9, 10, 11, 12, 13, 14], [([121, 122, 123, 124, 125, 126, 127, 128], [121, 122, 123, 124, 125, 126, 127, 128], false), ([120, 122, 123, 124, 125, 126, 127, 128], [120, 122, 123, 124, 125, 126, 127, 128], false), ([120, 121, 123, 125, 126], [120, 121, 123, 125, 126], false), ([120, 121, 122, 125, 126], [120, 121, 122, 125, 126], false), ([120, 121, 125, 126], [120, 121, 125, 126], false), ([120, 121, 122, 123, 124, 126], [120, 121, 122, 123, 124, 126], false), ([120, 121, 122, 123, 124, 125], [120, 121, 122, 123, 124, 125], false), ([120, 121], [120, 121], false), ([120, 121], [120, 121], false), ([], [], false), ([], [], false), ([131], [131], false), ([130, 22], [130, 22], false), ([131], [131], false), ([], [], false)]⟩ (by kernel_rfl) ?_
  refine go3 ?_
  first | refine WD.q rfl rfl rfl rfl rfl (QE.callF (.cons (.plain _ rfl) (.cons (.plain _ rfl) (.cons (.plain _ rfl) .nil))) c10 (show noIm (.ow _ _ _ (encL tm _)) = true from noIm_tm _)) rfl rfl rfl ?_ | refine WO.callF rfl (.cons (.plain _ rfl) (.cons (.plain _ rfl) (.cons (.plain _ rfl) .nil))) c10 (show noIm (.ow _ _ _ (encL tm _)) = true from noIm_tm _) rfl rfl ?_
  refine go3 ?_
  first | refine WD.q rfl rfl rfl rfl rfl (QE.callF (.cons (.plain _ rfl) (.cons (.plain _ rfl) (.cons (.plain _ rfl) .nil))) c11 (show noIm (.ow _ _ _ (encL tm _)) = true from noIm_tm _)) rfl rfl rfl ?_ | refine WO.callF rfl (.cons (.plain _ rfl) (.cons (.plain _ rfl) (.cons (.plain _ rfl) .nil))) c11 (show noIm (.ow _ _ _ (encL tm _)) = true from noIm_tm _) rfl rfl ?_
  refine go3 ?_
  first | refine WD.q rfl rfl rfl rfl rfl (QE.callF (.cons (.plain _ rfl) (.cons (frz1 rfl rfl) (.cons (frz1 rfl rfl) .nil))) cm (show noIm (.ow _ _ _ (encL tm _)) = true from noIm_tm _)) rfl rfl rfl ?_ | refine WO.callF rfl (.cons (.plain _ rfl) (.cons (frz1 rfl rfl) (.cons (frz1 rfl rfl) .nil))) cm (show noIm (.ow _ _ _ (encL tm _)) = true from noIm_tm _) rfl rfl ?_
  refine go3 ?_
  refine WO.callF rfl (.ag (FrzL.plains rfl) (.ag (FrzL.plains rfl) (.cons (frz1 rfl rfl) .nil))) (valueE hp hv vm xm.l (by have := xm.n; omega) xm.p) rfl rfl rfl ?_
  refine go3 ?_
  refine WC.keep (e' := [(4, .op (prR p)), (5, .op (enR v)), (6, .im a.length (encL tm a)), (7, .im b.length (encL tm b)), (8, i64 A), (10, i64 B), (12, i64 A), (14, i64 A), (16, i64 A), (18, i64 0), (20, i64 W), (21, i64 c), (22, i64 S)]) (.cons rfl (.cons rfl (.cons rfl (.cons rfl (.cons rfl (.cons rfl (.cons rfl (.cons rfl (.cons rfl (.cons rfl (.cons rfl (.cons rfl (.cons rfl .nil))))))))))))) ?_
  refine WC.regionDd ⟨[[], [], [], [], [2, 3], [0, 1, 2, 3, 4], [0, 1, 2, 3, 4, 5], [0, 1, 2, 3, 4, 5, 6], [0, 1, 2, 3, 4, 5, 6], [0, 1, 2, 3, 4, 5, 6, 7], [0, 1, 2, 3, 4, 5, 6, 7, 8, 9]], [0, 1, 2, 3, 4, 6, 7, 8, 9], [], [133, 134, 135, 136, 137, 132, 139, 140, 24], [0, 1, 2, 3, 4, 5, 6, 7, 8, 9, 10], [([134, 135, 136, 137], [134, 135, 136, 137], false), ([133, 135, 136, 137], [133, 135, 136, 137], false), ([133, 134, 136], [133, 134, 136], false), ([133, 134, 135], [133, 134, 135], false), ([133, 134], [133, 134], false), ([], [], false), ([], [], false), ([140], [140], false), ([139, 24], [139, 24], false), ([140], [140], false), ([], [], false)]⟩ (by kernel_rfl) ?_
  refine go3 ?_
  first | refine WD.q rfl rfl rfl rfl rfl (QE.callF (.cons (.plain _ rfl) (.cons (.plain _ rfl) (.cons (.plain _ rfl) .nil))) cp (show noIm (.ow _ _ _ (encL tm _)) = true from noIm_tm _)) rfl rfl rfl ?_ | refine WO.callF rfl (.cons (.plain _ rfl) (.cons (.plain _ rfl) (.cons (.plain _ rfl) .nil))) cp (show noIm (.ow _ _ _ (encL tm _)) = true from noIm_tm _) rfl rfl ?_
  refine go3 ?_
  refine WO.callF rfl (.ag (FrzL.plains rfl) (.ag (FrzL.plains rfl) (.cons (frz1 rfl rfl) .nil))) (valueE hp hv vp xp.l (by have := xp.n; omega) xp.p) rfl rfl rfl ?_
  refine go3 ?_
  refine WC.keep (e' := [(4, .op (prR p)), (5, .op (enR v)), (6, .im 1 (encL tm [⟨1, m⟩])), (7, .im 1 (encL tm [⟨1, n⟩])), (8, i64 A), (10, i64 B), (12, i64 A), (14, i64 A), (16, i64 A), (18, i64 0), (20, i64 W), (21, i64 c), (22, i64 S), (24, i64 S)]) (.cons rfl (.cons rfl (.cons (by subst hea; rfl) (.cons (by subst heb; rfl) (.cons rfl (.cons rfl (.cons rfl (.cons rfl (.cons rfl (.cons rfl (.cons rfl (.cons rfl (.cons rfl (.cons rfl .nil)))))))))))))) ?_
  clear c8 c7 c9 cw c10 c11 cm cp x8 x7 x9 xw x10 x11 xm xp vw vm vp s1 s2 s3 s4 s5 s6 hew he7 he8 he9 he10 he11 hem hep
  refine WC.regionDd ⟨[[], [], [1], [], [3], [3, 4], [3, 4, 5], [1, 2, 3, 4, 5, 6], [1, 2, 3, 4, 5, 6, 7], [0, 1, 2, 3, 4, 5, 6, 7, 8], [0, 1, 2, 3, 4, 5, 6, 7, 8, 9], [0, 1, 2, 3, 4, 5, 6, 7, 8, 9, 10], [0, 1, 2, 3, 4, 5, 6, 7, 8, 9, 10], [0, 1, 2, 3, 4, 5, 6, 7, 8, 9, 10, 12], [0, 1, 2, 3, 4, 5, 6, 7, 8, 9, 10], [0, 1, 2, 3, 4, 5, 6, 7, 8, 9, 10, 14], [0, 1, 2, 3, 4, 5, 6, 7, 8, 9, 10, 14, 15], [0, 1, 2, 3, 4, 5, 6, 7, 8, 9, 10, 14, 15, 16], [0, 1, 2, 3, 4, 5, 6, 7, 8, 9, 10, 12, 13, 14, 15, 16, 17], [0, 1, 2, 3, 4, 5, 6, 7, 8, 9, 10, 12, 13, 14, 15, 16, 17, 18], [0, 1, 2, 3, 4, 5, 6, 7, 8, 9, 10, 11, 12, 13, 14, 15, 16, 17, 18, 19], [0, 1, 2, 3, 4, 5, 6, 7, 8, 9, 10, 11, 12, 13, 14, 15, 16, 17, 18, 19, 20], [0, 1, 2, 3, 4, 5, 6, 7, 8, 9, 10, 11, 12, 13, 14, 15, 16, 17, 18, 19, 20, 21], [0, 1, 2, 3, 4, 5, 6, 7, 8, 9, 10, 11, 12, 13, 14, 15, 16, 17, 18, 19, 20, 21, 22], [0, 1, 2, 3, 4, 5, 6, 7, 8, 9, 10, 11, 12, 13, 14, 15, 16, 17, 18, 19, 20, 21, 22], [0, 1, 2, 3, 4, 5, 6, 7, 8, 9, 10, 11, 12, 13, 14, 15, 16, 17, 18, 19, 20, 21, 22, 23, 24], [0, 1, 2, 3, 4, 5, 6, 7, 8, 9, 10, 11, 12, 13, 14, 15, 16, 17, 18, 19, 20, 21, 22, 23, 24, 25], [0, 1, 2, 3, 4, 5, 6, 7, 8, 9, 10, 11, 12, 13, 14, 15, 16, 17, 18, 19, 20, 21, 22, 23, 24, 25, 26], [0, 1, 2, 3, 4, 5, 6, 7, 8, 9, 10, 11, 12, 13, 14, 15, 16, 17, 18, 19, 20, 21, 22, 23, 24, 25, 26, 27], [0, 1, 2, 3, 4, 5, 6, 7, 8, 9, 10, 11, 12, 13, 14, 15, 16, 17, 18, 19, 20, 21, 22, 23, 24, 25, 26, 27], [0, 1, 2, 3, 4, 5, 6, 7, 8, 9, 10, 11, 12, 13, 14, 15, 16, 17, 18, 19, 20, 21, 22, 23, 24, 25, 26, 27, 28, 29], [0, 1, 2, 3, 4, 5, 6, 7, 8, 9, 10, 11, 12, 13, 14, 15, 16, 17, 18, 19, 20, 21, 22, 23, 24, 25, 26, 27, 28, 29, 30], [0, 1, 2, 3, 4, 5, 6, 7, 8, 9, 10, 11, 12, 13, 14, 15, 16, 17, 18, 19, 20, 21, 22, 23, 24, 25, 26, 27, 28, 29, 30, 31], [0, 1, 2, 3, 4, 5, 6, 7, 8, 9, 10, 11, 12, 13, 14, 15, 16, 17, 18, 19, 20, 21, 22, 23, 24, 25, 26, 27, 28, 29, 30, 31, 32], [0, 1, 2, 3, 4, 5, 6, 7, 8, 9, 10, 11, 12, 13, 14, 15, 16, 17, 18, 19, 20, 21, 22, 23, 24, 25, 26, 27, 28, 29, 30, 31, 32], [0, 1, 2, 3, 4, 5, 6, 7, 8, 9, 10, 11, 12, 13, 14, 15, 16, 17, 18, 19, 20, 21, 22, 23, 24, 25, 26, 27, 28, 29, 30, 31, 32, 33, 34], [0, 1, 2, 3, 4, 5, 6, 7, 8, 9, 10, 11, 12, 13, 14, 15, 16, 17, 18, 19, 20, 21, 22, 23, 24, 25, 26, 27, 28, 29, 30, 31, 32, 33, 34, 35], [0, 1, 2, 3, 4, 5, 6, 7, 8, 9, 10, 11, 12, 13, 14, 15, 16, 17, 18, 19, 20, 21, 22, 23, 24, 25, 26, 27, 28, 29, 30, 31, 32, 33, 34, 35, 36], [0, 1, 2, 3, 4, 5, 6, 7, 8, 9, 10, 11, 12, 13, 14, 15, 16, 17, 18, 19, 20, 21, 22, 23, 24, 25, 26, 27, 28, 29, 30, 31, 32, 33, 34, 35, 36, 37], [0, 1, 2, 3, 4, 5, 6, 7, 8, 9, 10, 11, 12, 13, 14, 15, 16, 17, 18, 19, 20, 21, 22, 23, 24, 25, 26, 27, 28, 29, 30, 31, 32, 33, 34, 35, 36, 37, 38], [0, 1, 2, 3, 4, 5, 6, 7, 8, 9, 10, 11, 12, 13, 14, 15, 16, 17, 18, 19, 20, 21, 22, 23, 24, 25, 26, 27, 28, 29, 30, 31, 32, 33, 34, 35, 36, 37, 38, 39], [0, 1, 2, 3, 4, 5, 6, 7, 8, 9, 10, 11, 12, 13, 14, 15, 16, 17, 18, 19, 20, 21, 22, 23, 24, 25, 26, 27, 28, 29, 30, 31, 32, 33, 34, 35, 36, 37, 38, 39, 40], [0, 1, 2, 3, 4, 5, 6, 7, 8, 9, 10, 11, 12, 13, 14, 15, 16, 17, 18, 19, 20, 21, 22, 23, 24, 25, 26, 27, 28, 29, 30, 31, 32, 33, 34, 35, 36, 37, 38, 39, 40, 41], [0, 1, 2, 3, 4, 5, 6, 7, 8, 9, 10, 11, 12, 13, 14, 15, 16, 17, 18, 19, 20, 21, 22, 23, 24, 25, 26, 27, 28, 29, 30, 31, 32, 33, 34, 35, 36, 37, 38, 39, 40, 41], [0, 1, 2, 3, 4, 5, 6, 7, 8, 9, 10, 11, 12, 13, 14, 15, 16, 17, 18, 19, 20, 21, 22, 23, 24, 25, 26, 27, 28, 29, 30, 31, 32, 33, 34, 35, 36, 37, 38, 39, 40, 41, 42, 43], [0, 1, 2, 3, 4, 5, 6, 7, 8, 9, 10, 11, 12, 13, 14, 15, 16, 17, 18, 19, 20, 21, 22, 23, 24, 25, 26, 27, 28, 29, 30, 31, 32, 33, 34, 35, 36, 37, 38, 39, 40, 41, 42, 43, 44]], [0, 1, 2, 3, 4, 5, 6, 7, 8, 9, 10, 11, 12, 13, 14, 15, 16, 17, 18, 19, 20, 21, 22, 23, 24, 25, 26, 27, 28, 29, 30, 31, 32, 33, 34, 35, 36, 37, 38, 39, 40, 41, 42, 43, 44, 45], [], [141, 142, 143, 144, 145, 146, 147, 148, 149, 150, 151, 152, 153, 154, 155, 156, 157, 158, 159, 160, 161, 162, 163, 164, 165, 166, 167, 168, 169, 170, 171, 172, 173, 174, 175, 176, 177, 178, 179, 180, 181, 182, 183, 184, 185, 186], [0, 1, 2, 3, 4, 5, 6, 7, 8, 9, 10, 11, 12, 13, 14, 15, 16, 17, 18, 19, 20, 21, 22, 23, 24, 25, 26, 27, 28, 29, 30, 31, 32, 33, 34, 35, 36, 37, 38, 39, 40, 41, 42, 43, 44, 45], [([142, 143, 144, 145, 146, 147, 148, 149], [142, 143, 144, 145, 146, 147, 148, 149], false), ([141, 144, 145, 146, 147], [141, 144, 145, 146, 147], false), ([141, 144, 145, 146, 147], [141, 144, 145, 146, 147], false), ([141, 142, 143], [141, 142, 143], false), ([141, 142, 143], [141, 142, 143], false), ([141, 142, 143], [141, 142, 143], false), ([141, 142, 143], [141, 142, 143], false), ([141], [141], false), ([141], [141], false), ([], [], false), ([], [], false), ([153, 154, 155, 156, 157, 158, 159, 160], [153, 154, 155, 156, 157, 158, 159, 160], false), ([152, 155, 156, 157, 158], [152, 155, 156, 157, 158], false), ([152, 155, 156, 157, 158], [152, 155, 156, 157, 158], false), ([152, 153, 154], [152, 153, 154], false), ([152, 153, 154], [152, 153, 154], false), ([152, 153, 154], [152, 153, 154], false), ([152, 153, 154], [152, 153, 154], false), ([152], [152], false), ([152], [152], false), ([], [], false), ([], [], false), ([], [], false), ([165], [165], false), ([164], [164], false), ([], [], false), ([], [], false), ([], [], false), ([170], [170], false), ([169], [169], false), ([], [], false), ([], [], false), ([], [], false), ([175], [175], false), ([174], [174], false), ([], [], false), ([], [], false), ([], [], false), ([], [], false), ([], [], false), ([], [], false), ([], [], false), ([184], [184], false), ([183], [183], false), ([], [], false), ([], [], false)]⟩ (by kernel_rfl) ?_
  refine go3 ?_
  refine WD.q rfl rfl rfl rfl rfl (QE.ixN (f := tm) (i := 0) (xs := [⟨1, m⟩]) ⟨0, 0⟩ rfl rfl (by simp)) rfl rfl rfl ?_
  refine go3 ?_
  refine WD.q rfl rfl rfl rfl rfl (QE.ixI (f := eI) (i := m) 0 rfl rfl m0 hml) rfl rfl rfl ?_
  rw [hA]
  refine go3 ?_
  refine WD.q rfl rfl rfl rfl rfl (QE.ixN (f := tm) (i := 0) (xs := [⟨1, n⟩]) ⟨0, 0⟩ rfl rfl (by simp)) rfl rfl rfl ?_
  refine go3 ?_
  refine WD.q rfl rfl rfl rfl rfl (QE.ixI (f := eI) (i := n) 0 rfl rfl n0 hnl) rfl rfl rfl ?_
  rw [hB']
  refine go3 ?_
  by_cases hz : B = 0
  · rw [if_pos hz] at hW
    obtain ⟨hW1, hW2⟩ := hW
    refine go3 ?_
    exact retV rfl rfl rfl rfl
  · rw [if_neg hz] at hW
    obtain ⟨hW1, hW2⟩ := hW
    refine go3 ?_
    exact retV rfl rfl rfl rfl
theorem fnSumsW (bs : List Int) (h : bs.length ≤ 9223372036854775807 ∧ ∀ b ∈ bs, (Lit.int .u8 b).wf = true) : Ev Try.prog X (.fn 5 [.im bs.length (encL eU8 bs)] (bl true) [.dead]) := fnSums bs (wf_u8 h)
end Go.Eng.C

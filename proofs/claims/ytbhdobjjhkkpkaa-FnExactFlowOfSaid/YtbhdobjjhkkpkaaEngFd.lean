/- Contracts of functions, by the engine: FlowOf and IsQuiet, of the program. -/
import Derived.Test.YtbhdobjjhkkpkaaEngFc
import Derived.Test.YtbhdobjjhkkpkaaEngXm
namespace Go.Eng
open Go Go.RowKit
section
variable {P : Program} {X : FuncId → List AV → AV → List AV → Prop} {env : Env} {g : Option (Nat × Bool)} {d : Nat} {ty : TypeId} {pos : String} {af : Array Edge}
/-- A field that is no struct. -/
def fdT (P : Program) (s : TypeId) (f : Nat) : Option Nat :=
  match P.underlying s with
  | some (.struct fs) => (fs[f]?).bind fun fd => match aggT P fd.type with
    | some false => some fd.offset
    | _ => none
  | _ => none
theorem QE.fd {x : Operand} {tx f off : Nat} {cs : List AV} {c : AV} (hT : fdT P tx f = some off) (hx : ov (look env) x = .ag cs) (hc : cs[off]? = some c) : Ev P X (.qe ⟨some d, .field tx x f, ty, pos, af, g⟩ (look env) c) := by
  unfold fdT at hT
  split at hT
  · rename_i fs hu
    cases hf : fs[f]? with
    | none => rw [hf] at hT; cases hT
    | some fd =>
      rw [hf] at hT
      simp only [Option.bind_some] at hT
      split at hT
      · rename_i ha
        cases hT
        exact .qo (.field1 tx x f cs c fs fd hu hf ha hx hc)
      · cases hT
  · cases hT
theorem qe_shl {x y : Operand} {tx ty2 : TypeId} {k k' : IntKind} {a b c : Int} (hx : ov (look env) x = .sc (.int k a)) (hy : ov (look env) y = .sc (.int k' b)) (h0 : 0 ≤ b) (hc : k.wrap (a * 2 ^ (min b.toNat k.bits)) = c) : Ev P X (.qe ⟨some d, .binOp .shl tx x y ty2, ty, pos, af, g⟩ (look env) (.sc (.int k c))) :=
  .qo (qo_shl hx hy h0 hc)
theorem QE.alloc {e by_ : Nat} {z : Value} {cs : List AV} [hZ : ZrT P e by_ z cs] : Ev P X (.qe ⟨some d, .alloc e, ty, pos, af, g⟩ (look env) (.op cs)) := by
  have h := QO.alloc (P := P) (σ := look env) e z hZ.hz hZ.h1
  rw [hZ.hc] at h
  exact .qo h
end
end Go.Eng
namespace Go.Eng.C
open Go Go.Eng Go.RowKit Go.Proofs
set_option linter.unusedVariables false
set_option linter.unusedSimpArgs false
set_option maxRecDepth 10000
variable {X : FuncId → List AV → AV → List AV → Prop}
/-- What a flow begins with. -/
def iniL (nl : Nat) : Nat → List Int → List Int
  | 0, l => l
  | k + 1, l => (iniL nl k l).set (nl + k) (2 ^ k)
theorem iniL_len (nl : Nat) : ∀ (k : Nat) (l : List Int), (iniL nl k l).length = l.length
  | 0, l => rfl
  | k + 1, l => by simp only [iniL, List.length_set, iniL_len nl k]
theorem iniL_8 (nl : Nat) : ∀ (k : Nat) (l : List Int), k ≤ 3 → (∀ x ∈ l, L8 x) → ∀ x ∈ iniL nl k l, L8 x
  | 0, l, _, h => h
  | k + 1, l, hk, h => by
    intro x hx
    simp only [iniL] at hx
    rcases List.mem_or_eq_of_mem_set hx with h1 | h1
    · exact iniL_8 nl k l (by omega) h x h1
    · subst h1
      have : k = 0 ∨ k = 1 ∨ k = 2 := by omega
      unfold L8
      rcases this with h | h | h <;> subst h <;> decide
def iniF (p : Pr) : Fl := ⟨iniL p.lows.length p.secs.length (List.replicate (varsN p).toNat 0), List.replicate p.arrs.length 0, 0, 0⟩
theorem rep_8 (n : Nat) : ∀ x ∈ List.replicate n (0 : Int), L8 x := fun x hx => by rw [List.mem_replicate] at hx; rw [hx.2]; exact L8_0
theorem iniF_ok {p : Pr} (hs : p.secs.length ≤ 3) (hv : 0 ≤ varsN p) : FlOk p (iniF p) ∧ SubF (iniF p) := by
  refine ⟨⟨?_, ?_, iniL_8 _ _ _ hs (rep_8 _), rep_8 _, L8_0, L8_0⟩, (orI_z L8_0).1⟩
  · simp only [iniF, iniL_len, List.length_replicate]; omega
  · simp [iniF]
/-- How often at most. -/
def rndN (p : Pr) : Nat := 3 * ((varsN p).toNat + p.arrs.length + 2) + 1
/-- The flow of a right program. -/
noncomputable def flowN (p : Pr) (r : Ns) : Fl := itR p (glN p.body r []) (rndN p) (iniF p)
theorem flow_same {p : Pr} (hs : p.secs.length ≤ 3) (hv : 0 ≤ varsN p) (r : Ns) {k : Nat} (h : rndL p (glN p.body r []) (itR p (glN p.body r []) k (iniF p)) = itR p (glN p.body r []) k (iniF p)) : itR p (glN p.body r []) k (iniF p) = flowN p r := by
  refine itR_same _ h ?_
  exact itR_end (glN p.body r []) (rndN p) (W := 3 * ((varsN p).toNat + p.arrs.length + 2)) (iniF_ok hs hv).1 (fun g hg => wtF_le hg hv) (by unfold rndN; omega)
theorem glN_ok {x : List St} : ∀ {r : Ns} {k : List Nat}, okN x r → (∀ i ∈ k, i < x.length) → ∀ g ∈ glN x r k, g.1 < x.length ∧ (∀ i ∈ g.2, i < x.length) ∧ g.2.length ≤ k.length + r.sz
  | .nil, k, _, _, g, hg => by simp [glN] at hg
  | .cons a b o r, k, h, hk, g, hg => by
    obtain ⟨h1, h2, h3, h4⟩ := h
    obtain ⟨K, hK⟩ : ∃ K, K = if opA x a = 2 then k ++ [a] else k := ⟨_, rfl⟩
    have hK2 : (∀ i ∈ K, i < x.length) ∧ K.length ≤ k.length + 1 := by
      rw [hK]
      split
      · refine ⟨fun i hi => ?_, by simp⟩
        rcases List.mem_append.1 hi with h | h
        · exact hk i h
        · simp only [List.mem_singleton] at h; subst h; exact h1
      · exact ⟨hk, by omega⟩
    simp only [glN, List.mem_cons, List.mem_append] at hg
    rw [← hK] at hg
    simp only [Ns.sz]
    rcases hg with rfl | hg | hg | hg
    · exact ⟨h1, hk, by dsimp only; omega⟩
    · obtain ⟨g1, g2, g3⟩ := glN_ok h2 hK2.1 g hg; exact ⟨g1, g2, by omega⟩
    · obtain ⟨g1, g2, g3⟩ := glN_ok h3 hK2.1 g hg; exact ⟨g1, g2, by omega⟩
    · obtain ⟨g1, g2, g3⟩ := glN_ok h4 hk g hg; exact ⟨g1, g2, by omega⟩
theorem sh1 {k : Nat} (h : k ≤ 3) : IntKind.i64.wrap (1 * 2 ^ (min ((k : Int).toNat) IntKind.i64.bits)) = 2 ^ k := by
  have : k = 0 ∨ k = 1 ∨ k = 2 ∨ k = 3 := by omega
  rcases this with h | h | h | h <;> subst h <;> decide
theorem setN_f0 (f : Fl) {N : Nat} {x : Int} (h : N < f.vars.length) : setN [0] (AV.op (flO f)) (.ow 2 1 f.vars.length ((encL eI f.vars).set N (i64 x))) = .op (flO ⟨f.vars.set N x, f.arrs, f.esc, f.lk⟩) := by
  have e1 : AV.ow 2 1 f.vars.length ((encL eI f.vars).set N (i64 x)) = ints (f.vars.set N x) := by rw [ints_set h, ints, List.length_set]
  rw [e1]; rfl
theorem whL_flO (f : Fl) : whL (flO f) = true := by simp [flO, whL, whA, encL_len1]
theorem take2 {env : Env} {r1 r2 n1 n2 : Nat} {c1 c2 : List AV} {u v : Value} (h1 : look env r1 = .ow 2 1 n1 c1) (h2 : look env r2 = .ow 2 1 n2 c2) (l1 : c1.length = n1 * 1) (l2 : c2.length = n2 * 1) (hne : Nat.beq r1 r2 = false) : TakeL (look env) [.ag [.vw r1 [] 0 n1, .vw r2 [] 0 n2, .sc u, .sc v]] [.ag [.ow 2 1 n1 c1, .ow 2 1 n2 c2, .sc u, .sc v]] (look ((r2, .dead) :: (r1, .dead) :: env)) := by
  have e1 : setS (look env) r1 [] .dead = look ((r1, .dead) :: env) := by rw [setS_look]; rfl
  have hr2 : look ((r1, .dead) :: env) r2 = .ow 2 1 n2 c2 := by simp only [look, hne, cond_false]; exact h2
  have e2 : setS (look ((r1, .dead) :: env)) r2 [] .dead = look ((r2, .dead) :: (r1, .dead) :: env) := by rw [setS_look]; rfl
  refine TakeF.takeL (.ag (.vw (e := 2) (sz := 1) (cs := c1) (by rw [h1]; rfl) l1 ?_) (.nil _))
  rw [e1]
  refine .vw (e := 2) (sz := 1) (cs := c2) (by rw [hr2]; rfl) l2 ?_
  rw [e2]
  exact .plain rfl (.plain rfl (.nil _))
theorem rndL_take {p : Pr} {L : List (Nat × List Nat)} {j : Nat} (h : j < L.length) (f : Fl) : rndL p (L.take (j + 1)) f = rndF p (rndL p (L.take j) f) (p.body.getD (L.getD j (0, [])).1 zst) ((L.getD j (0, [])).2.map fun i => p.body.getD i zst) := by
  have e : L.getD j (0, []) = L[j] := by simp [List.getD_eq_getElem?_getD, h]
  rw [e, List.take_add_one, List.getElem?_eq_getElem h, rndL_app]; rfl
set_option maxHeartbeats 16000000 in
theorem implFlowOf (p : Pr) (hB : PB p) (hp : PrOk p) {r : Ns} (hr : nodesX p.body = some r) : Ev Try.prog X (.fn 27 [.ag (prR p)] (.ag (flO (flowN p r))) [.dead]) := by
  obtain ⟨r1, r2, r3, r4, r5⟩ := hp.r
  have hl1 : p.lows.length ≤ 3 := hp.i.1
  have hs3 : p.secs.length ≤ 3 := hp.i.2.1
  have hin : insN p = p.lows.length + p.secs.length := by unfold insN; omega
  have hvn : varsN p = p.lows.length + p.secs.length + p.temps := by unfold varsN; omega
  have hv0 : 0 ≤ varsN p := by omega
  obtain ⟨NV, hNV⟩ : ∃ NV : Nat, varsN p = NV := ⟨(varsN p).toNat, by omega⟩
  have hbk := nodesX_bk hr
  have hsz := hbk.sz_le
  have cV := varsOf (X := X) p (by omega) (by omega) (by omega) (by omega)
  rw [hNV] at cV
  have cG := guardedTop (X := X) p r hbk.ok (by omega)
  have hgl := glN_ok (k := []) hbk.ok (fun i hi => by simp at hi)
  have hgn := glN_len p.body r []
  obtain ⟨hi1, hi2⟩ := iniF_ok hs3 hv0
  obtain ⟨res, fin, hN, hG⟩ := nodesOf (X := X) p.body (by omega)
  unfold nodesG at hG
  rw [hr] at hG
  obtain ⟨rfl, rfl⟩ := hG
  have hsame := fun {k : Nat} => flow_same (p := p) hs3 hv0 r (k := k)
  obtain ⟨F, hF⟩ : ∃ F, F = flowN p r := ⟨_, rfl⟩
  rw [← hF] at hsame ⊢
  obtain ⟨L, hL⟩ : ∃ L, L = glN p.body r [] := ⟨_, rfl⟩
  rw [← hL] at cG hgl hgn hsame
  refine Ev.fnW (env := [(0, .ag (prR p))]) Try.func27 rfl nm_impl_FlowOf rfl rfl (by kernel_rfl) (.cons rfl .nil) ?_
  refine go3 ?_
  refine WO.call rfl rfl rfl (implProgOk p hB (r := true) (by simp [hp])) rfl rfl ?_
  refine WO.hard (r := 1) (p := []) (x := .op (prR p)) (y := .ip (prR p)) rfl rfl rfl ?_
  refine go3 ?_
  refine WC.regionDd ⟨[[], [0], [], [2], [2, 3], [2, 3, 4], [0, 1, 2, 3, 4, 5], [], [0, 1, 2, 3, 4, 5, 6, 7]], [0, 1, 2, 3, 4, 5, 6, 7], [], [15, 16, 17, 18, 19, 20, 21, 3], [0, 1, 2, 3, 4, 5, 6, 7, 8], [([17, 18, 19, 20, 3], [17, 18, 19, 20, 3], false), ([17, 18, 19, 20, 3], [17, 18, 19, 20, 3], false), ([15, 16, 3], [15, 16, 3], false), ([15, 16, 3], [15, 16, 3], false), ([15, 16, 3], [15, 16, 3], false), ([15, 16, 3], [15, 16, 3], false), ([3], [3], false), ([15, 16, 17, 18, 19, 20, 21], [15, 16, 17, 18, 19, 20, 21], false), ([], [], false)]⟩ (by kernel_rfl) ?_
  refine WD.q rfl rfl rfl rfl rfl (QE.call rfl rfl cV) rfl rfl rfl ?_
  refine WD.q rfl rfl rfl rfl rfl (QE.mk (f := eI) 0 rfl rfl rfl (by omega) (by unfold maxLen; omega)) rfl rfl rfl ?_
  obtain ⟨Z, hZ⟩ : ∃ Z, Z = List.replicate NV (0 : Int) := ⟨_, rfl⟩
  rw [show AV.ow 2 1 NV (encL eI (List.replicate NV 0)) = ints Z by rw [hZ, ints, List.length_replicate]]
  refine go3 ?_
  refine WD.q rfl rfl rfl rfl rfl (QE.mk (f := eI) 0 rfl rfl rfl (by omega) (by unfold maxLen; omega)) rfl rfl rfl ?_
  obtain ⟨A, hA⟩ : ∃ A, A = List.replicate p.arrs.length (0 : Int) := ⟨_, rfl⟩
  rw [show AV.ow 2 1 p.arrs.length (encL eI (List.replicate p.arrs.length 0)) = ints A by rw [hA, ints, List.length_replicate]]
  have hZl : Z.length = NV := by rw [hZ, List.length_replicate]
  have hZi : ∀ k, (iniL p.lows.length k Z).length = NV := fun k => by rw [iniL_len, hZl]
  have hF0 : iniF p = ⟨iniL p.lows.length p.secs.length Z, A, 0, 0⟩ := by rw [hZ, hA]; unfold iniF; rw [hNV, Int.toNat_natCast]
  refine go3 ?_
  refine WD.q rfl rfl rfl rfl rfl (QE.bld (cs := [.vw 16 [] 0 Z.length, .vw 20 [] 0 A.length, i64 0, i64 0]) rfl) rfl rfl rfl ?_
  refine WD.q rfl rfl rfl rfl rfl QE.alloc rfl rfl rfl ?_
  refine go3 ?_
  refine WO.stG (vs := flO ⟨Z, A, 0, 0⟩) rfl rfl rfl (take2 (r1 := 16) (r2 := 20) rfl rfl (encL_length _) (encL_length _) rfl) rfl rfl rfl rfl ?_
  refine go3 ?_
  refine WC.loopS (S := Nat) (fun k => [(1, .ip (prR p)), (2, .op [.nl, .nl, i64 0, i64 0]), (3, .op (flO ⟨iniL p.lows.length k Z, A, 0, 0⟩)), (24, i64 p.secs.length), (25, i64 k)]) (fun k => k ≤ p.secs.length) (fun k => p.secs.length - k) 0 (.cons rfl (.cons rfl (.cons rfl (.cons rfl (.cons rfl .nil))))) (Nat.zero_le _) ?_
  intro k g1
  refine go3 ?_
  refine WO.cmp rfl rfl rfl rfl rfl (fun h3 => ?_) (fun h3 => ?_)
  · have hj : (p.lows.length : Int) + k = ((p.lows.length + k : Nat) : Int) := by omega
    have hjl : p.lows.length + k < (iniL p.lows.length k Z).length := by rw [hZi]; omega
    refine go3 ?_
    refine WC.regionDd ⟨[[], [0], [], [2], [2, 3], [], [2, 3, 4, 5], [], [7], [0, 1, 2, 3, 4, 5, 6, 7, 8], [0, 1, 2, 3, 4, 5, 6, 7, 8, 9]], [0, 1, 2, 3, 4, 5, 6, 7, 8, 9], [], [28, 29, 30, 31, 32, 33, 34, 35, 36, 37], [0, 1, 2, 3, 4, 5, 6, 7, 8, 9, 10], [([30, 31, 32, 33, 34, 35, 36], [30, 31, 32, 33, 34, 35, 36], false), ([30, 31, 32, 33, 34, 35, 36], [30, 31, 32, 33, 34, 35, 36], false), ([28, 29, 33, 35, 36], [28, 29, 33, 35, 36], false), ([28, 29, 33, 35, 36], [28, 29, 33, 35, 36], false), ([28, 29, 33, 35, 36], [28, 29, 33, 35, 36], false), ([28, 29, 30, 31, 32, 35, 36], [28, 29, 30, 31, 32, 35, 36], false), ([28, 29, 35, 36], [28, 29, 35, 36], false), ([28, 29, 30, 31, 32, 33, 34], [28, 29, 30, 31, 32, 33, 34], false), ([28, 29, 30, 31, 32, 33, 34], [28, 29, 30, 31, 32, 33, 34], false), ([], [], false), ([], [], false)]⟩ (by kernel_rfl) ?_
    refine go3 ?_
    refine WD.q rfl rfl rfl rfl rfl (QE.ldOwP (p := []) (i := 0) rfl rfl rfl) rfl rfl rfl ?_
    refine go3 ?_
    rw [hj]
    refine WD.q rfl rfl rfl rfl rfl (qe_shl (c := 2 ^ k) rfl rfl (by omega) (sh1 (by omega))) rfl rfl rfl ?_
    refine WD.q rfl rfl rfl rfl rfl (QE.ixP (p.lows.length + k) rfl rfl (by rw [encL_len1]; exact Nat.le_refl _) rfl hjl) rfl rfl rfl ?_
    refine go3 ?_
    refine WO.stP (p := [0]) (i := p.lows.length + k) (z := .op (flO ⟨iniL p.lows.length (k + 1) Z, A, 0, 0⟩)) rfl rfl rfl rfl (by rw [encL_len1]; exact hjl) rfl (setN_f0 ⟨iniL p.lows.length k Z, A, 0, 0⟩ hjl) rfl ?_
    refine go3 ?_
    exact lpK.mk (k + 1) (.cons rfl (.cons rfl (.cons rfl (.cons rfl (.cons rfl .nil))))) (by omega) (show p.secs.length - (k + 1) < p.secs.length - k by omega)
  · have : k = p.secs.length := by omega
    subst this
    rw [← hF0]
    refine go3 ?_
    refine WO.call rfl rfl rfl hN rfl rfl ?_
    refine go3 ?_
    refine WO.call rfl rfl rfl cG rfl rfl ?_
    refine WO.hard (r := 46) (p := []) (x := grds p.body L) (y := .im L.length (encL (eG p.body) L)) rfl rfl (by simp only [grds, setN, Eng.hard, hardL_pl (encL_pl (f := eG p.body) _)]) ?_
    refine go3 ?_
    refine WC.loopS (S := Int × Nat) (fun s => [(1, .ip (prR p)), (2, .op [.nl, .nl, i64 0, i64 0]), (3, .op (flO (itR p L s.2 (iniF p)))), (7, .im L.length (encL (eG p.body) L)), (8, i64 s.1)]) (fun s => s.1 = -1 ∨ ∃ j, s.2 = j + 1 ∧ s.1 = smF (itR p L j (iniF p))) (fun s => 2 * (3 * ((varsN p).toNat + p.arrs.length + 2) - wtF (itR p L s.2 (iniF p))) + (if s.1 = smF (itR p L s.2 (iniF p)) then 0 else 1)) (-1, 0) (.cons rfl (.cons rfl (.cons rfl (.cons rfl (.cons rfl .nil))))) (.inl rfl) ?_
    rintro ⟨b, k⟩ g2
    dsimp only at g2 ⊢
    have fk := itR_ok L k hi1
    have fk1 := itR_ok L (k + 1) hi1
    have fkv := fk.nv
    have fka := fk.na
    have hwt := wtF_le fk hv0
    have e1 : itR p L (k + 1) (iniF p) = rndL p L (itR p L k (iniF p)) := by rw [itR_add]; rfl
    have cS := fsum (X := X) p (itR p L k (iniF p)) fk (by omega) (by omega)
    have hsm : 0 ≤ smF (itR p L k (iniF p)) := by
      have h1 := (wtL_le fk.v).2.1; have h2 := (wtL_le fk.a).2.1; have h3 := fk.e.1; have h4 := fk.l.1
      unfold smF; omega
    have hgr := ((rndL_ok L fk).2).grow fk
    rw [← e1] at hgr
    have hwt1 := wtF_le fk1 hv0
    have hex : b = smF (itR p L k (iniF p)) → itR p L k (iniF p) = F := by
      intro hb
      rcases g2 with g2 | ⟨j, rfl, hj⟩
      · omega
      · apply hsame
        have fj := itR_ok L j hi1
        have e2 : itR p L (j + 1) (iniF p) = rndL p L (itR p L j (iniF p)) := by rw [itR_add]; rfl
        rcases ((rndL_ok L fj).2).grow fj with h | h
        · rw [e2, h, h]
        · rw [← e2] at h; omega
    obtain ⟨f, hf⟩ : ∃ f, f = itR p L k (iniF p) := ⟨_, rfl⟩
    rw [← hf] at fk fkv fka hwt e1 cS hsm hgr hex ⊢
    refine go3 ?_
    refine WO.callF rfl (.cons (frzI rfl (hardL_fl f)) .nil) cS rfl rfl rfl ?_
    refine go3 ?_
    refine WO.cmp rfl rfl rfl rfl rfl (fun h4 => ?_) (fun h4 => ?_)
    · refine go3 ?_
      refine WO.callF rfl (.cons (frzI rfl (hardL_fl f)) .nil) cS rfl rfl rfl ?_
      refine go3 ?_
      refine WC.loopS (S := Nat) (fun j => [(1, .ip (prR p)), (2, .op [.nl, .nl, i64 0, i64 0]), (3, .op (flO (rndL p (L.take j) f))), (7, .im L.length (encL (eG p.body) L)), (8, i64 (smF f)), (51, .im L.length (encL (eG p.body) L)), (52, i64 L.length), (53, i64 j)]) (fun j => j ≤ L.length) (fun j => L.length - j) 0 (.cons rfl (.cons rfl (.cons rfl (.cons rfl (.cons rfl (.cons rfl (.cons rfl (.cons rfl .nil)))))))) (Nat.zero_le _) ?_
      intro j g3
      refine go3 ?_
      refine WO.cmp rfl rfl rfl rfl rfl (fun h5 => ?_) (fun h5 => ?_)
      · have hj : j < L.length := by omega
        have hm : L.getD j (0, []) ∈ L := by simp [List.getD_eq_getElem?_getD, hj]
        obtain ⟨q1, q2, q3⟩ := hgl _ hm
        have et := rndL_take (p := p) hj f
        have fj := (rndL_ok (L.take j) fk).1
        obtain ⟨⟨a, ifs⟩, hgd⟩ : ∃ g, L.getD j (0, []) = g := ⟨_, rfl⟩
        rw [hgd] at q1 q2 q3 et
        dsimp only at q1 q2 q3 et
        have hna : opA p.body a = 0 → 0 ≤ nA p.body a ∧ nA p.body a < varsN p := by
          intro h0
          have hs := (stOk0 (p := p) (s := p.body.getD a zst) h0).1 (hp.rp.at_ q1)
          have e3 : nA p.body a = (p.body.getD a zst).n := rfl
          omega
        have cR := fround (X := X) p (rndL p (L.take j) f) hB hp.rp fj a q1 hna ifs q2 (by simp only [List.length_nil] at q3; omega)
        rw [← et] at cR
        refine go3 ?_
        refine WO.ixN (f := eG p.body) (0, []) rfl rfl rfl hj rfl ?_
        rw [hgd]
        refine go3 ?_
        refine WO.callD (xs := [.tmp 1, .tmp 57]) rfl rfl rfl rfl rfl cR rfl rfl rfl rfl ?_
        refine go3 ?_
        exact lpK.mk (j + 1) (.cons rfl (.cons rfl (.cons rfl (.cons rfl (.cons rfl (.cons rfl (.cons rfl (.cons rfl .nil)))))))) hj (show L.length - (j + 1) < L.length - j by omega)
      · rw [List.take_of_length_le (by omega), ← e1]
        refine go3 ?_
        refine lpK.mk (smF f, k + 1) (.cons rfl (.cons rfl (.cons rfl (.cons rfl (.cons rfl .nil))))) (.inr ⟨k, rfl, by rw [hf]⟩) ?_
        dsimp only
        rw [← hf, if_neg h4]
        rcases hgr with h | h
        · rw [h, if_pos rfl]; omega
        · split <;> omega
    · have hb : b = smF f := by omega
      have := hex hb
      subst this
      refine go3 ?_
      refine WO.q rfl (QE.ldG rfl rfl rfl (L := [.vw 3 [0] 0 f.vars.length, .vw 3 [1] 0 f.arrs.length, i64 f.esc, i64 f.lk]) rfl) rfl rfl ?_
      refine WO.stG (vs := flO f) rfl rfl rfl (.ag (takeVr (r := 3) (cs := flO f) rfl (whL_flO f)) (.nil _)) rfl rfl rfl rfl ?_
      refine go3 ?_
      exact retCG rfl rfl rfl (whL_flO f) rfl rfl rfl
theorem implFlowOfN (p : Pr) (hB : PB p) (hp : ¬ PrOk p) : Ev Try.prog X (.fn 27 [.ag (prR p)] (.ag [.nl, .nl, i64 0, i64 0]) [.dead]) := by
  refine Ev.fnW (env := [(0, .ag (prR p))]) Try.func27 rfl nm_impl_FlowOf rfl rfl (by kernel_rfl) (.cons rfl .nil) ?_
  refine go3 ?_
  refine WO.call rfl rfl rfl (implProgOk p hB (r := false) (by simp [hp])) rfl rfl ?_
  refine go3 ?_
  refine WO.bld (cs := [.nl, .nl, i64 0, i64 0]) rfl rfl rfl rfl ?_
  refine go3 ?_
  exact retC rfl rfl rfl rfl rfl rfl rfl
theorem and1 {x : Int} (h0 : 0 ≤ x) (h1 : x ≤ 255) : andI x 1 = x % 2 := by
  obtain ⟨n, rfl⟩ : ∃ n : Nat, x = n := ⟨x.toNat, by omega⟩
  have e : andI (n : Int) 1 = ((n &&& 1 : Nat) : Int) := andI_nat n 1 (by omega) (by decide)
  rw [e, Nat.and_one_is_mod]; omega
/-- Is a secret quiet? -/
def Quiet (f : Fl) (s : Int) : Prop := f.lk / 2 ^ s.toNat % 2 = 0
instance (f : Fl) (s : Int) : Decidable (Quiet f s) := by unfold Quiet; infer_instance
theorem flowN_ok {p : Pr} (hp : PrOk p) (r : Ns) : FlOk p (flowN p r) := by
  obtain ⟨r1, -⟩ := hp.r
  exact itR_ok _ _ (iniF_ok hp.i.2.1 (by unfold varsN insN; omega)).1
end Go.Eng.C

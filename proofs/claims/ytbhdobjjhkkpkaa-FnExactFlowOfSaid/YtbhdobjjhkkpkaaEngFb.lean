/- Contracts of functions, by the engine: flows, of the program: a round of one statement, all statements with their ifs, the flow. -/
import Derived.Test.YtbhdobjjhkkpkaaEngFa
import Derived.Test.YtbhdobjjhkkpkaaEngXn
import Derived.Test.YtbhdobjjhkkpkaaEngB6
namespace Go.Eng
open Go Go.RowKit
/-- No results. -/
theorem ret0 {P : Program} {env : Env} {n : Nat} {fin : List AV} {ex : Ex} (hf : fins n (look env) = fin) (hn : fin.all noRf = true) (he : ex = .normal ∨ ex = .ret := by simp) :
    (ex = .normal ∨ ex = .ret) ∧ ∃ az rs σ2, ResL P (look env) [] az ∧ TakeL (look env) az rs σ2 ∧ resOf rs = .tu [] ∧ fins n σ2 = fin ∧ fin.all noRf = true :=
  ⟨he, [], [], look env, .nil, .nil _, rfl, hf, hn⟩
end Go.Eng
namespace Go.Eng.C
open Go Go.Eng Go.RowKit Go.Proofs
set_option linter.unusedVariables false
set_option linter.unusedSimpArgs false
set_option maxRecDepth 10000
variable {X : FuncId → List AV → AV → List AV → Prop}
theorem nm_impl_guardedIn : (Try.f86.name == "runtime.NumGoroutine") = false := by decide
theorem nm_impl_FlowOf : (Try.f27.name == "runtime.NumGoroutine") = false := by decide
theorem hgt_nn : ∀ {e : List Tm} {h k : Int}, hgt e h = some k → ∀ t ∈ e, 0 ≤ t.n
  | [], h, k, _, t, ht => by simp at ht
  | x :: e, h, k, hh, t, ht => by
    simp only [hgt] at hh
    split at hh
    case isFalse => cases hh
    rename_i hx
    rcases List.mem_cons.1 ht with rfl | ht
    · exact hx.1.2.1
    · exact hgt_nn hh t ht
/-- What a right expression names has a label. -/
theorem nmF {p : Pr} {f : Fl} {e : List Tm} (hf : FlOk p f) (he : e.length = 0 ∨ mayOk p e) : NmF f e ∧ e.length ≤ 3000 := by
  rcases he with h | h
  · have := List.length_eq_zero_iff.1 h
    subst this
    exact ⟨fun t ht => by simp at ht, by simp⟩
  · have h1 := h.2.1.1
    simp only [expOk, Bool.and_eq_true, decide_eq_true_eq] at h1
    have h2 := hf.nv; have h3 := hf.na
    refine ⟨fun t ht => ⟨fun _ => hgt_nn h1.2 t ht, fun ho => ?_, fun ho => ?_⟩, h1.1⟩
    · have := (h.2.1.2 t ht).2.1 ho; omega
    · have := (h.2.1.2 t ht).2.2 ho; omega
/-- A statement's address; a statement with the ifs around it. -/
def eP (x : List St) (a : Nat) : List AV := [.ip (stR (x.getD a zst) ++ encL stR (x.drop (a + 1)))]
instance (x : List St) : Wid (eP x) 1 := ⟨fun _ => rfl⟩
instance (x : List St) : Pl (eP x) := ⟨fun _ => rfl⟩
def eG (x : List St) (g : Nat × List Nat) : List AV := [.ip (stR (x.getD g.1 zst) ++ encL stR (x.drop (g.1 + 1))), .im g.2.length (encL (eP x) g.2)]
instance (x : List St) : Wid (eG x) 2 := ⟨fun _ => rfl⟩
instance (x : List St) : Pl (eG x) := ⟨fun _ => rfl⟩
theorem ints_at {l : List Int} {i : Nat} (h : i < l.length) : (encL eI l)[i]? = some (i64 (l.getD i 0)) := by
  have := encL_get (f := eI) (sz := 1) (j := 0) h (by omega) 0
  simpa [eI] using this
theorem setN_fv (f : Fl) {N : Nat} {x : Int} (h : N < f.vars.length) : setN [0] (AV.op (flO f)) (.ow 2 1 f.vars.length ((encL eI f.vars).set N (i64 (orI (f.vars.getD N 0) x)))) = .op (flO ⟨setO f.vars N x, f.arrs, f.esc, f.lk⟩) := by
  have e1 : AV.ow 2 1 f.vars.length ((encL eI f.vars).set N (i64 (orI (f.vars.getD N 0) x))) = ints (setO f.vars N x) := by rw [ints_set h, ints, setO, List.length_set]
  rw [e1]; rfl
theorem setN_fa (f : Fl) {N : Nat} {x : Int} (h : N < f.arrs.length) : setN [1] (AV.op (flO f)) (.ow 2 1 f.arrs.length ((encL eI f.arrs).set N (i64 (orI (f.arrs.getD N 0) x)))) = .op (flO ⟨f.vars, setO f.arrs N x, f.esc, f.lk⟩) := by
  have e1 : AV.ow 2 1 f.arrs.length ((encL eI f.arrs).set N (i64 (orI (f.arrs.getD N 0) x))) = ints (setO f.arrs N x) := by rw [ints_set h, ints, setO, List.length_set]
  rw [e1]; rfl
set_option maxHeartbeats 16000000 in
theorem fround (p : Pr) (f : Fl) (hB : PB p) (hp : RP p) (hf : FlOk p f) (a : Nat) (ha : a < p.body.length) (hna : opA p.body a = 0 → 0 ≤ nA p.body a ∧ nA p.body a < varsN p) (ifs : List Nat) (hi : ∀ i ∈ ifs, i < p.body.length) (hl : ifs.length ≤ 1000) : Ev Try.prog X (.fn 88 [.op (flO f), .ip (prR p), .ag (eG p.body (a, ifs))] (.tu []) [.op (flO (rndF p f (p.body.getD a zst) (ifs.map fun i => p.body.getD i zst))), .dead, .dead]) := by
  have ht := hp.at_ ha
  have hal := hf.na
  have hnv := hf.nv
  have hop : opA p.body a = (p.body.getD a zst).op := rfl
  have hnA : nA p.body a = (p.body.getD a zst).n := rfl
  rw [hop, hnA] at hna
  clear hop hnA
  unfold rndF
  obtain ⟨S, hS⟩ : ∃ S : Nat → St, S = fun i => p.body.getD i zst := ⟨_, rfl⟩
  rw [← hS]
  refine Ev.fnW (env := [(0, .ad 1000000 [] 0), (1, .ip (prR p)), (2, .ag (eG p.body (a, ifs))), (1000000, .op (flO f))]) Try.func88 rfl nm_impl_Flow_round rfl rfl (by kernel_rfl) (.cons rfl (.cons rfl (.cons rfl (.cons rfl .nil)))) ?_
  refine go3 ?_
  refine WC.loopS (S := Nat × Int) (fun s => [(0, .ad 1000000 [] 0), (1, .ip (prR p)), (5, .op (eG p.body (a, ifs))), (6, i64 s.2), (15, .im ifs.length (encL (eP p.body) ifs)), (16, i64 ifs.length), (17, i64 s.1), (1000000, .op (flO f))]) (fun s => s.1 ≤ ifs.length ∧ L8 s.2 ∧ ctxL f ((ifs.drop s.1).map S) s.2 = ctxF f (ifs.map S)) (fun s => ifs.length - s.1) (0, f.esc) (.cons rfl (.cons rfl (.cons rfl (.cons rfl (.cons rfl (.cons rfl (.cons rfl (.cons rfl .nil)))))))) ⟨Nat.zero_le _, hf.e, rfl⟩ ?_
  rintro ⟨k, m⟩ ⟨g1, g2, g3⟩
  dsimp only at g1 g2 g3 ⊢
  refine go3 ?_
  refine WO.cmp rfl rfl rfl rfl rfl (fun h3 => ?_) (fun h3 => ?_)
  · have hk : k < ifs.length := by omega
    have hm : ifs.getD k 0 ∈ ifs := by simp [List.getD_eq_getElem?_getD, hk]
    have hlt := hi _ hm
    have hj := hp.at_ hlt
    obtain ⟨n1, n2⟩ := nmF hf hj.mays.2.1
    have h8 := lab_8 hf (p.body.getD (ifs.getD k 0) zst).ex
    rw [drop_getD hk 0, List.map_cons, hS] at g3
    simp only [ctxL] at g3
    rw [← hS] at g3
    refine go3 ?_
    refine WO.ixN (f := eP p.body) 0 rfl rfl rfl hk rfl ?_
    generalize ifs.getD k 0 = j at *
    have cl := flabel (X := X) p f (p.body.getD j zst).ex hf n2 n1
    refine go3 ?_
    refine WO.callF rfl (.cons (frzI rfl (hardL_fl f)) (.cons (.plain _ rfl) .nil)) cl rfl rfl rfl ?_
    refine WO.binG (op := .or) (k := .i64) (c := .int .i64 (orI m (lab f (p.body.getD j zst).ex))) rfl rfl rfl rfl rfl rfl ?_
    refine go3 ?_
    exact lpK.mk (k + 1, orI m (lab f (p.body.getD j zst).ex)) (.cons rfl (.cons rfl (.cons rfl (.cons rfl (.cons rfl (.cons rfl (.cons rfl (.cons rfl .nil)))))))) ⟨hk, orI_8 g2 h8, g3⟩ (show ifs.length - (k + 1) < ifs.length - k by omega)
  · have : k = ifs.length := by omega
    subst this
    rw [List.drop_length] at g3
    simp only [List.map_nil, ctxL] at g3
    rw [← g3]
    have hg : eG p.body (a, ifs) = [.ip (stR (p.body.getD a zst) ++ encL stR (p.body.drop (a + 1))), .im ifs.length (encL (eP p.body) ifs)] := rfl
    have c1 := flabel (X := X) p f (p.body.getD a zst).ex hf (nmF hf ht.mays.2.1).2 (nmF hf ht.mays.2.1).1
    have c2 := flabel (X := X) p f (p.body.getD a zst).pl hf (nmF hf ht.mays.1).2 (nmF hf ht.mays.1).1
    have w8 := ownF_8 hf (p.body.getD a zst) g2
    rw [hg]
    clear g3 h3 hi hg
    generalize encL stR (p.body.drop (a + 1)) = bd at *
    generalize p.body.getD a zst = t at *
    obtain ⟨w, hw⟩ : ∃ w, w = ownF f t m := ⟨_, rfl⟩
    rw [← hw] at w8 ⊢
    refine go3 ?_
    refine WC.regionDd ⟨[[], [], [1], [1, 2], [1, 2, 3], [1, 2, 3, 4], [0, 1, 2, 3, 4, 5], [], [], [8], [8, 9], [8, 9, 10], [8, 9, 10, 11], [0, 1, 2, 3, 4, 5, 6, 7, 8, 9, 10, 11, 12], [0, 1, 2, 3, 4, 5, 6, 7, 8, 9, 10, 11, 12, 13], [], [0, 1, 2, 3, 4, 5, 6, 7, 8, 9, 10, 11, 12, 13, 14, 15], [0, 1, 2, 3, 4, 5, 6, 7, 8, 9, 10, 11, 12, 13, 14, 15, 16]], [0, 1, 2, 3, 4, 5, 6, 7, 8, 9, 10, 11, 12, 13, 14, 15, 16], [], [30, 31, 32, 33, 34, 35, 36, 37, 38, 39, 40, 41, 42, 43, 44, 45, 46], [0, 1, 2, 3, 4, 5, 6, 7, 8, 9, 10, 11, 12, 13, 14, 15, 16, 17], [([31, 32, 33, 34, 35, 37, 38, 39, 40, 41, 42, 45], [31, 32, 33, 34, 35, 37, 38, 39, 40, 41, 42, 45], false), ([30, 37, 38, 39, 40, 41, 42, 45], [30, 37, 38, 39, 40, 41, 42, 45], false), ([30, 37, 38, 39, 40, 41, 42, 45], [30, 37, 38, 39, 40, 41, 42, 45], false), ([30, 37, 38, 39, 40, 41, 42, 45], [30, 37, 38, 39, 40, 41, 42, 45], false), ([30, 37, 38, 39, 40, 41, 42, 45], [30, 37, 38, 39, 40, 41, 42, 45], false), ([30, 37, 38, 39, 40, 41, 42, 45], [30, 37, 38, 39, 40, 41, 42, 45], false), ([37, 38, 39, 40, 41, 42, 45], [37, 38, 39, 40, 41, 42, 45], false), ([30, 31, 32, 33, 34, 35, 36, 38, 39, 40, 41, 42, 45], [30, 31, 32, 33, 34, 35, 36, 38, 39, 40, 41, 42, 45], false), ([30, 31, 32, 33, 34, 35, 36, 37, 45], [30, 31, 32, 33, 34, 35, 36, 37, 45], false), ([30, 31, 32, 33, 34, 35, 36, 37, 45], [30, 31, 32, 33, 34, 35, 36, 37, 45], false), ([30, 31, 32, 33, 34, 35, 36, 37, 45], [30, 31, 32, 33, 34, 35, 36, 37, 45], false), ([30, 31, 32, 33, 34, 35, 36, 37, 45], [30, 31, 32, 33, 34, 35, 36, 37, 45], false), ([30, 31, 32, 33, 34, 35, 36, 37, 45], [30, 31, 32, 33, 34, 35, 36, 37, 45], false), ([45], [45], false), ([45], [45], false), ([30, 31, 32, 33, 34, 35, 36, 37, 38, 39, 40, 41, 42, 43, 44], [30, 31, 32, 33, 34, 35, 36, 37, 38, 39, 40, 41, 42, 43, 44], false), ([], [], false), ([], [], false)]⟩ (by kernel_rfl) ?_
    refine go3 ?_
    refine WD.q rfl rfl rfl rfl rfl (QE.callF (.cons (frzI rfl (hardL_fl f)) (.cons (.plain _ rfl) .nil)) c1 rfl) rfl rfl rfl ?_
    refine go3 ?_
    refine WD.q rfl rfl rfl rfl rfl (QE.callF (.cons (frzI rfl (hardL_fl f)) (.cons (.plain _ rfl) .nil)) c2 rfl) rfl rfl rfl ?_
    refine WD.q rfl rfl rfl rfl rfl (QE.binG (k := .i64) (v := .int .i64 (orI (lab f t.ex) (lab f t.pl))) rfl rfl rfl rfl) rfl rfl rfl ?_
    refine go3 ?_
    refine WD.q rfl rfl rfl rfl rfl (QE.binG (k := .i64) (v := .int .i64 w) rfl rfl (by rw [hw]; rfl) rfl) rfl rfl rfl ?_
    refine go3 ?_
    refine WO.keep (e' := [(0, .ad 1000000 [] 0), (1, .ip (prR p)), (5, .op [.ip (stR t ++ bd), .im ifs.length (encL (eP p.body) ifs)]), (6, i64 m), (9, i64 w), (1000000, .op (flO f)), (51, i64 t.op)]) (.cons rfl (.cons rfl (.cons rfl (.cons rfl (.cons rfl (.cons rfl (.cons rfl .nil))))))) ?_
    clear hw c1 c2
    by_cases h0 : t.op = 0
    · obtain ⟨b0, b1⟩ := hna h0
      obtain ⟨N, hN⟩ : ∃ N : Nat, t.n = N := ⟨t.n.toNat, by omega⟩
      have hNv : N < f.vars.length := by omega
      have q1 := (rnd1_ok hf t g2 w8).1
      have e1 : rnd1 f t m w = ⟨setO f.vars N w, f.arrs, f.esc, f.lk⟩ := by unfold rnd1; rw [if_pos h0, hN, Int.toNat_natCast]
      rw [e1] at q1 ⊢
      refine go3 ?_
      refine WC.regionDd ⟨[[], [0], [0, 1], [0, 1, 2], [], [4], [4, 5], [4, 5, 6], [4, 5, 6, 7], [0, 1, 2, 3, 4, 5, 6, 7, 8], [0, 1, 2, 3, 4, 5, 6, 7, 8, 9], [], [0, 1, 2, 3, 4, 5, 6, 7, 8, 9, 10, 11], [0, 1, 2, 3, 4, 5, 6, 7, 8, 9, 10, 11, 12], [0, 1, 2, 3, 4, 5, 6, 7, 8, 9, 10, 11, 12, 13]], [0, 1, 2, 3, 4, 5, 6, 7, 8, 9, 10, 11, 12, 13], [], [54, 55, 56, 57, 58, 59, 60, 61, 62, 63, 64, 65, 66, 67], [0, 1, 2, 3, 4, 5, 6, 7, 8, 9, 10, 11, 12, 13, 14], [([58, 59, 60, 61, 62, 65], [58, 59, 60, 61, 62, 65], false), ([58, 59, 60, 61, 62, 65], [58, 59, 60, 61, 62, 65], false), ([58, 59, 60, 61, 62, 65], [58, 59, 60, 61, 62, 65], false), ([58, 59, 60, 61, 62, 65], [58, 59, 60, 61, 62, 65], false), ([54, 55, 56, 57, 65], [54, 55, 56, 57, 65], false), ([54, 55, 56, 57, 65], [54, 55, 56, 57, 65], false), ([54, 55, 56, 57, 65], [54, 55, 56, 57, 65], false), ([54, 55, 56, 57, 65], [54, 55, 56, 57, 65], false), ([54, 55, 56, 57, 65], [54, 55, 56, 57, 65], false), ([65], [65], false), ([65], [65], false), ([54, 55, 56, 57, 58, 59, 60, 61, 62, 63, 64], [54, 55, 56, 57, 58, 59, 60, 61, 62, 63, 64], false), ([], [], false), ([], [], false), ([], [], false)]⟩ (by kernel_rfl) ?_
      refine go3 ?_
      refine WD.q rfl rfl rfl rfl rfl (QE.ldOwP (p := []) (i := 0) rfl rfl rfl) rfl rfl rfl ?_
      refine go3 ?_
      rw [hN]
      refine WD.q rfl rfl rfl rfl rfl (QE.ixP N rfl rfl (by rw [encL_len1]; exact Nat.le_refl _) rfl hNv) rfl rfl rfl ?_
      refine WD.q rfl rfl rfl rfl rfl (QE.ldO (p := [0]) rfl rfl (ints_at hNv) rfl) rfl rfl rfl ?_
      refine go3 ?_
      refine WD.q rfl rfl rfl rfl rfl (QE.binG (k := .i64) (v := .int .i64 (orI (f.vars.getD N 0) w)) rfl rfl rfl rfl) rfl rfl rfl ?_
      refine WD.q rfl rfl rfl rfl rfl (QE.ixP N rfl rfl (by rw [encL_len1]; exact Nat.le_refl _) rfl hNv) rfl rfl rfl ?_
      refine go3 ?_
      refine WO.stP (p := [0]) (i := N) (z := .op (flO ⟨setO f.vars N w, f.arrs, f.esc, f.lk⟩)) rfl rfl rfl rfl (by rw [encL_len1]; exact hNv) rfl (setN_fv f hNv) rfl ?_
      generalize Fl.mk (setO f.vars N w) f.arrs f.esc f.lk = g at *
      refine WO.keep (e' := [(1, .ip (prR p)), (0, .ad 1000000 [] 0), (5, .op [.ip (stR t ++ bd), .im ifs.length (encL (eP p.body) ifs)]), (9, i64 w), (1000000, .op (flO g))]) (.cons rfl (.cons rfl (.cons rfl (.cons rfl (.cons rfl .nil))))) ?_
      refine go3 ?_
      by_cases hT : stT p t
      · refine WO.call rfl rfl rfl (stmtTraps p t bd ht (r := true) ⟨fun _ => hT, fun _ => rfl⟩) rfl rfl ?_
        have e2 : rnd2 p g t w = ⟨g.vars, g.arrs, orI g.esc w, g.lk⟩ := by unfold rnd2; rw [if_pos hT]
        have q2 := (rnd2_ok q1 t w8).1
        rw [e2] at q2 ⊢
        refine go3 ?_
        refine WO.binG (op := .or) (k := .i64) (c := .int .i64 (orI g.esc w)) rfl rfl rfl rfl rfl rfl ?_
        refine go3 ?_
        refine WO.st (cs' := flO ⟨g.vars, g.arrs, orI g.esc w, g.lk⟩) rfl rfl rfl rfl rfl rfl rfl ?_
        generalize Fl.mk g.vars g.arrs (orI g.esc w) g.lk = u at *
        refine go3 ?_
        refine WC.regionDd ⟨[[], [0], [0, 1], [0, 1, 2], [], [4], [4, 5], [4, 5, 6], [0, 1, 2, 3, 4, 5, 6, 7], [0, 1, 2, 3, 4, 5, 6, 7, 8], [0, 1, 2, 3, 4, 5, 6, 7, 8, 9], [0, 1, 2, 3, 4, 5, 6, 7, 8, 9, 10]], [0, 1, 2, 3, 4, 5, 6, 7, 8, 9, 10], [], [116, 117, 118, 119, 120, 121, 122, 123, 124, 125, 126], [0, 1, 2, 3, 4, 5, 6, 7, 8, 9, 10, 11], [([120, 121, 122, 123], [120, 121, 122, 123], false), ([120, 121, 122, 123], [120, 121, 122, 123], false), ([120, 121, 122, 123], [120, 121, 122, 123], false), ([120, 121, 122, 123], [120, 121, 122, 123], false), ([116, 117, 118, 119], [116, 117, 118, 119], false), ([116, 117, 118, 119], [116, 117, 118, 119], false), ([116, 117, 118, 119], [116, 117, 118, 119], false), ([116, 117, 118, 119], [116, 117, 118, 119], false), ([], [], false), ([], [], false), ([], [], false), ([], [], false)]⟩ (by kernel_rfl) ?_
        refine go3 ?_
        refine WD.q rfl rfl rfl rfl rfl (QE.binG (k := .i64) (v := .int .i64 (orI u.lk u.esc)) rfl rfl rfl rfl) rfl rfl rfl ?_
        refine go3 ?_
        refine WO.st (cs' := flO (rnd3 u)) rfl rfl rfl rfl rfl rfl rfl ?_
        refine go3 ?_
        exact ret0 rfl rfl
      · refine WO.call rfl rfl rfl (stmtTraps p t bd ht (r := false) ⟨fun h => by simp at h, fun h => absurd h hT⟩) rfl rfl ?_
        have e2 : rnd2 p g t w = g := by unfold rnd2; rw [if_neg hT]
        rw [e2]
        refine go3 ?_
        refine WC.regionDd ⟨[[], [0], [0, 1], [0, 1, 2], [], [4], [4, 5], [4, 5, 6], [0, 1, 2, 3, 4, 5, 6, 7], [0, 1, 2, 3, 4, 5, 6, 7, 8], [0, 1, 2, 3, 4, 5, 6, 7, 8, 9], [0, 1, 2, 3, 4, 5, 6, 7, 8, 9, 10]], [0, 1, 2, 3, 4, 5, 6, 7, 8, 9, 10], [], [116, 117, 118, 119, 120, 121, 122, 123, 124, 125, 126], [0, 1, 2, 3, 4, 5, 6, 7, 8, 9, 10, 11], [([120, 121, 122, 123], [120, 121, 122, 123], false), ([120, 121, 122, 123], [120, 121, 122, 123], false), ([120, 121, 122, 123], [120, 121, 122, 123], false), ([120, 121, 122, 123], [120, 121, 122, 123], false), ([116, 117, 118, 119], [116, 117, 118, 119], false), ([116, 117, 118, 119], [116, 117, 118, 119], false), ([116, 117, 118, 119], [116, 117, 118, 119], false), ([116, 117, 118, 119], [116, 117, 118, 119], false), ([], [], false), ([], [], false), ([], [], false), ([], [], false)]⟩ (by kernel_rfl) ?_
        refine go3 ?_
        refine WD.q rfl rfl rfl rfl rfl (QE.binG (k := .i64) (v := .int .i64 (orI g.lk g.esc)) rfl rfl rfl rfl) rfl rfl rfl ?_
        refine go3 ?_
        refine WO.st (cs' := flO (rnd3 g)) rfl rfl rfl rfl rfl rfl rfl ?_
        refine go3 ?_
        exact ret0 rfl rfl
    by_cases h1 : t.op = 1
    · obtain ⟨-, -, m3⟩ := ht.mays
      obtain ⟨b0, b1⟩ := m3 h1
      obtain ⟨N, hN⟩ : ∃ N : Nat, t.n = N := ⟨t.n.toNat, by omega⟩
      have hNv : N < f.arrs.length := by omega
      have q1 := (rnd1_ok hf t g2 w8).1
      have e1 : rnd1 f t m w = ⟨f.vars, setO f.arrs N w, f.esc, f.lk⟩ := by unfold rnd1; rw [if_neg h0, if_pos h1, hN, Int.toNat_natCast]
      rw [e1] at q1 ⊢
      refine go3 ?_
      refine WC.regionDd ⟨[[], [0], [0, 1], [0, 1, 2], [], [4], [4, 5], [4, 5, 6], [4, 5, 6, 7], [0, 1, 2, 3, 4, 5, 6, 7, 8], [0, 1, 2, 3, 4, 5, 6, 7, 8, 9], [], [0, 1, 2, 3, 4, 5, 6, 7, 8, 9, 10, 11], [0, 1, 2, 3, 4, 5, 6, 7, 8, 9, 10, 11, 12], [0, 1, 2, 3, 4, 5, 6, 7, 8, 9, 10, 11, 12, 13]], [0, 1, 2, 3, 4, 5, 6, 7, 8, 9, 10, 11, 12, 13], [], [70, 71, 72, 73, 74, 75, 76, 77, 78, 79, 80, 81, 82, 83], [0, 1, 2, 3, 4, 5, 6, 7, 8, 9, 10, 11, 12, 13, 14], [([74, 75, 76, 77, 78, 81], [74, 75, 76, 77, 78, 81], false), ([74, 75, 76, 77, 78, 81], [74, 75, 76, 77, 78, 81], false), ([74, 75, 76, 77, 78, 81], [74, 75, 76, 77, 78, 81], false), ([74, 75, 76, 77, 78, 81], [74, 75, 76, 77, 78, 81], false), ([70, 71, 72, 73, 81], [70, 71, 72, 73, 81], false), ([70, 71, 72, 73, 81], [70, 71, 72, 73, 81], false), ([70, 71, 72, 73, 81], [70, 71, 72, 73, 81], false), ([70, 71, 72, 73, 81], [70, 71, 72, 73, 81], false), ([70, 71, 72, 73, 81], [70, 71, 72, 73, 81], false), ([81], [81], false), ([81], [81], false), ([70, 71, 72, 73, 74, 75, 76, 77, 78, 79, 80], [70, 71, 72, 73, 74, 75, 76, 77, 78, 79, 80], false), ([], [], false), ([], [], false), ([], [], false)]⟩ (by kernel_rfl) ?_
      refine go3 ?_
      refine WD.q rfl rfl rfl rfl rfl (QE.ldOwP (p := []) (i := 1) rfl rfl rfl) rfl rfl rfl ?_
      refine go3 ?_
      rw [hN]
      refine WD.q rfl rfl rfl rfl rfl (QE.ixP N rfl rfl (by rw [encL_len1]; exact Nat.le_refl _) rfl hNv) rfl rfl rfl ?_
      refine WD.q rfl rfl rfl rfl rfl (QE.ldO (p := [1]) rfl rfl (ints_at hNv) rfl) rfl rfl rfl ?_
      refine go3 ?_
      refine WD.q rfl rfl rfl rfl rfl (QE.binG (k := .i64) (v := .int .i64 (orI (f.arrs.getD N 0) w)) rfl rfl rfl rfl) rfl rfl rfl ?_
      refine WD.q rfl rfl rfl rfl rfl (QE.ixP N rfl rfl (by rw [encL_len1]; exact Nat.le_refl _) rfl hNv) rfl rfl rfl ?_
      refine go3 ?_
      refine WO.stP (p := [1]) (i := N) (z := .op (flO ⟨f.vars, setO f.arrs N w, f.esc, f.lk⟩)) rfl rfl rfl rfl (by rw [encL_len1]; exact hNv) rfl (setN_fa f hNv) rfl ?_
      generalize Fl.mk f.vars (setO f.arrs N w) f.esc f.lk = g at *
      refine WO.keep (e' := [(1, .ip (prR p)), (0, .ad 1000000 [] 0), (5, .op [.ip (stR t ++ bd), .im ifs.length (encL (eP p.body) ifs)]), (9, i64 w), (1000000, .op (flO g))]) (.cons rfl (.cons rfl (.cons rfl (.cons rfl (.cons rfl .nil))))) ?_
      refine go3 ?_
      by_cases hT : stT p t
      · refine WO.call rfl rfl rfl (stmtTraps p t bd ht (r := true) ⟨fun _ => hT, fun _ => rfl⟩) rfl rfl ?_
        have e2 : rnd2 p g t w = ⟨g.vars, g.arrs, orI g.esc w, g.lk⟩ := by unfold rnd2; rw [if_pos hT]
        have q2 := (rnd2_ok q1 t w8).1
        rw [e2] at q2 ⊢
        refine go3 ?_
        refine WO.binG (op := .or) (k := .i64) (c := .int .i64 (orI g.esc w)) rfl rfl rfl rfl rfl rfl ?_
        refine go3 ?_
        refine WO.st (cs' := flO ⟨g.vars, g.arrs, orI g.esc w, g.lk⟩) rfl rfl rfl rfl rfl rfl rfl ?_
        generalize Fl.mk g.vars g.arrs (orI g.esc w) g.lk = u at *
        refine go3 ?_
        refine WC.regionDd ⟨[[], [0], [0, 1], [0, 1, 2], [], [4], [4, 5], [4, 5, 6], [0, 1, 2, 3, 4, 5, 6, 7], [0, 1, 2, 3, 4, 5, 6, 7, 8], [0, 1, 2, 3, 4, 5, 6, 7, 8, 9], [0, 1, 2, 3, 4, 5, 6, 7, 8, 9, 10]], [0, 1, 2, 3, 4, 5, 6, 7, 8, 9, 10], [], [116, 117, 118, 119, 120, 121, 122, 123, 124, 125, 126], [0, 1, 2, 3, 4, 5, 6, 7, 8, 9, 10, 11], [([120, 121, 122, 123], [120, 121, 122, 123], false), ([120, 121, 122, 123], [120, 121, 122, 123], false), ([120, 121, 122, 123], [120, 121, 122, 123], false), ([120, 121, 122, 123], [120, 121, 122, 123], false), ([116, 117, 118, 119], [116, 117, 118, 119], false), ([116, 117, 118, 119], [116, 117, 118, 119], false), ([116, 117, 118, 119], [116, 117, 118, 119], false), ([116, 117, 118, 119], [116, 117, 118, 119], false), ([], [], false), ([], [], false), ([], [], false), ([], [], false)]⟩ (by kernel_rfl) ?_
        refine go3 ?_
        refine WD.q rfl rfl rfl rfl rfl (QE.binG (k := .i64) (v := .int .i64 (orI u.lk u.esc)) rfl rfl rfl rfl) rfl rfl rfl ?_
        refine go3 ?_
        refine WO.st (cs' := flO (rnd3 u)) rfl rfl rfl rfl rfl rfl rfl ?_
        refine go3 ?_
        exact ret0 rfl rfl
      · refine WO.call rfl rfl rfl (stmtTraps p t bd ht (r := false) ⟨fun h => by simp at h, fun h => absurd h hT⟩) rfl rfl ?_
        have e2 : rnd2 p g t w = g := by unfold rnd2; rw [if_neg hT]
        rw [e2]
        refine go3 ?_
        refine WC.regionDd ⟨[[], [0], [0, 1], [0, 1, 2], [], [4], [4, 5], [4, 5, 6], [0, 1, 2, 3, 4, 5, 6, 7], [0, 1, 2, 3, 4, 5, 6, 7, 8], [0, 1, 2, 3, 4, 5, 6, 7, 8, 9], [0, 1, 2, 3, 4, 5, 6, 7, 8, 9, 10]], [0, 1, 2, 3, 4, 5, 6, 7, 8, 9, 10], [], [116, 117, 118, 119, 120, 121, 122, 123, 124, 125, 126], [0, 1, 2, 3, 4, 5, 6, 7, 8, 9, 10, 11], [([120, 121, 122, 123], [120, 121, 122, 123], false), ([120, 121, 122, 123], [120, 121, 122, 123], false), ([120, 121, 122, 123], [120, 121, 122, 123], false), ([120, 121, 122, 123], [120, 121, 122, 123], false), ([116, 117, 118, 119], [116, 117, 118, 119], false), ([116, 117, 118, 119], [116, 117, 118, 119], false), ([116, 117, 118, 119], [116, 117, 118, 119], false), ([116, 117, 118, 119], [116, 117, 118, 119], false), ([], [], false), ([], [], false), ([], [], false), ([], [], false)]⟩ (by kernel_rfl) ?_
        refine go3 ?_
        refine WD.q rfl rfl rfl rfl rfl (QE.binG (k := .i64) (v := .int .i64 (orI g.lk g.esc)) rfl rfl rfl rfl) rfl rfl rfl ?_
        refine go3 ?_
        refine WO.st (cs' := flO (rnd3 g)) rfl rfl rfl rfl rfl rfl rfl ?_
        refine go3 ?_
        exact ret0 rfl rfl
    by_cases h6 : t.op = 6
    · have q1 := (rnd1_ok hf t g2 w8).1
      have e1 : rnd1 f t m w = ⟨f.vars, f.arrs, f.esc, orI f.lk w⟩ := by unfold rnd1; rw [if_neg h0, if_neg h1, if_pos h6]
      rw [e1] at q1 ⊢
      refine go3 ?_
      refine WO.binG (op := .or) (k := .i64) (c := .int .i64 (orI f.lk w)) rfl rfl rfl rfl rfl rfl ?_
      refine go3 ?_
      refine WO.st (cs' := flO ⟨f.vars, f.arrs, f.esc, orI f.lk w⟩) rfl rfl rfl rfl rfl rfl rfl ?_
      generalize Fl.mk f.vars f.arrs f.esc (orI f.lk w) = g at *
      refine WO.keep (e' := [(1, .ip (prR p)), (0, .ad 1000000 [] 0), (5, .op [.ip (stR t ++ bd), .im ifs.length (encL (eP p.body) ifs)]), (9, i64 w), (1000000, .op (flO g))]) (.cons rfl (.cons rfl (.cons rfl (.cons rfl (.cons rfl .nil))))) ?_
      refine go3 ?_
      by_cases hT : stT p t
      · refine WO.call rfl rfl rfl (stmtTraps p t bd ht (r := true) ⟨fun _ => hT, fun _ => rfl⟩) rfl rfl ?_
        have e2 : rnd2 p g t w = ⟨g.vars, g.arrs, orI g.esc w, g.lk⟩ := by unfold rnd2; rw [if_pos hT]
        have q2 := (rnd2_ok q1 t w8).1
        rw [e2] at q2 ⊢
        refine go3 ?_
        refine WO.binG (op := .or) (k := .i64) (c := .int .i64 (orI g.esc w)) rfl rfl rfl rfl rfl rfl ?_
        refine go3 ?_
        refine WO.st (cs' := flO ⟨g.vars, g.arrs, orI g.esc w, g.lk⟩) rfl rfl rfl rfl rfl rfl rfl ?_
        generalize Fl.mk g.vars g.arrs (orI g.esc w) g.lk = u at *
        refine go3 ?_
        refine WC.regionDd ⟨[[], [0], [0, 1], [0, 1, 2], [], [4], [4, 5], [4, 5, 6], [0, 1, 2, 3, 4, 5, 6, 7], [0, 1, 2, 3, 4, 5, 6, 7, 8], [0, 1, 2, 3, 4, 5, 6, 7, 8, 9], [0, 1, 2, 3, 4, 5, 6, 7, 8, 9, 10]], [0, 1, 2, 3, 4, 5, 6, 7, 8, 9, 10], [], [116, 117, 118, 119, 120, 121, 122, 123, 124, 125, 126], [0, 1, 2, 3, 4, 5, 6, 7, 8, 9, 10, 11], [([120, 121, 122, 123], [120, 121, 122, 123], false), ([120, 121, 122, 123], [120, 121, 122, 123], false), ([120, 121, 122, 123], [120, 121, 122, 123], false), ([120, 121, 122, 123], [120, 121, 122, 123], false), ([116, 117, 118, 119], [116, 117, 118, 119], false), ([116, 117, 118, 119], [116, 117, 118, 119], false), ([116, 117, 118, 119], [116, 117, 118, 119], false), ([116, 117, 118, 119], [116, 117, 118, 119], false), ([], [], false), ([], [], false), ([], [], false), ([], [], false)]⟩ (by kernel_rfl) ?_
        refine go3 ?_
        refine WD.q rfl rfl rfl rfl rfl (QE.binG (k := .i64) (v := .int .i64 (orI u.lk u.esc)) rfl rfl rfl rfl) rfl rfl rfl ?_
        refine go3 ?_
        refine WO.st (cs' := flO (rnd3 u)) rfl rfl rfl rfl rfl rfl rfl ?_
        refine go3 ?_
        exact ret0 rfl rfl
      · refine WO.call rfl rfl rfl (stmtTraps p t bd ht (r := false) ⟨fun h => by simp at h, fun h => absurd h hT⟩) rfl rfl ?_
        have e2 : rnd2 p g t w = g := by unfold rnd2; rw [if_neg hT]
        rw [e2]
        refine go3 ?_
        refine WC.regionDd ⟨[[], [0], [0, 1], [0, 1, 2], [], [4], [4, 5], [4, 5, 6], [0, 1, 2, 3, 4, 5, 6, 7], [0, 1, 2, 3, 4, 5, 6, 7, 8], [0, 1, 2, 3, 4, 5, 6, 7, 8, 9], [0, 1, 2, 3, 4, 5, 6, 7, 8, 9, 10]], [0, 1, 2, 3, 4, 5, 6, 7, 8, 9, 10], [], [116, 117, 118, 119, 120, 121, 122, 123, 124, 125, 126], [0, 1, 2, 3, 4, 5, 6, 7, 8, 9, 10, 11], [([120, 121, 122, 123], [120, 121, 122, 123], false), ([120, 121, 122, 123], [120, 121, 122, 123], false), ([120, 121, 122, 123], [120, 121, 122, 123], false), ([120, 121, 122, 123], [120, 121, 122, 123], false), ([116, 117, 118, 119], [116, 117, 118, 119], false), ([116, 117, 118, 119], [116, 117, 118, 119], false), ([116, 117, 118, 119], [116, 117, 118, 119], false), ([116, 117, 118, 119], [116, 117, 118, 119], false), ([], [], false), ([], [], false), ([], [], false), ([], [], false)]⟩ (by kernel_rfl) ?_
        refine go3 ?_
        refine WD.q rfl rfl rfl rfl rfl (QE.binG (k := .i64) (v := .int .i64 (orI g.lk g.esc)) rfl rfl rfl rfl) rfl rfl rfl ?_
        refine go3 ?_
        refine WO.st (cs' := flO (rnd3 g)) rfl rfl rfl rfl rfl rfl rfl ?_
        refine go3 ?_
        exact ret0 rfl rfl
    by_cases h7 : t.op = 7
    · have q1 := (rnd1_ok hf t g2 w8).1
      have e1 : rnd1 f t m w = ⟨f.vars, f.arrs, orI f.esc m, f.lk⟩ := by unfold rnd1; rw [if_neg h0, if_neg h1, if_neg h6, if_pos h7]
      rw [e1] at q1 ⊢
      refine go3 ?_
      refine WO.binG (op := .or) (k := .i64) (c := .int .i64 (orI f.esc m)) rfl rfl rfl rfl rfl rfl ?_
      refine go3 ?_
      refine WO.st (cs' := flO ⟨f.vars, f.arrs, orI f.esc m, f.lk⟩) rfl rfl rfl rfl rfl rfl rfl ?_
      generalize Fl.mk f.vars f.arrs (orI f.esc m) f.lk = g at *
      refine WO.keep (e' := [(1, .ip (prR p)), (0, .ad 1000000 [] 0), (5, .op [.ip (stR t ++ bd), .im ifs.length (encL (eP p.body) ifs)]), (9, i64 w), (1000000, .op (flO g))]) (.cons rfl (.cons rfl (.cons rfl (.cons rfl (.cons rfl .nil))))) ?_
      refine go3 ?_
      by_cases hT : stT p t
      · refine WO.call rfl rfl rfl (stmtTraps p t bd ht (r := true) ⟨fun _ => hT, fun _ => rfl⟩) rfl rfl ?_
        have e2 : rnd2 p g t w = ⟨g.vars, g.arrs, orI g.esc w, g.lk⟩ := by unfold rnd2; rw [if_pos hT]
        have q2 := (rnd2_ok q1 t w8).1
        rw [e2] at q2 ⊢
        refine go3 ?_
        refine WO.binG (op := .or) (k := .i64) (c := .int .i64 (orI g.esc w)) rfl rfl rfl rfl rfl rfl ?_
        refine go3 ?_
        refine WO.st (cs' := flO ⟨g.vars, g.arrs, orI g.esc w, g.lk⟩) rfl rfl rfl rfl rfl rfl rfl ?_
        generalize Fl.mk g.vars g.arrs (orI g.esc w) g.lk = u at *
        refine go3 ?_
        refine WC.regionDd ⟨[[], [0], [0, 1], [0, 1, 2], [], [4], [4, 5], [4, 5, 6], [0, 1, 2, 3, 4, 5, 6, 7], [0, 1, 2, 3, 4, 5, 6, 7, 8], [0, 1, 2, 3, 4, 5, 6, 7, 8, 9], [0, 1, 2, 3, 4, 5, 6, 7, 8, 9, 10]], [0, 1, 2, 3, 4, 5, 6, 7, 8, 9, 10], [], [116, 117, 118, 119, 120, 121, 122, 123, 124, 125, 126], [0, 1, 2, 3, 4, 5, 6, 7, 8, 9, 10, 11], [([120, 121, 122, 123], [120, 121, 122, 123], false), ([120, 121, 122, 123], [120, 121, 122, 123], false), ([120, 121, 122, 123], [120, 121, 122, 123], false), ([120, 121, 122, 123], [120, 121, 122, 123], false), ([116, 117, 118, 119], [116, 117, 118, 119], false), ([116, 117, 118, 119], [116, 117, 118, 119], false), ([116, 117, 118, 119], [116, 117, 118, 119], false), ([116, 117, 118, 119], [116, 117, 118, 119], false), ([], [], false), ([], [], false), ([], [], false), ([], [], false)]⟩ (by kernel_rfl) ?_
        refine go3 ?_
        refine WD.q rfl rfl rfl rfl rfl (QE.binG (k := .i64) (v := .int .i64 (orI u.lk u.esc)) rfl rfl rfl rfl) rfl rfl rfl ?_
        refine go3 ?_
        refine WO.st (cs' := flO (rnd3 u)) rfl rfl rfl rfl rfl rfl rfl ?_
        refine go3 ?_
        exact ret0 rfl rfl
      · refine WO.call rfl rfl rfl (stmtTraps p t bd ht (r := false) ⟨fun h => by simp at h, fun h => absurd h hT⟩) rfl rfl ?_
        have e2 : rnd2 p g t w = g := by unfold rnd2; rw [if_neg hT]
        rw [e2]
        refine go3 ?_
        refine WC.regionDd ⟨[[], [0], [0, 1], [0, 1, 2], [], [4], [4, 5], [4, 5, 6], [0, 1, 2, 3, 4, 5, 6, 7], [0, 1, 2, 3, 4, 5, 6, 7, 8], [0, 1, 2, 3, 4, 5, 6, 7, 8, 9], [0, 1, 2, 3, 4, 5, 6, 7, 8, 9, 10]], [0, 1, 2, 3, 4, 5, 6, 7, 8, 9, 10], [], [116, 117, 118, 119, 120, 121, 122, 123, 124, 125, 126], [0, 1, 2, 3, 4, 5, 6, 7, 8, 9, 10, 11], [([120, 121, 122, 123], [120, 121, 122, 123], false), ([120, 121, 122, 123], [120, 121, 122, 123], false), ([120, 121, 122, 123], [120, 121, 122, 123], false), ([120, 121, 122, 123], [120, 121, 122, 123], false), ([116, 117, 118, 119], [116, 117, 118, 119], false), ([116, 117, 118, 119], [116, 117, 118, 119], false), ([116, 117, 118, 119], [116, 117, 118, 119], false), ([116, 117, 118, 119], [116, 117, 118, 119], false), ([], [], false), ([], [], false), ([], [], false), ([], [], false)]⟩ (by kernel_rfl) ?_
        refine go3 ?_
        refine WD.q rfl rfl rfl rfl rfl (QE.binG (k := .i64) (v := .int .i64 (orI g.lk g.esc)) rfl rfl rfl rfl) rfl rfl rfl ?_
        refine go3 ?_
        refine WO.st (cs' := flO (rnd3 g)) rfl rfl rfl rfl rfl rfl rfl ?_
        refine go3 ?_
        exact ret0 rfl rfl
    · have q1 := (rnd1_ok hf t g2 w8).1
      have e1 : rnd1 f t m w = f := by unfold rnd1; rw [if_neg h0, if_neg h1, if_neg h6, if_neg h7]
      rw [e1] at q1 ⊢
      generalize f = g at *
      refine go3 ?_
      by_cases hT : stT p t
      · refine WO.call rfl rfl rfl (stmtTraps p t bd ht (r := true) ⟨fun _ => hT, fun _ => rfl⟩) rfl rfl ?_
        have e2 : rnd2 p g t w = ⟨g.vars, g.arrs, orI g.esc w, g.lk⟩ := by unfold rnd2; rw [if_pos hT]
        have q2 := (rnd2_ok q1 t w8).1
        rw [e2] at q2 ⊢
        refine go3 ?_
        refine WO.binG (op := .or) (k := .i64) (c := .int .i64 (orI g.esc w)) rfl rfl rfl rfl rfl rfl ?_
        refine go3 ?_
        refine WO.st (cs' := flO ⟨g.vars, g.arrs, orI g.esc w, g.lk⟩) rfl rfl rfl rfl rfl rfl rfl ?_
        generalize Fl.mk g.vars g.arrs (orI g.esc w) g.lk = u at *
        refine go3 ?_
        refine WC.regionDd ⟨[[], [0], [0, 1], [0, 1, 2], [], [4], [4, 5], [4, 5, 6], [0, 1, 2, 3, 4, 5, 6, 7], [0, 1, 2, 3, 4, 5, 6, 7, 8], [0, 1, 2, 3, 4, 5, 6, 7, 8, 9], [0, 1, 2, 3, 4, 5, 6, 7, 8, 9, 10]], [0, 1, 2, 3, 4, 5, 6, 7, 8, 9, 10], [], [116, 117, 118, 119, 120, 121, 122, 123, 124, 125, 126], [0, 1, 2, 3, 4, 5, 6, 7, 8, 9, 10, 11], [([120, 121, 122, 123], [120, 121, 122, 123], false), ([120, 121, 122, 123], [120, 121, 122, 123], false), ([120, 121, 122, 123], [120, 121, 122, 123], false), ([120, 121, 122, 123], [120, 121, 122, 123], false), ([116, 117, 118, 119], [116, 117, 118, 119], false), ([116, 117, 118, 119], [116, 117, 118, 119], false), ([116, 117, 118, 119], [116, 117, 118, 119], false), ([116, 117, 118, 119], [116, 117, 118, 119], false), ([], [], false), ([], [], false), ([], [], false), ([], [], false)]⟩ (by kernel_rfl) ?_
        refine go3 ?_
        refine WD.q rfl rfl rfl rfl rfl (QE.binG (k := .i64) (v := .int .i64 (orI u.lk u.esc)) rfl rfl rfl rfl) rfl rfl rfl ?_
        refine go3 ?_
        refine WO.st (cs' := flO (rnd3 u)) rfl rfl rfl rfl rfl rfl rfl ?_
        refine go3 ?_
        exact ret0 rfl rfl
      · refine WO.call rfl rfl rfl (stmtTraps p t bd ht (r := false) ⟨fun h => by simp at h, fun h => absurd h hT⟩) rfl rfl ?_
        have e2 : rnd2 p g t w = g := by unfold rnd2; rw [if_neg hT]
        rw [e2]
        refine go3 ?_
        refine WC.regionDd ⟨[[], [0], [0, 1], [0, 1, 2], [], [4], [4, 5], [4, 5, 6], [0, 1, 2, 3, 4, 5, 6, 7], [0, 1, 2, 3, 4, 5, 6, 7, 8], [0, 1, 2, 3, 4, 5, 6, 7, 8, 9], [0, 1, 2, 3, 4, 5, 6, 7, 8, 9, 10]], [0, 1, 2, 3, 4, 5, 6, 7, 8, 9, 10], [], [116, 117, 118, 119, 120, 121, 122, 123, 124, 125, 126], [0, 1, 2, 3, 4, 5, 6, 7, 8, 9, 10, 11], [([120, 121, 122, 123], [120, 121, 122, 123], false), ([120, 121, 122, 123], [120, 121, 122, 123], false), ([120, 121, 122, 123], [120, 121, 122, 123], false), ([120, 121, 122, 123], [120, 121, 122, 123], false), ([116, 117, 118, 119], [116, 117, 118, 119], false), ([116, 117, 118, 119], [116, 117, 118, 119], false), ([116, 117, 118, 119], [116, 117, 118, 119], false), ([116, 117, 118, 119], [116, 117, 118, 119], false), ([], [], false), ([], [], false), ([], [], false), ([], [], false)]⟩ (by kernel_rfl) ?_
        refine go3 ?_
        refine WD.q rfl rfl rfl rfl rfl (QE.binG (k := .i64) (v := .int .i64 (orI g.lk g.esc)) rfl rfl rfl rfl) rfl rfl rfl ?_
        refine go3 ?_
        refine WO.st (cs' := flO (rnd3 g)) rfl rfl rfl rfl rfl rfl rfl ?_
        refine go3 ?_
        exact ret0 rfl rfl
end Go.Eng.C

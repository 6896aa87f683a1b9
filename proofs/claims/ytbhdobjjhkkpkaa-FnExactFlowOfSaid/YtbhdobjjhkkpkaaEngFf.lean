/- Contracts of functions, by the engine: flows, of the reference: a round, FlowOf, IsQuiet. -/
import Derived.Test.YtbhdobjjhkkpkaaEngFe
import Derived.Test.YtbhdobjjhkkpkaaEngV2
namespace Go.Eng.C
open Go Go.Eng Go.RowKit Go.Proofs
set_option linter.unusedVariables false
set_option linter.unusedSimpArgs false
set_option maxRecDepth 10000
variable {X : FuncId → List AV → AV → List AV → Prop}
theorem nm_spec_l9Round : (Try.f83.name == "runtime.NumGoroutine") = false := by decide
theorem nm_spec_FlowOf : (Try.f26.name == "runtime.NumGoroutine") = false := by decide
/-- A flow that a variable owns, with views for its parts. -/
abbrev flV (r : Nat) (f : Fl) : List AV := [.vw r [0] 0 f.vars.length, .vw r [1] 0 f.arrs.length, i64 f.esc, i64 f.lk]
/-- It is only read by a call. -/
theorem frzFl {env : Env} {r : Nat} {f : Fl} {zs ts : List AV} (h0 : getN [0] (look env r) = some (ints f.vars)) (h1 : getN [1] (look env r) = some (ints f.arrs)) (k : FrzL (look env) zs ts) : FrzL (look env) (.ag (flV r f) :: zs) (.ag (flR f) :: ts) := by
  refine .ag (.cons ?_ (.cons ?_ (.cons (.plain _ rfl) (.cons (.plain _ rfl) .nil)))) k
  · have := Frz.vw (σ := look env) r 0 f.vars.length 2 1 f.vars.length [0] (encL eI f.vars) h0 (by rw [encL_length (f := eI) (sz := 1)]; omega)
    rwa [List.drop_zero, List.take_of_length_le (by rw [encL_length (f := eI) (sz := 1)]; exact Nat.le_refl _), hardL_pl (encL_pl (f := eI) _)] at this
  · have := Frz.vw (σ := look env) r 0 f.arrs.length 2 1 f.arrs.length [1] (encL eI f.arrs) h1 (by rw [encL_length (f := eI) (sz := 1)]; omega)
    rwa [List.drop_zero, List.take_of_length_le (by rw [encL_length (f := eI) (sz := 1)]; exact Nat.le_refl _), hardL_pl (encL_pl (f := eI) _)] at this
theorem noIm_flO (f : Fl) : noIm (.ag (flO f)) = true := by simp only [flO, noIm, noImL, noIm_eI, Bool.and_self]
set_option maxHeartbeats 16000000 in
theorem l9Round (p : Pr) (f : Fl) (hp : RP p) (hl : p.body.length ≤ 40) (hf : FlOk p f) (hv : varsN p ≤ 1000) : Ev Try.prog X (.fn 83 [.ag (prR p), .ag (flR f)] (.ag (flO (posR p p.body.length 0 f))) [.dead, .dead]) := by
  have hnv := hf.nv
  have hna := hf.na
  have ha2 := hp.a
  refine Ev.fnW (env := [(0, .ag (prR p)), (1, .ag (flR f))]) Try.func83 rfl nm_spec_l9Round rfl rfl (by kernel_rfl) (.cons rfl (.cons rfl .nil)) ?_
  refine go3 ?_
  refine WO.apI (cs := []) rfl rfl rfl rfl rfl (encL_length _) rfl (by unfold maxLen; omega) (by omega) rfl ?_
  rw [List.nil_append, Nat.zero_add]
  refine go3 ?_
  refine WO.stOp (a := 0) (cs' := [ints f.vars, .im f.arrs.length (encL eI f.arrs), i64 f.esc, i64 f.lk]) rfl rfl rfl rfl (encL_length _) rfl rfl rfl rfl rfl ?_
  refine go3 ?_
  refine WO.apI (cs := []) rfl rfl rfl rfl rfl (encL_length _) rfl (by unfold maxLen; omega) (by omega) rfl ?_
  rw [List.nil_append, Nat.zero_add]
  refine go3 ?_
  refine WO.stOp (a := 1) (cs' := flO f) rfl rfl rfl rfl (encL_length _) rfl rfl rfl rfl rfl ?_
  refine go3 ?_
  refine WC.loopS (S := Nat) (fun k => [(2, .op (prR p)), (3, .op (flO (posR p k 0 f))), (4, .op [.nl, .nl, i64 0, i64 0]), (5, i64 k)]) (fun k => k ≤ p.body.length ∧ FlOk p (posR p k 0 f)) (fun k => p.body.length - k) 0 (.cons rfl (.cons rfl (.cons rfl (.cons rfl .nil)))) ⟨Nat.zero_le _, hf⟩ ?_
  rintro k ⟨g1, g2⟩
  refine go3 ?_
  refine WO.cmp rfl rfl rfl rfl rfl (fun h3 => ?_) (fun h3 => ?_)
  · have hk : k < p.body.length := by omega
    have ht := hp.at_ hk
    have e1 : posR p (k + 1) 0 f = rndF p (posR p k 0 f) (p.body.getD k zst) ((arnd p.body k k).map fun i => p.body.getD i zst) := by
      rw [posR_add p k 1 0 f, posR_succ, Nat.zero_add]; rfl
    have fok1 : FlOk p (posR p (k + 1) 0 f) := by rw [e1]; exact (rndF_ok g2 _ _).1
    obtain ⟨f', hf'⟩ : ∃ f', posR p (k + 1) 0 f = f' := ⟨_, rfl⟩
    rw [hf'] at e1 fok1
    obtain ⟨f1, hf1⟩ : ∃ f1, posR p k 0 f = f1 := ⟨_, rfl⟩
    rw [hf1] at e1 g2 ⊢
    have hend : ∀ {Q : Ex → (Nat → AV) → Prop} (env : Env), Keep (look env) [(2, .op (prR p)), (3, .op (flO f')), (4, .op [.nl, .nl, i64 0, i64 0]), (5, i64 ((k : Int) + 1))] → lpK (fun k => [(2, .op (prR p)), (3, .op (flO (posR p k 0 f))), (4, .op [.nl, .nl, i64 0, i64 0]), (5, i64 k)]) (fun k => k ≤ p.body.length ∧ FlOk p (posR p k 0 f)) (fun k => p.body.length - k) k Q .normal (look env) := fun {Q} env h => lpK.mk (k + 1) (by rw [← hf'] at h; exact h) ⟨hk, by rw [hf']; exact fok1⟩ (show p.body.length - (k + 1) < p.body.length - k by omega)
    clear hnv hna hf hf1
    have hnv := g2.nv
    have hna := g2.na
    have cA := l9Around (X := X) p f1 hp.s g2 hl k (by omega)
    have a8 := ctxL_8 g2 ((arnd p.body k k).map fun i => p.body.getD i zst) 0 L8_0
    have ec := ctxL_or g2 ((arnd p.body k k).map fun i => p.body.getD i zst) f1.esc 0 g2.e L8_0
    rw [(orI_z g2.e).2.1] at ec
    have c8 := ctxF_8 g2 ((arnd p.body k k).map fun i => p.body.getD i zst)
    unfold rndF at e1
    have ectx : ctxL f1 ((arnd p.body k k).map fun i => p.body.getD i zst) f1.esc = ctxF f1 ((arnd p.body k k).map fun i => p.body.getD i zst) := rfl
    rw [ectx] at ec
    obtain ⟨c, hc⟩ : ∃ c, c = ctxF f1 ((arnd p.body k k).map fun i => p.body.getD i zst) := ⟨_, rfl⟩
    rw [← hc] at ec c8 e1
    obtain ⟨c0, hc0⟩ : ∃ c, c = ctxL f1 ((arnd p.body k k).map fun i => p.body.getD i zst) 0 := ⟨_, rfl⟩
    rw [← hc0] at ec cA a8
    clear ectx hc hc0
    obtain ⟨t, hte⟩ : ∃ t, p.body.getD k zst = t := ⟨_, rfl⟩
    rw [hte] at ht e1
    have q1 := lab_8 g2 t.pl
    have q2 := lab_8 g2 t.ex
    have cl1 := l9Label (X := X) p f1 t.pl g2 (nmF g2 ht.mays.1).2 (nmF g2 ht.mays.1).1
    have cl2 := l9Label (X := X) p f1 t.ex g2 (nmF g2 ht.mays.2.1).2 (nmF g2 ht.mays.2.1).1
    have ew : orI c (orI (lab f1 t.pl) (lab f1 t.ex)) = ownF f1 t c := by
      unfold ownF
      rw [orI_comm c8 (orI_8 q1 q2), orI_comm q1 q2]
    have w8 := ownF_8 g2 t c8
    obtain ⟨w, hw⟩ : ∃ w, w = ownF f1 t c := ⟨_, rfl⟩
    rw [← hw] at w8 e1 ew
    refine go3 ?_
    refine WO.ixN (f := stR) zst rfl rfl rfl hk rfl ?_
    rw [hte]
    refine go3 ?_
    refine WC.regionDd ⟨[[], [0], [], [2], [], [], [2, 3, 4, 5], [0, 1, 2, 3, 4, 5, 6], [0, 1, 2, 3, 4, 5, 6, 7]], [0, 1, 2, 3, 4, 5, 6], [], [31, 32, 33, 34, 35, 36, 37], [0, 1, 2, 3, 4, 5, 6, 7, 8], [([33, 34, 35, 36, 37], [33, 34, 35, 36, 37], false), ([33, 34, 35, 36, 37], [33, 34, 35, 36, 37], false), ([31, 32, 35, 36], [31, 32, 35, 36], false), ([31, 32, 35, 36], [31, 32, 35, 36], false), ([31, 32, 33, 34, 36], [31, 32, 33, 34, 36], false), ([31, 32, 33, 34, 35], [31, 32, 33, 34, 35], false), ([31, 32], [31, 32], false), ([], [], false), ([], [], false)]⟩ (by kernel_rfl) ?_
    refine go3 ?_
    refine WD.q rfl rfl rfl rfl rfl (QE.ldG rfl rfl rfl (L := flV 3 f1) rfl) rfl rfl rfl ?_
    refine go3 ?_
    refine WD.q rfl rfl rfl rfl rfl (QE.callF (.cons (.plain _ rfl) (frzFl rfl rfl (.cons (.plain _ rfl) .nil))) cA rfl) rfl rfl rfl ?_
    refine go3 ?_
    refine WO.call rfl rfl rfl (l9Unite _ _ g2.e a8) rfl rfl ?_
    rw [ec]
    refine go3 ?_
    refine WC.regionDd ⟨[[], [], [], [2], [1, 2, 3], [], [], [6], [1, 2, 3, 4, 5, 6, 7], [1, 2, 3, 4, 5, 6, 7, 8], [0, 1, 2, 3, 4, 5, 6, 7, 8, 9], [0, 1, 2, 3, 4, 5, 6, 7, 8, 9, 10]], [0, 1, 2, 3, 4, 5, 6, 7, 8, 9], [], [39, 40, 41, 42, 43, 44, 45, 46, 47, 48], [0, 1, 2, 3, 4, 5, 6, 7, 8, 9, 10, 11], [([40, 41, 42, 43, 44, 45, 46, 47, 48], [40, 41, 42, 43, 44, 45, 46, 47, 48], false), ([39, 41, 42, 44, 45, 46], [39, 41, 42, 44, 45, 46], false), ([39, 40, 44, 45, 46], [39, 40, 44, 45, 46], false), ([39, 40, 44, 45, 46], [39, 40, 44, 45, 46], false), ([39, 44, 45, 46], [39, 44, 45, 46], false), ([39, 40, 41, 42, 43, 45, 46], [39, 40, 41, 42, 43, 45, 46], false), ([39, 40, 41, 42, 43, 44], [39, 40, 41, 42, 43, 44], false), ([39, 40, 41, 42, 43, 44], [39, 40, 41, 42, 43, 44], false), ([39], [39], false), ([39], [39], false), ([], [], false), ([], [], false)]⟩ (by kernel_rfl) ?_
    refine go3 ?_
    refine WD.q rfl rfl rfl rfl rfl (QE.ldG rfl rfl rfl (L := flV 3 f1) rfl) rfl rfl rfl ?_
    refine go3 ?_
    refine WD.q rfl rfl rfl rfl rfl (QE.callF (frzFl rfl rfl (.cons (.plain _ rfl) .nil)) cl1 rfl) rfl rfl rfl ?_
    refine WD.q rfl rfl rfl rfl rfl (QE.ldG rfl rfl rfl (L := flV 3 f1) rfl) rfl rfl rfl ?_
    refine go3 ?_
    refine WD.q rfl rfl rfl rfl rfl (QE.callF (frzFl rfl rfl (.cons (.plain _ rfl) .nil)) cl2 rfl) rfl rfl rfl ?_
    refine WD.q rfl rfl rfl rfl rfl (QE.call rfl rfl (l9Unite _ _ q1 q2)) rfl rfl rfl ?_
    refine go3 ?_
    refine WO.call rfl rfl rfl (l9Unite _ _ c8 (orI_8 q1 q2)) rfl rfl ?_
    rw [ew]
    refine WO.keep (e' := [(2, .op (prR p)), (3, .op (flO f1)), (4, .op [.nl, .nl, i64 0, i64 0]), (5, i64 k), (6, .op (stR t)), (7, i64 c), (49, i64 w)]) (.cons rfl (.cons rfl (.cons rfl (.cons rfl (.cons rfl (.cons rfl (.cons rfl .nil))))))) ?_
    refine go3 ?_
    clear hw ew cl1 cl2 cA ec
    by_cases h0 : t.op = 0
    · have m := (stOk0 h0).1 ht
      have hin : 0 ≤ insN p := by unfold insN; omega
      obtain ⟨N, hN⟩ : ∃ N : Nat, t.n = N := ⟨t.n.toNat, by omega⟩
      have hNv : N < f1.vars.length := by omega
      have v8 := getD_8 g2.v N
      have q1 := (rnd1_ok g2 t c8 w8).1
      have e0 : rnd1 f1 t c w = ⟨setO f1.vars N w, f1.arrs, f1.esc, f1.lk⟩ := by unfold rnd1; rw [if_pos h0, hN, Int.toNat_natCast]
      rw [e0] at q1 e1
      refine go3 ?_
      refine WC.regionDd ⟨[[], [0], [], [2], [], [4], [], [6], [4, 5, 6, 7], [4, 5, 6, 7, 8], [], [4, 5, 6, 7, 8, 9, 10], [0, 1, 2, 3, 4, 5, 6, 7, 8, 9, 10, 11], [0, 1, 2, 3, 4, 5, 6, 7, 8, 9, 10, 11, 12]], [0, 1, 2, 3, 4, 5, 6, 7, 8, 9, 10, 11, 12], [], [54, 55, 56, 57, 58, 59, 60, 61, 62, 63, 64, 65, 66], [0, 1, 2, 3, 4, 5, 6, 7, 8, 9, 10, 11, 12, 13], [([56, 57, 58, 59, 60, 61, 62, 63, 64, 65], [56, 57, 58, 59, 60, 61, 62, 63, 64, 65], false), ([56, 57, 58, 59, 60, 61, 62, 63, 64, 65], [56, 57, 58, 59, 60, 61, 62, 63, 64, 65], false), ([54, 55, 58, 59, 60, 61, 62, 63, 64, 65], [54, 55, 58, 59, 60, 61, 62, 63, 64, 65], false), ([54, 55, 58, 59, 60, 61, 62, 63, 64, 65], [54, 55, 58, 59, 60, 61, 62, 63, 64, 65], false), ([54, 55, 56, 57, 60, 61, 64], [54, 55, 56, 57, 60, 61, 64], false), ([54, 55, 56, 57, 60, 61, 64], [54, 55, 56, 57, 60, 61, 64], false), ([54, 55, 56, 57, 58, 59, 64], [54, 55, 56, 57, 58, 59, 64], false), ([54, 55, 56, 57, 58, 59, 64], [54, 55, 56, 57, 58, 59, 64], false), ([54, 55, 56, 57, 64], [54, 55, 56, 57, 64], false), ([54, 55, 56, 57, 64], [54, 55, 56, 57, 64], false), ([54, 55, 56, 57, 58, 59, 60, 61, 62, 63], [54, 55, 56, 57, 58, 59, 60, 61, 62, 63], false), ([54, 55, 56, 57], [54, 55, 56, 57], false), ([], [], false), ([], [], false)]⟩ (by kernel_rfl) ?_
      refine go3 ?_
      refine WD.q rfl rfl rfl rfl rfl (QE.ldOwP (p := []) (i := 0) rfl rfl rfl) rfl rfl rfl ?_
      refine go3 ?_
      rw [hN]
      refine WD.q rfl rfl rfl rfl rfl (QE.ldOwP (p := []) (i := 0) rfl rfl rfl) rfl rfl rfl ?_
      refine go3 ?_
      rw [hN]
      refine WD.q rfl rfl rfl rfl rfl (QE.ixP N rfl rfl (by rw [encL_len1]; exact Nat.le_refl _) rfl hNv) rfl rfl rfl ?_
      refine WD.q rfl rfl rfl rfl rfl (QE.ldO (p := [0]) rfl rfl (ints_at hNv) rfl) rfl rfl rfl ?_
      refine go3 ?_
      refine WD.q rfl rfl rfl rfl rfl (QE.call rfl rfl (l9Unite _ _ v8 w8)) rfl rfl rfl ?_
      refine WD.q rfl rfl rfl rfl rfl (QE.ixP N rfl rfl (by rw [encL_len1]; exact Nat.le_refl _) rfl hNv) rfl rfl rfl ?_
      refine go3 ?_
      refine WO.stP (p := [0]) (i := N) (z := .op (flO ⟨setO f1.vars N w, f1.arrs, f1.esc, f1.lk⟩)) rfl rfl rfl rfl (by rw [encL_len1]; exact hNv) rfl (setN_fv f1 hNv) rfl ?_
      generalize Fl.mk (setO f1.vars N w) f1.arrs f1.esc f1.lk = g at *
      refine WO.keep (e' := [(2, .op (prR p)), (4, .op [.nl, .nl, i64 0, i64 0]), (5, i64 k), (6, .op (stR t)), (8, i64 w), (3, .op (flO g))]) (.cons rfl (.cons rfl (.cons rfl (.cons rfl (.cons rfl (.cons rfl .nil)))))) ?_
      refine go3 ?_
      by_cases hT : stT p t
      · refine WO.call rfl rfl rfl (l9Stmt p t hp.w1 hp.w8 ht (r := true) ⟨fun _ => hT, fun _ => rfl⟩) rfl rfl ?_
        have e2 : rnd2 p g t w = ⟨g.vars, g.arrs, orI g.esc w, g.lk⟩ := by unfold rnd2; rw [if_pos hT]
        have q2 := (rnd2_ok q1 t w8).1
        rw [e2] at q2 e1
        refine go3 ?_
        refine WO.call rfl rfl rfl (l9Unite _ _ q1.e w8) rfl rfl ?_
        refine go3 ?_
        refine WO.st (cs' := flO ⟨g.vars, g.arrs, orI g.esc w, g.lk⟩) rfl rfl rfl rfl rfl rfl rfl ?_
        generalize Fl.mk g.vars g.arrs (orI g.esc w) g.lk = u at *
        refine go3 ?_
        refine WO.call rfl rfl rfl (l9Unite _ _ q2.l q2.e) rfl rfl ?_
        refine go3 ?_
        refine WO.st (cs' := flO (rnd3 u)) rfl rfl rfl rfl rfl rfl rfl ?_
        rw [← e1]
        refine go3 ?_
        exact hend _ (.cons rfl (.cons rfl (.cons rfl (.cons rfl .nil))))
      · refine WO.call rfl rfl rfl (l9Stmt p t hp.w1 hp.w8 ht (r := false) ⟨fun h => by simp at h, fun h => absurd h hT⟩) rfl rfl ?_
        have e2 : rnd2 p g t w = g := by unfold rnd2; rw [if_neg hT]
        rw [e2] at e1
        refine go3 ?_
        refine WO.call rfl rfl rfl (l9Unite _ _ q1.l q1.e) rfl rfl ?_
        refine go3 ?_
        refine WO.st (cs' := flO (rnd3 g)) rfl rfl rfl rfl rfl rfl rfl ?_
        rw [← e1]
        refine go3 ?_
        exact hend _ (.cons rfl (.cons rfl (.cons rfl (.cons rfl .nil))))
    by_cases h1 : t.op = 1
    · obtain ⟨-, -, m3⟩ := ht.mays
      obtain ⟨b0, b1⟩ := m3 h1
      obtain ⟨N, hN⟩ : ∃ N : Nat, t.n = N := ⟨t.n.toNat, by omega⟩
      have hNv : N < f1.arrs.length := by omega
      have v8 := getD_8 g2.a N
      have q1 := (rnd1_ok g2 t c8 w8).1
      have e0 : rnd1 f1 t c w = ⟨f1.vars, setO f1.arrs N w, f1.esc, f1.lk⟩ := by unfold rnd1; rw [if_neg h0, if_pos h1, hN, Int.toNat_natCast]
      rw [e0] at q1 e1
      refine go3 ?_
      refine WC.regionDd ⟨[[], [0], [], [2], [], [4], [], [6], [4, 5, 6, 7], [4, 5, 6, 7, 8], [], [4, 5, 6, 7, 8, 9, 10], [0, 1, 2, 3, 4, 5, 6, 7, 8, 9, 10, 11], [0, 1, 2, 3, 4, 5, 6, 7, 8, 9, 10, 11, 12]], [0, 1, 2, 3, 4, 5, 6, 7, 8, 9, 10, 11, 12], [], [69, 70, 71, 72, 73, 74, 75, 76, 77, 78, 79, 80, 81], [0, 1, 2, 3, 4, 5, 6, 7, 8, 9, 10, 11, 12, 13], [([71, 72, 73, 74, 75, 76, 77, 78, 79, 80], [71, 72, 73, 74, 75, 76, 77, 78, 79, 80], false), ([71, 72, 73, 74, 75, 76, 77, 78, 79, 80], [71, 72, 73, 74, 75, 76, 77, 78, 79, 80], false), ([69, 70, 73, 74, 75, 76, 77, 78, 79, 80], [69, 70, 73, 74, 75, 76, 77, 78, 79, 80], false), ([69, 70, 73, 74, 75, 76, 77, 78, 79, 80], [69, 70, 73, 74, 75, 76, 77, 78, 79, 80], false), ([69, 70, 71, 72, 75, 76, 79], [69, 70, 71, 72, 75, 76, 79], false), ([69, 70, 71, 72, 75, 76, 79], [69, 70, 71, 72, 75, 76, 79], false), ([69, 70, 71, 72, 73, 74, 79], [69, 70, 71, 72, 73, 74, 79], false), ([69, 70, 71, 72, 73, 74, 79], [69, 70, 71, 72, 73, 74, 79], false), ([69, 70, 71, 72, 79], [69, 70, 71, 72, 79], false), ([69, 70, 71, 72, 79], [69, 70, 71, 72, 79], false), ([69, 70, 71, 72, 73, 74, 75, 76, 77, 78], [69, 70, 71, 72, 73, 74, 75, 76, 77, 78], false), ([69, 70, 71, 72], [69, 70, 71, 72], false), ([], [], false), ([], [], false)]⟩ (by kernel_rfl) ?_
      refine go3 ?_
      refine WD.q rfl rfl rfl rfl rfl (QE.ldOwP (p := []) (i := 1) rfl rfl rfl) rfl rfl rfl ?_
      refine go3 ?_
      rw [hN]
      refine WD.q rfl rfl rfl rfl rfl (QE.ldOwP (p := []) (i := 1) rfl rfl rfl) rfl rfl rfl ?_
      refine go3 ?_
      rw [hN]
      refine WD.q rfl rfl rfl rfl rfl (QE.ixP N rfl rfl (by rw [encL_len1]; exact Nat.le_refl _) rfl hNv) rfl rfl rfl ?_
      refine WD.q rfl rfl rfl rfl rfl (QE.ldO (p := [1]) rfl rfl (ints_at hNv) rfl) rfl rfl rfl ?_
      refine go3 ?_
      refine WD.q rfl rfl rfl rfl rfl (QE.call rfl rfl (l9Unite _ _ v8 w8)) rfl rfl rfl ?_
      refine WD.q rfl rfl rfl rfl rfl (QE.ixP N rfl rfl (by rw [encL_len1]; exact Nat.le_refl _) rfl hNv) rfl rfl rfl ?_
      refine go3 ?_
      refine WO.stP (p := [1]) (i := N) (z := .op (flO ⟨f1.vars, setO f1.arrs N w, f1.esc, f1.lk⟩)) rfl rfl rfl rfl (by rw [encL_len1]; exact hNv) rfl (setN_fa f1 hNv) rfl ?_
      generalize Fl.mk f1.vars (setO f1.arrs N w) f1.esc f1.lk = g at *
      refine WO.keep (e' := [(2, .op (prR p)), (4, .op [.nl, .nl, i64 0, i64 0]), (5, i64 k), (6, .op (stR t)), (8, i64 w), (3, .op (flO g))]) (.cons rfl (.cons rfl (.cons rfl (.cons rfl (.cons rfl (.cons rfl .nil)))))) ?_
      refine go3 ?_
      by_cases hT : stT p t
      · refine WO.call rfl rfl rfl (l9Stmt p t hp.w1 hp.w8 ht (r := true) ⟨fun _ => hT, fun _ => rfl⟩) rfl rfl ?_
        have e2 : rnd2 p g t w = ⟨g.vars, g.arrs, orI g.esc w, g.lk⟩ := by unfold rnd2; rw [if_pos hT]
        have q2 := (rnd2_ok q1 t w8).1
        rw [e2] at q2 e1
        refine go3 ?_
        refine WO.call rfl rfl rfl (l9Unite _ _ q1.e w8) rfl rfl ?_
        refine go3 ?_
        refine WO.st (cs' := flO ⟨g.vars, g.arrs, orI g.esc w, g.lk⟩) rfl rfl rfl rfl rfl rfl rfl ?_
        generalize Fl.mk g.vars g.arrs (orI g.esc w) g.lk = u at *
        refine go3 ?_
        refine WO.call rfl rfl rfl (l9Unite _ _ q2.l q2.e) rfl rfl ?_
        refine go3 ?_
        refine WO.st (cs' := flO (rnd3 u)) rfl rfl rfl rfl rfl rfl rfl ?_
        rw [← e1]
        refine go3 ?_
        exact hend _ (.cons rfl (.cons rfl (.cons rfl (.cons rfl .nil))))
      · refine WO.call rfl rfl rfl (l9Stmt p t hp.w1 hp.w8 ht (r := false) ⟨fun h => by simp at h, fun h => absurd h hT⟩) rfl rfl ?_
        have e2 : rnd2 p g t w = g := by unfold rnd2; rw [if_neg hT]
        rw [e2] at e1
        refine go3 ?_
        refine WO.call rfl rfl rfl (l9Unite _ _ q1.l q1.e) rfl rfl ?_
        refine go3 ?_
        refine WO.st (cs' := flO (rnd3 g)) rfl rfl rfl rfl rfl rfl rfl ?_
        rw [← e1]
        refine go3 ?_
        exact hend _ (.cons rfl (.cons rfl (.cons rfl (.cons rfl .nil))))
    by_cases h6 : t.op = 6
    · have q1 := (rnd1_ok g2 t c8 w8).1
      have e0 : rnd1 f1 t c w = ⟨f1.vars, f1.arrs, f1.esc, orI f1.lk w⟩ := by unfold rnd1; rw [if_neg h0, if_neg h1, if_pos h6]
      rw [e0] at q1 e1
      refine go3 ?_
      refine WO.call rfl rfl rfl (l9Unite _ _ g2.l w8) rfl rfl ?_
      refine go3 ?_
      refine WO.st (cs' := flO ⟨f1.vars, f1.arrs, f1.esc, orI f1.lk w⟩) rfl rfl rfl rfl rfl rfl rfl ?_
      generalize Fl.mk f1.vars f1.arrs f1.esc (orI f1.lk w) = g at *
      refine WO.keep (e' := [(2, .op (prR p)), (4, .op [.nl, .nl, i64 0, i64 0]), (5, i64 k), (6, .op (stR t)), (8, i64 w), (3, .op (flO g))]) (.cons rfl (.cons rfl (.cons rfl (.cons rfl (.cons rfl (.cons rfl .nil)))))) ?_
      refine go3 ?_
      by_cases hT : stT p t
      · refine WO.call rfl rfl rfl (l9Stmt p t hp.w1 hp.w8 ht (r := true) ⟨fun _ => hT, fun _ => rfl⟩) rfl rfl ?_
        have e2 : rnd2 p g t w = ⟨g.vars, g.arrs, orI g.esc w, g.lk⟩ := by unfold rnd2; rw [if_pos hT]
        have q2 := (rnd2_ok q1 t w8).1
        rw [e2] at q2 e1
        refine go3 ?_
        refine WO.call rfl rfl rfl (l9Unite _ _ q1.e w8) rfl rfl ?_
        refine go3 ?_
        refine WO.st (cs' := flO ⟨g.vars, g.arrs, orI g.esc w, g.lk⟩) rfl rfl rfl rfl rfl rfl rfl ?_
        generalize Fl.mk g.vars g.arrs (orI g.esc w) g.lk = u at *
        refine go3 ?_
        refine WO.call rfl rfl rfl (l9Unite _ _ q2.l q2.e) rfl rfl ?_
        refine go3 ?_
        refine WO.st (cs' := flO (rnd3 u)) rfl rfl rfl rfl rfl rfl rfl ?_
        rw [← e1]
        refine go3 ?_
        exact hend _ (.cons rfl (.cons rfl (.cons rfl (.cons rfl .nil))))
      · refine WO.call rfl rfl rfl (l9Stmt p t hp.w1 hp.w8 ht (r := false) ⟨fun h => by simp at h, fun h => absurd h hT⟩) rfl rfl ?_
        have e2 : rnd2 p g t w = g := by unfold rnd2; rw [if_neg hT]
        rw [e2] at e1
        refine go3 ?_
        refine WO.call rfl rfl rfl (l9Unite _ _ q1.l q1.e) rfl rfl ?_
        refine go3 ?_
        refine WO.st (cs' := flO (rnd3 g)) rfl rfl rfl rfl rfl rfl rfl ?_
        rw [← e1]
        refine go3 ?_
        exact hend _ (.cons rfl (.cons rfl (.cons rfl (.cons rfl .nil))))
    by_cases h7 : t.op = 7
    · have q1 := (rnd1_ok g2 t c8 w8).1
      have e0 : rnd1 f1 t c w = ⟨f1.vars, f1.arrs, orI f1.esc c, f1.lk⟩ := by unfold rnd1; rw [if_neg h0, if_neg h1, if_neg h6, if_pos h7]
      rw [e0] at q1 e1
      refine go3 ?_
      refine WO.call rfl rfl rfl (l9Unite _ _ g2.e c8) rfl rfl ?_
      refine go3 ?_
      refine WO.st (cs' := flO ⟨f1.vars, f1.arrs, orI f1.esc c, f1.lk⟩) rfl rfl rfl rfl rfl rfl rfl ?_
      generalize Fl.mk f1.vars f1.arrs (orI f1.esc c) f1.lk = g at *
      refine WO.keep (e' := [(2, .op (prR p)), (4, .op [.nl, .nl, i64 0, i64 0]), (5, i64 k), (6, .op (stR t)), (8, i64 w), (3, .op (flO g))]) (.cons rfl (.cons rfl (.cons rfl (.cons rfl (.cons rfl (.cons rfl .nil)))))) ?_
      refine go3 ?_
      by_cases hT : stT p t
      · refine WO.call rfl rfl rfl (l9Stmt p t hp.w1 hp.w8 ht (r := true) ⟨fun _ => hT, fun _ => rfl⟩) rfl rfl ?_
        have e2 : rnd2 p g t w = ⟨g.vars, g.arrs, orI g.esc w, g.lk⟩ := by unfold rnd2; rw [if_pos hT]
        have q2 := (rnd2_ok q1 t w8).1
        rw [e2] at q2 e1
        refine go3 ?_
        refine WO.call rfl rfl rfl (l9Unite _ _ q1.e w8) rfl rfl ?_
        refine go3 ?_
        refine WO.st (cs' := flO ⟨g.vars, g.arrs, orI g.esc w, g.lk⟩) rfl rfl rfl rfl rfl rfl rfl ?_
        generalize Fl.mk g.vars g.arrs (orI g.esc w) g.lk = u at *
        refine go3 ?_
        refine WO.call rfl rfl rfl (l9Unite _ _ q2.l q2.e) rfl rfl ?_
        refine go3 ?_
        refine WO.st (cs' := flO (rnd3 u)) rfl rfl rfl rfl rfl rfl rfl ?_
        rw [← e1]
        refine go3 ?_
        exact hend _ (.cons rfl (.cons rfl (.cons rfl (.cons rfl .nil))))
      · refine WO.call rfl rfl rfl (l9Stmt p t hp.w1 hp.w8 ht (r := false) ⟨fun h => by simp at h, fun h => absurd h hT⟩) rfl rfl ?_
        have e2 : rnd2 p g t w = g := by unfold rnd2; rw [if_neg hT]
        rw [e2] at e1
        refine go3 ?_
        refine WO.call rfl rfl rfl (l9Unite _ _ q1.l q1.e) rfl rfl ?_
        refine go3 ?_
        refine WO.st (cs' := flO (rnd3 g)) rfl rfl rfl rfl rfl rfl rfl ?_
        rw [← e1]
        refine go3 ?_
        exact hend _ (.cons rfl (.cons rfl (.cons rfl (.cons rfl .nil))))
    · have q1 := (rnd1_ok g2 t c8 w8).1
      have e0 : rnd1 f1 t c w = f1 := by unfold rnd1; rw [if_neg h0, if_neg h1, if_neg h6, if_neg h7]
      rw [e0] at q1 e1
      generalize f1 = g at *
      refine go3 ?_
      by_cases hT : stT p t
      · refine WO.call rfl rfl rfl (l9Stmt p t hp.w1 hp.w8 ht (r := true) ⟨fun _ => hT, fun _ => rfl⟩) rfl rfl ?_
        have e2 : rnd2 p g t w = ⟨g.vars, g.arrs, orI g.esc w, g.lk⟩ := by unfold rnd2; rw [if_pos hT]
        have q2 := (rnd2_ok q1 t w8).1
        rw [e2] at q2 e1
        refine go3 ?_
        refine WO.call rfl rfl rfl (l9Unite _ _ q1.e w8) rfl rfl ?_
        refine go3 ?_
        refine WO.st (cs' := flO ⟨g.vars, g.arrs, orI g.esc w, g.lk⟩) rfl rfl rfl rfl rfl rfl rfl ?_
        generalize Fl.mk g.vars g.arrs (orI g.esc w) g.lk = u at *
        refine go3 ?_
        refine WO.call rfl rfl rfl (l9Unite _ _ q2.l q2.e) rfl rfl ?_
        refine go3 ?_
        refine WO.st (cs' := flO (rnd3 u)) rfl rfl rfl rfl rfl rfl rfl ?_
        rw [← e1]
        refine go3 ?_
        exact hend _ (.cons rfl (.cons rfl (.cons rfl (.cons rfl .nil))))
      · refine WO.call rfl rfl rfl (l9Stmt p t hp.w1 hp.w8 ht (r := false) ⟨fun h => by simp at h, fun h => absurd h hT⟩) rfl rfl ?_
        have e2 : rnd2 p g t w = g := by unfold rnd2; rw [if_neg hT]
        rw [e2] at e1
        refine go3 ?_
        refine WO.call rfl rfl rfl (l9Unite _ _ q1.l q1.e) rfl rfl ?_
        refine go3 ?_
        refine WO.st (cs' := flO (rnd3 g)) rfl rfl rfl rfl rfl rfl rfl ?_
        rw [← e1]
        refine go3 ?_
        exact hend _ (.cons rfl (.cons rfl (.cons rfl (.cons rfl .nil))))
  · have : k = p.body.length := by omega
    subst this
    generalize posR p p.body.length 0 f = g at *
    refine go3 ?_
    refine WO.q rfl (QE.ldG rfl rfl rfl (L := flV 3 g) rfl) rfl rfl ?_
    refine WO.stG (vs := flO g) rfl rfl rfl (.ag (takeVr (r := 3) (cs := flO g) rfl (whL_flO g)) (.nil _)) rfl rfl rfl rfl ?_
    refine go3 ?_
    exact retCG rfl rfl rfl (whL_flO g) rfl rfl rfl
end Go.Eng.C

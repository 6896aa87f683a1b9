/- Contracts of functions, by the engine: runs, of the program: nodes. -/
import Derived.Test.YtbhdobjjhkkpkaaEngRa
import Derived.Test.YtbhdobjjhkkpkaaEngXn
namespace Go.Eng.C
open Go Go.Eng Go.RowKit Go.Proofs
set_option linter.unusedVariables false
set_option linter.unusedSimpArgs false
set_option maxRecDepth 10000
variable {X : FuncId → List AV → AV → List AV → Prop}
theorem catchOf (p : Pr) (a : Nat) (b o : Ns) (rest : List AV) (hl : p.body.length ≤ 40) (ha : a < p.body.length) (c : Nat) (hc : midI (E p.body a) = c) (hcl : c < p.body.length) : Ev Try.prog X (.fn 211 [.ip (prR p), .ip (ndc (a, b, o) ++ rest)] (i64 (catN p a)) [.dead, .dead]) := by
  have h := implEndOf (X := X) p.body hl a ha
  have e : catN p a = (p.body.getD c zst).n := by unfold catN nA; rw [hc, Int.toNat_natCast]
  rw [hc] at h
  rw [e]
  refine Ev.fnW (env := [(0, .ip (prR p)), (1, .ip (ndc (a, b, o) ++ rest))]) Try.func211 rfl nm_impl_catchOf rfl rfl (by kernel_rfl) (.cons rfl (.cons rfl .nil)) ?_
  refine go3 ?_
  refine WC.regionDd ⟨[[], [0], [0, 1], [0, 1, 2], [], [4], [4, 5], [4, 5, 6], [0, 1, 2, 3, 4, 5, 6, 7], [0, 1, 2, 3, 4, 5, 6, 7, 8], [0, 1, 2, 3, 4, 5, 6, 7, 8, 9], [0, 1, 2, 3, 4, 5, 6, 7, 8, 9], [0, 1, 2, 3, 4, 5, 6, 7, 8, 9, 10], [0, 1, 2, 3, 4, 5, 6, 7, 8, 9, 10, 11, 12]], [0, 1, 2, 3, 4, 5, 6, 7, 9, 10, 11, 12], [], [8, 9, 10, 11, 12, 13, 14, 15, 7, 17, 18, 5], [0, 1, 2, 3, 4, 5, 6, 7, 8, 9, 10, 11, 12, 13], [([12, 13, 14, 15], [12, 13, 14, 15], false), ([12, 13, 14, 15], [12, 13, 14, 15], false), ([12, 13, 14, 15], [12, 13, 14, 15], false), ([12, 13, 14, 15], [12, 13, 14, 15], false), ([8, 9, 10, 11], [8, 9, 10, 11], false), ([8, 9, 10, 11], [8, 9, 10, 11], false), ([8, 9, 10, 11], [8, 9, 10, 11], false), ([8, 9, 10, 11], [8, 9, 10, 11], false), ([], [], false), ([], [], false), ([18], [18], false), ([17, 5], [17, 5], false), ([18], [18], false), ([], [], false)]⟩ (by kernel_rfl) ?_
  refine go3 ?_
  refine WO.call rfl rfl rfl h rfl rfl ?_
  refine go3 ?_
  refine WO.ixN (f := stR) zst rfl rfl rfl hcl rfl ?_
  refine go3 ?_
  exact retV rfl rfl rfl rfl
theorem setN_var (p : Pr) (s : Mc) {N : Nat} (h : N < s.v.vars.length) {x : Int} : setN [1] (AV.op (mc p s)) (.ow 2 1 s.v.vars.length ((encL eI s.v.vars).set N (i64 x))) = .op (mc p ⟨setV s.v N x, s.o⟩) := by
  have e1 : AV.ow 2 1 s.v.vars.length ((encL eI s.v.vars).set N (i64 x)) = ints (s.v.vars.set N x) := by rw [ints_set h, ints, List.length_set]
  rw [e1]; rfl
theorem stOps {p : Pr} {t : St} (ht : stOk p t) (hn : t.op ≠ 3 ∧ t.op ≠ 4 ∧ t.op ≠ 9) : t.op = 0 ∨ t.op = 1 ∨ t.op = 2 ∨ t.op = 5 ∨ t.op = 6 ∨ t.op = 7 ∨ t.op = 8 := by
  by_cases h : 0 ≤ t.op ∧ t.op ≤ 9
  · omega
  · exact absurd ht (stOkN h)
/-- A run of nodes is told. -/
def DoP (X : FuncId → List AV → AV → List AV → Prop) (p : Pr) (r : Ns) : Prop := ∀ s : Mc, MOk p s → (s.o.length : Int) + stp p.body r ≤ 4000 → Ev Try.prog X (.fn 162 [.op (mc p s), .im r.toL.length (encL ndc r.toL)] (hlt (runN p r s)) [.op (mc p (runN p r s).1), .dead])
theorem DoP.at_ {p : Pr} {r : Ns} (h : DoP X p r) {s : Mc} (hs : MOk p s) (hk : (s.o.length : Int) + stp p.body r ≤ 4000) : Ev Try.prog X (.fn 162 [.op (mc p s), .im r.toL.length (encN r)] (hlt (runN p r s)) [.op (mc p (runN p r s).1), .dead]) := by
  have := h s hs hk
  rwa [← encN_eq] at this
set_option maxHeartbeats 16000000 in
theorem mstep (p : Pr) (hB : PB p) (hp : RP p) (hl : p.body.length ≤ 40) (a : Nat) (b o : Ns) (ha : a < p.body.length) (hn : opA p.body a ≠ 3 ∧ opA p.body a ≠ 4 ∧ opA p.body a ≠ 9) (h8 : opA p.body a = 8 → ∃ c : Nat, midI (E p.body a) = c ∧ c < p.body.length) (hb : gdN p b) (ho : gdN p o) (ib : DoP X p b) (io : DoP X p o) (rest : List AV) (s : Mc) (hs : MOk p s) (hk : (s.o.length : Int) + stp p.body (.cons a b o .nil) ≤ 4000) :
    Ev Try.prog X (.fn 199 [.op (mc p s), .ip (ndc (a, b, o) ++ rest)] (hlt (stpN p (p.body.getD a zst) (runN p b) (runN p o) (catN p a) s)) [.op (mc p (stpN p (p.body.getD a zst) (runN p b) (runN p o) (catN p a) s).1), .dead]) := by
  have hL := loop_ok hp.s
  have b0 := stp_nn hL hb.ok
  have o0 := stp_nn hL ho.ok
  have ht := hp.at_ ha
  have gb := runN_good hp b hb
  have cO : ∀ c : Nat, midI (E p.body a) = c → c < p.body.length → Ev Try.prog X (.fn 211 [.ip (prR p), .ip (ndc (a, b, o) ++ rest)] (i64 (catN p a)) [.dead, .dead]) := fun c h1 h2 => catchOf p a b o rest hl ha c h1 h2
  simp only [stp] at hk
  have hop : opA p.body a = (p.body.getD a zst).op := rfl
  have hnA : nA p.body a = (p.body.getD a zst).n := rfl
  rw [hnA, hop] at hk
  rw [hop] at hn h8
  refine Ev.fnW (env := [(0, .ad 1000000 [] 0), (1, .ip (ndc (a, b, o) ++ rest)), (1000000, .op (mc p s))]) Try.func199 rfl nm_impl_machine_step rfl rfl (by kernel_rfl) (.cons rfl (.cons rfl (.cons rfl .nil))) ?_
  refine go3 ?_
  refine WC.regionDd ⟨[[], [0], [0, 1], [0, 1, 2], [0, 1, 2, 3], [0, 1, 2, 3, 4], [0, 1, 2, 3, 4, 5], [], [7], [7, 8], [7, 8, 9], [0, 1, 2, 3, 4, 5, 6, 7, 8, 9, 10], [0, 1, 2, 3, 4, 5, 6, 7, 8, 9, 10, 11]], [0, 1, 2, 3, 4, 5, 6, 7, 8, 9, 10, 11], [], [11, 12, 13, 14, 15, 16, 17, 18, 19, 20, 21, 22], [0, 1, 2, 3, 4, 5, 6, 7, 8, 9, 10, 11, 12], [([18, 19, 20, 21], [18, 19, 20, 21], false), ([18, 19, 20, 21], [18, 19, 20, 21], false), ([18, 19, 20, 21], [18, 19, 20, 21], false), ([18, 19, 20, 21], [18, 19, 20, 21], false), ([18, 19, 20, 21], [18, 19, 20, 21], false), ([18, 19, 20, 21], [18, 19, 20, 21], false), ([18, 19, 20, 21], [18, 19, 20, 21], false), ([11, 12, 13, 14, 15, 16, 17], [11, 12, 13, 14, 15, 16, 17], false), ([11, 12, 13, 14, 15, 16, 17], [11, 12, 13, 14, 15, 16, 17], false), ([11, 12, 13, 14, 15, 16, 17], [11, 12, 13, 14, 15, 16, 17], false), ([11, 12, 13, 14, 15, 16, 17], [11, 12, 13, 14, 15, 16, 17], false), ([], [], false), ([], [], false)]⟩ (by kernel_rfl) ?_
  refine go3 ?_
  refine WD.q rfl rfl rfl rfl rfl (QE.ixN (f := stR) zst rfl rfl ha) rfl rfl rfl ?_
  clear hop hnA
  generalize p.body.getD a zst = t at *
  generalize catN p a = ct at *
  have hop2 := stOps ht hn
  generalize encL stR (p.body.drop (a + 1)) = bd at *
  unfold stpN
  rcases hop2 with h | h | h | h | h | h | h
  · have m := (stOk0 h).1 ht
    clear hn h8 ib io cO gb hk
    rw [if_neg (by omega), if_neg (by omega), if_neg (by omega), if_neg (by omega), if_pos h]
    refine go3 ?_
    by_cases tr : (rk p.w s.v t.ex []).2 = 0
    · refine WO.callF rfl (.cons (frzI rfl (hardL_mc p s)) (.cons (.plain _ rfl) .nil)) (mvalueN p s t.ex hB hp m.2.1.2.1 hs.v tr) rfl rfl rfl ?_
      rw [if_neg (by omega)]
      generalize (rk p.w s.v t.ex []).1 = x at *
      have hv := hs.v.n
      have hi0 : 0 ≤ insN p := by unfold insN; omega
      obtain ⟨N, hN⟩ : ∃ N : Nat, t.n = N := ⟨t.n.toNat, by omega⟩
      have hNv : N < s.v.vars.length := by omega
      refine go3 ?_
      refine WC.regionDd ⟨[[], [0], [0, 1], [0, 1, 2], [0, 1, 2, 3], [], [5], [5, 6], [5, 6, 7], [], [0, 1, 2, 3, 4, 5, 6, 7, 8, 9], [0, 1, 2, 3, 4, 5, 6, 7, 8, 9, 10]], [0, 1, 2, 3, 4, 5, 6, 7, 8, 9, 10], [], [114, 115, 116, 117, 118, 119, 120, 121, 122, 123, 124], [0, 1, 2, 3, 4, 5, 6, 7, 8, 9, 10, 11], [([119, 120, 121, 122, 123], [119, 120, 121, 122, 123], false), ([119, 120, 121, 122, 123], [119, 120, 121, 122, 123], false), ([119, 120, 121, 122, 123], [119, 120, 121, 122, 123], false), ([119, 120, 121, 122, 123], [119, 120, 121, 122, 123], false), ([119, 120, 121, 122, 123], [119, 120, 121, 122, 123], false), ([114, 115, 116, 117, 118, 123], [114, 115, 116, 117, 118, 123], false), ([114, 115, 116, 117, 118, 123], [114, 115, 116, 117, 118, 123], false), ([114, 115, 116, 117, 118, 123], [114, 115, 116, 117, 118, 123], false), ([114, 115, 116, 117, 118, 123], [114, 115, 116, 117, 118, 123], false), ([114, 115, 116, 117, 118, 119, 120, 121, 122], [114, 115, 116, 117, 118, 119, 120, 121, 122], false), ([], [], false), ([], [], false)]⟩ (by kernel_rfl) ?_
      refine go3 ?_
      refine WD.q rfl rfl rfl rfl rfl (QE.ldOwP (p := []) (i := 1) rfl rfl rfl) rfl rfl rfl ?_
      refine go3 ?_
      rw [hN]
      refine WD.q rfl rfl rfl rfl rfl (QE.ixP N rfl rfl (by rw [encL_len1]; exact Nat.le_refl _) rfl hNv) rfl rfl rfl ?_
      refine go3 ?_
      refine WO.stP (p := [1]) (i := N) (z := .op (mc p ⟨setV s.v N x, s.o⟩)) rfl rfl rfl rfl (by rw [encL_len1]; exact hNv) rfl (setN_var p s hNv) rfl ?_
      rw [Int.toNat_natCast]
      refine go3 ?_
      refine WO.bld (cs := [i64 0, i64 0]) rfl rfl rfl rfl ?_
      refine go3 ?_
      exact retC rfl rfl rfl rfl rfl rfl rfl
    · refine WO.callF rfl (.cons (frzI rfl (hardL_mc p s)) (.cons (.plain _ rfl) .nil)) (mvalueT p s t.ex hB hp m.2.1.2.1 hs.v tr) rfl rfl rfl ?_
      rw [if_pos (by omega)]
      generalize (rk p.w s.v t.ex []).2 = tr' at *
      refine go3 ?_
      exact retC rfl rfl rfl rfl rfl rfl rfl
  · clear hn h8 ib io cO gb hk
    rw [if_pos h]
    have c := mput (X := X) p t bd s hB hp ht h hs
    generalize putN p t s = q at *
    refine go3 ?_
    refine WO.callD (xs := [.tmp 30]) rfl rfl rfl rfl rfl c rfl rfl rfl rfl ?_
    refine go3 ?_
    exact retC rfl rfl rfl rfl rfl rfl rfl
  · have m := (stOk26 (.inl h)).1 ht
    rw [if_pos h] at hk
    have cb := ib.at_ hs (by omega)
    have co := io.at_ hs (by omega)
    clear hn h8 ib io cO gb hk
    rw [if_neg (by omega), if_neg (by omega), if_neg (by omega), if_neg (by omega), if_neg (show ¬ t.op = 0 by omega), if_neg (show ¬ t.op = 6 by omega)]
    refine go3 ?_
    by_cases tr : (rk p.w s.v t.ex []).2 = 0
    · refine WO.callF rfl (.cons (frzI rfl (hardL_mc p s)) (.cons (.plain _ rfl) .nil)) (mvalueN p s t.ex hB hp m.2.1.2.1 hs.v tr) rfl rfl rfl ?_
      rw [if_neg (by omega)]
      generalize (rk p.w s.v t.ex []).1 = x at *
      refine go3 ?_
      by_cases hx : x = 0
      · refine WO.q rfl (QE.cmpF rfl rfl rfl (by omega)) rfl rfl ?_
        refine go3 ?_
        rw [if_neg (by omega)]
        generalize runN p o s = q at *
        refine WO.callD (xs := [.tmp 106]) rfl rfl rfl rfl rfl co rfl rfl rfl rfl ?_
        refine go3 ?_
        exact retC rfl rfl rfl rfl rfl rfl rfl
      · refine WO.q rfl (QE.cmpT rfl rfl rfl (by omega)) rfl rfl ?_
        refine go3 ?_
        rw [if_pos (by omega)]
        generalize runN p b s = q at *
        refine WO.callD (xs := [.tmp 148]) rfl rfl rfl rfl rfl cb rfl rfl rfl rfl ?_
        refine go3 ?_
        exact retC rfl rfl rfl rfl rfl rfl rfl
    · refine WO.callF rfl (.cons (frzI rfl (hardL_mc p s)) (.cons (.plain _ rfl) .nil)) (mvalueT p s t.ex hB hp m.2.1.2.1 hs.v tr) rfl rfl rfl ?_
      rw [if_pos (by omega)]
      generalize (rk p.w s.v t.ex []).2 = tr' at *
      refine go3 ?_
      exact retC rfl rfl rfl rfl rfl rfl rfl
  · have m := (stOk5 h).1 ht
    rw [if_neg (by omega), if_pos h] at hk
    rw [if_neg (by omega), if_neg (by omega), if_pos h]
    obtain ⟨n, hn2⟩ : ∃ n : Nat, t.n = n := ⟨t.n.toNat, by omega⟩
    rw [hn2] at hk m ⊢
    rw [Int.toNat_natCast]
    have hk2 : (s.o.length : Int) + (n : Int) * stp p.body b ≤ 4000 := by rw [Int.mul_add] at hk; omega
    clear hn h8 io cO hk
    refine go3 ?_
    refine WC.loopS (S := Nat × Mc) (fun u => [(0, .ad 1000000 [] 0), (1, .ip (ndc (a, b, o) ++ rest)), (4, .op [i64 0, i64 0]), (5, .ip (stR t ++ bd)), (6, i64 u.1), (1000000, .op (mc p u.2))]) (fun u => u.1 ≤ n ∧ MOk p u.2 ∧ (u.2.o.length : Int) + ((n - u.1 : Nat) : Int) * stp p.body b ≤ 4000 ∧ times (runN p b) (n - u.1) u.2 = times (runN p b) n s) (fun u => n - u.1) (0, s) (.cons rfl (.cons rfl (.cons rfl (.cons rfl (.cons rfl (.cons rfl .nil)))))) ⟨Nat.zero_le _, hs, hk2, rfl⟩ ?_
    clear hk2
    rintro ⟨k, s'⟩ ⟨g1, g2, g3, g4⟩
    dsimp only at g1 g2 g3 g4 ⊢
    refine go3 ?_
    rw [hn2]
    refine WO.cmp rfl rfl rfl rfl rfl (fun h3 => ?_) (fun h3 => ?_)
    · obtain ⟨j, hj⟩ : ∃ j, n - k = j + 1 := ⟨n - k - 1, by omega⟩
      have hj2 : n - (k + 1) = j := by omega
      rw [hj] at g3 g4
      have e : (((j + 1 : Nat) : Int)) * stp p.body b = j * stp p.body b + stp p.body b := by rw [Int.natCast_add, Int.add_mul]; omega
      have j0 : 0 ≤ (j : Int) * stp p.body b := Int.mul_nonneg (by omega) b0
      have cb := ib.at_ g2 (by omega)
      have gq := gb s' g2
      simp only [times] at g4
      generalize runN p b s' = q at *
      have gl := gq.l
      refine go3 ?_
      refine WO.callD (xs := [.tmp 53]) rfl rfl rfl rfl rfl cb rfl rfl rfl rfl ?_
      refine go3 ?_
      by_cases hq : q.2.1 = 0
      · refine WO.q rfl (QE.cmpF rfl rfl rfl (by omega)) rfl rfl ?_
        rw [if_neg (by omega)] at g4
        refine go3 ?_
        exact lpK.mk (k + 1, q.1) (.cons rfl (.cons rfl (.cons rfl (.cons rfl (.cons rfl (.cons rfl .nil)))))) ⟨by dsimp only; omega, gq.k, by dsimp only; rw [hj2]; omega, by dsimp only; rw [hj2]; exact g4⟩ (show n - (k + 1) < n - k by omega)
      · refine WO.q rfl (QE.cmpT rfl rfl rfl (by omega)) rfl rfl ?_
        rw [if_pos (by omega)] at g4
        rw [← g4]
        refine go3 ?_
        exact retC rfl rfl rfl rfl rfl rfl rfl
    · have hk0 : n - k = 0 := by omega
      rw [hk0] at g4
      simp only [times] at g4
      rw [← g4]
      refine go3 ?_
      refine WO.bld (cs := [i64 0, i64 0]) rfl rfl rfl rfl ?_
      refine go3 ?_
      exact retC rfl rfl rfl rfl rfl rfl rfl
  · have m := (stOk26 (.inr h)).1 ht
    rw [if_neg (by omega), if_neg (by omega), if_neg (by omega)] at hk
    clear hn h8 ib io cO gb
    rw [if_neg (by omega), if_neg (by omega), if_neg (by omega), if_neg (by omega), if_neg (show ¬ t.op = 0 by omega), if_pos h]
    refine go3 ?_
    by_cases tr : (rk p.w s.v t.ex []).2 = 0
    · refine WO.callF rfl (.cons (frzI rfl (hardL_mc p s)) (.cons (.plain _ rfl) .nil)) (mvalueN p s t.ex hB hp m.2.1.2.1 hs.v tr) rfl rfl rfl ?_
      rw [if_neg (by omega)]
      generalize (rk p.w s.v t.ex []).1 = x at *
      refine go3 ?_
      refine WO.q rfl (QE.ldOwP (p := []) (i := 3) rfl rfl rfl) rfl rfl ?_
      refine go3 ?_
      refine WO.bsA (us := [i64 x]) (cs := [i64 x]) rfl rfl rfl rfl rfl (by kernel_rfl) rfl ?_
      refine WO.hard (r := 137) (p := []) (x := .ow 2 1 1 [i64 x]) (y := .im 1 [i64 x]) rfl rfl rfl ?_
      refine WO.apP (r := 1000000) (j := 3) (cs' := [.ip (prR p), ints s.v.vars, rowsO s.v.cells, .dead]) rfl rfl rfl rfl (encL_length _) rfl rfl rfl (by unfold maxLen; omega) (by omega) rfl rfl rfl ?_
      rw [num_app]
      refine WO.keep (e' := [(4, .op [i64 0, i64 0]), (131, .ad 1000000 [] 0), (138, ints (s.o ++ [x])), (1000000, .op [.ip (prR p), ints s.v.vars, rowsO s.v.cells, .dead])]) (.cons rfl (.cons rfl (.cons rfl (.cons rfl .nil)))) ?_
      refine go3 ?_
      refine WO.stOp (a := 3) (cs' := mc p ⟨s.v, s.o ++ [x]⟩) rfl rfl rfl rfl (encL_length _) rfl rfl rfl rfl rfl ?_
      refine go3 ?_
      refine WO.bld (cs := [i64 0, i64 0]) rfl rfl rfl rfl ?_
      refine go3 ?_
      exact retC rfl rfl rfl rfl rfl rfl rfl
    · refine WO.callF rfl (.cons (frzI rfl (hardL_mc p s)) (.cons (.plain _ rfl) .nil)) (mvalueT p s t.ex hB hp m.2.1.2.1 hs.v tr) rfl rfl rfl ?_
      rw [if_pos (by omega)]
      generalize (rk p.w s.v t.ex []).2 = tr' at *
      refine go3 ?_
      exact retC rfl rfl rfl rfl rfl rfl rfl
  · clear hn h8 ib io cO gb hk
    rw [if_neg (by omega), if_pos h]
    refine go3 ?_
    refine WO.bld (cs := [i64 1, i64 t.n]) rfl rfl rfl rfl ?_
    refine go3 ?_
    exact retC rfl rfl rfl rfl rfl rfl rfl
  · obtain ⟨c, hc1, hc2⟩ := h8 h
    rw [if_neg (by omega), if_neg (by omega), if_pos h] at hk
    have cb := ib.at_ hs (by omega)
    have gq := gb s hs
    have co := fun hk => io.at_ gq.k hk
    have cC := cO c hc1 hc2
    have gl := gq.l
    clear hn h8 ib io cO gb
    rw [if_neg (by omega), if_neg (by omega), if_neg (by omega), if_pos h]
    generalize runN p b s = q at *
    have co := co (by omega)
    refine go3 ?_
    refine WO.callD (xs := [.tmp 66]) rfl rfl rfl rfl rfl cb rfl rfl rfl rfl ?_
    refine go3 ?_
    refine WC.regionDd ⟨[[], [0], [0, 1], [0, 1, 2], [0, 1, 2, 3], [0, 1, 2, 3, 4], [0, 1, 2, 3], [0, 1, 2, 3, 6], [0, 1, 2, 3, 6, 7], [0, 1, 2, 3, 6, 7, 8], [0, 1, 2, 3], [0, 1, 2, 3, 6, 7, 8, 9, 10], [0, 1, 2, 3, 4, 5, 6, 7, 8, 9, 10, 11], [0, 1, 2, 3, 4, 5, 6, 7, 8, 9, 10, 11, 12]], [0, 1, 2, 3, 4, 5, 6, 7, 8, 9, 10, 11, 12, 13], [], [68, 69, 70, 71, 72, 73, 74, 75, 76, 77, 78, 79, 80, 81], [0, 1, 2, 3, 4, 5, 6, 7, 8, 9, 10, 11, 12, 13], [([], [], false), ([], [], false), ([], [], false), ([], [], false), ([74, 75, 76, 77, 78, 79], [74, 75, 76, 77, 78, 79], false), ([74, 75, 76, 77, 78, 79], [74, 75, 76, 77, 78, 79], false), ([72, 73, 78], [72, 73, 78], false), ([72, 73, 78], [72, 73, 78], false), ([72, 73, 78], [72, 73, 78], false), ([72, 73, 78], [72, 73, 78], false), ([72, 73, 74, 75, 76, 77], [72, 73, 74, 75, 76, 77], false), ([72, 73], [72, 73], false), ([], [], false), ([], [], false)]⟩ (by kernel_rfl) ?_
    refine go3 ?_
    by_cases hq : q.2.1 = 1
    · refine WD.q rfl rfl rfl rfl rfl (QE.cmpT rfl rfl rfl hq) rfl rfl rfl ?_
      refine go3 ?_
      refine WD.q rfl rfl rfl rfl rfl (QE.call rfl rfl cC) rfl rfl rfl ?_
      refine go3 ?_
      by_cases hq2 : q.2.2 = ct
      · refine WD.q rfl rfl rfl rfl rfl (QE.cmpT rfl rfl rfl hq2) rfl rfl rfl ?_
        rw [if_pos ⟨hq, hq2⟩]
        refine go3 ?_
        generalize runN p o q.1 = q' at *
        refine WO.callD (xs := [.tmp 86]) rfl rfl rfl rfl rfl co rfl rfl rfl rfl ?_
        refine go3 ?_
        exact retC rfl rfl rfl rfl rfl rfl rfl
      · refine WD.q rfl rfl rfl rfl rfl (QE.cmpF rfl rfl rfl hq2) rfl rfl rfl ?_
        rw [if_neg (fun h => hq2 h.2)]
        refine go3 ?_
        exact retC rfl rfl rfl rfl rfl rfl rfl
    · refine WD.q rfl rfl rfl rfl rfl (QE.cmpF rfl rfl rfl hq) rfl rfl rfl ?_
      rw [if_neg (fun h => hq h.1)]
      refine go3 ?_
      exact retC rfl rfl rfl rfl rfl rfl rfl
theorem toL_nil : ∀ {r : Ns}, r.toL = [] → r = .nil
  | .nil, _ => rfl
  | .cons a b o r, h => by simp [Ns.toL] at h
set_option maxHeartbeats 4000000 in
theorem mdo (p : Pr) (hB : PB p) (hp : RP p) (hl : p.body.length ≤ 40) : ∀ (k : Nat) (r : Ns), r.sz ≤ k → r.sz ≤ 1000 → gdN p r → DoP X p r := by
  intro k
  induction k with
  | zero =>
    intro r hk _ hg s hs hks
    cases r with
    | cons a b o q => simp only [Ns.sz] at hk; omega
    | nil =>
      refine Ev.fnW (env := [(0, .ad 1000000 [] 0), (1, .im 0 []), (1000000, .op (mc p s))]) Try.func162 rfl nm_impl_machine_do rfl rfl (by kernel_rfl) (.cons rfl (.cons rfl (.cons rfl .nil))) ?_
      refine go3 ?_
      refine WC.loopS (S := Nat) (fun u => [(0, .ad 1000000 [] 0), (1, .im 0 []), (4, .op [i64 0, i64 0]), (8, i64 0), (9, i64 0), (1000000, .op (mc p s))]) (fun u => True) (fun u => 0) 0 (.cons rfl (.cons rfl (.cons rfl (.cons rfl (.cons rfl (.cons rfl .nil)))))) trivial ?_
      intro u _
      refine go3 ?_
      refine WO.bld (cs := [i64 0, i64 0]) rfl rfl rfl rfl ?_
      refine go3 ?_
      exact retC rfl rfl rfl rfl rfl rfl rfl
  | succ k ih =>
    intro r hk hsz hg s hs hks
    have hL := loop_ok hp.s
    have hll := Ns.toL_le r
    obtain ⟨L, hLe⟩ : ∃ L, L = r.toL := ⟨_, rfl⟩
    rw [← hLe] at hll ⊢
    refine Ev.fnW (env := [(0, .ad 1000000 [] 0), (1, .im L.length (encL ndc L)), (1000000, .op (mc p s))]) Try.func162 rfl nm_impl_machine_do rfl rfl (by kernel_rfl) (.cons rfl (.cons rfl (.cons rfl .nil))) ?_
    refine go3 ?_
    refine WC.loopS (S := Nat × Ns × Mc) (fun u => [(0, .ad 1000000 [] 0), (1, .im L.length (encL ndc L)), (4, .op [i64 0, i64 0]), (8, i64 L.length), (9, i64 u.1), (1000000, .op (mc p u.2.2))]) (fun u => L.drop u.1 = u.2.1.toL ∧ gdN p u.2.1 ∧ (u.2.1.sz ≤ k + 1 ∧ u.2.1.sz ≤ 1000) ∧ MOk p u.2.2 ∧ (u.2.2.o.length : Int) + stp p.body u.2.1 ≤ 4000 ∧ runN p u.2.1 u.2.2 = runN p r s) (fun u => L.length - u.1) (0, r, s) (.cons rfl (.cons rfl (.cons rfl (.cons rfl (.cons rfl (.cons rfl .nil)))))) ⟨hLe, hg, ⟨hk, hsz⟩, hs, hks, rfl⟩ ?_
    clear hk hg hs hks hLe
    rintro ⟨i, r', s'⟩ ⟨g1, g2, g3, g4, g5, g6⟩
    dsimp only at g1 g2 g3 g4 g5 g6 ⊢
    refine go3 ?_
    refine WO.cmp rfl rfl rfl rfl rfl (fun h3 => ?_) (fun h3 => ?_)
    · cases r' with
      | nil =>
        have := congrArg List.length g1
        simp only [Ns.toL, List.length_drop, List.length_nil] at this; omega
      | cons a b o q =>
        obtain ⟨hi, hgd, hdr⟩ := drop_cons_getD (0, .nil, .nil) (show L.drop i = (a, b, o) :: q.toL from g1)
        obtain ⟨⟨d1, d2, d3, d4, d5⟩, hb, ho, hq⟩ := g2
        simp only [Ns.sz] at g3
        have b0 := stp_nn hL hb.ok
        have o0 := stp_nn hL ho.ok
        have q0 := stp_nn hL hq.ok
        rw [stp_cons] at g5
        have cs := mstep (X := X) p hB hp hl a b o d1 ⟨d2, d3, d4⟩ d5 hb ho (ih b (by omega) (by omega) hb) (ih o (by omega) (by omega) ho) (encL ndc (L.drop (i + 1))) s' g4 (by omega)
        have gs := stpN_good hp d1 ⟨d2, d3, d4⟩ b0 o0 (runN_good hp b hb) (runN_good hp o ho) (catN p a) s' g4
        simp only [runN] at g6
        generalize stpN p (p.body.getD a zst) (runN p b) (runN p o) (catN p a) s' = q1 at *
        have gl := gs.l
        refine go3 ?_
        refine WO.ixN (f := ndc) (0, .nil, .nil) rfl rfl rfl hi rfl ?_
        rw [hgd]
        refine go3 ?_
        refine WO.callD (xs := [.tmp 15]) rfl rfl rfl rfl rfl cs rfl rfl rfl rfl ?_
        refine go3 ?_
        by_cases hq0 : q1.2.1 = 0
        · refine WO.q rfl (QE.cmpF rfl rfl rfl (by omega)) rfl rfl ?_
          rw [if_neg (by omega)] at g6
          refine go3 ?_
          exact lpK.mk (i + 1, q, q1.1) (.cons rfl (.cons rfl (.cons rfl (.cons rfl (.cons rfl (.cons rfl .nil)))))) ⟨hdr, hq, ⟨by dsimp only; omega, by dsimp only; omega⟩, gs.k, by dsimp only; omega, g6⟩ (show L.length - (i + 1) < L.length - i by omega)
        · refine WO.q rfl (QE.cmpT rfl rfl rfl (by omega)) rfl rfl ?_
          rw [if_pos (by omega)] at g6
          rw [← g6]
          refine go3 ?_
          exact retC rfl rfl rfl rfl rfl rfl rfl
    · have : r' = .nil := toL_nil (by rw [← g1]; exact List.drop_of_length_le (by omega))
      subst this
      rw [← g6]
      simp only [runN]
      refine go3 ?_
      refine WO.bld (cs := [i64 0, i64 0]) rfl rfl rfl rfl ?_
      refine go3 ?_
      exact retC rfl rfl rfl rfl rfl rfl rfl
end Go.Eng.C

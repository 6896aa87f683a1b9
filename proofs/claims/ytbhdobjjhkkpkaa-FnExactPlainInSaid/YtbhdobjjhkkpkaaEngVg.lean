/- Contracts of functions, by the engine: surroundings that are wrong; values where there are none; surroundings as laws read and copy them. -/
import Derived.Test.YtbhdobjjhkkpkaaEngWb
import Derived.Test.YtbhdobjjhkkpkaaEngV7
namespace Go.Eng.C
open Go Go.Eng Go.RowKit Go.Proofs
set_option linter.unusedVariables false
set_option linter.unusedSimpArgs false
set_option maxRecDepth 10000
variable {X : FuncId → List AV → AV → List AV → Prop}
theorem nm_laws_szInt64SS : (Try.f66.name == "runtime.NumGoroutine") = false := by decide
theorem nm_laws_szEnv : (Try.f14.name == "runtime.NumGoroutine") = false := by decide
theorem nm_laws_toInt64SS : (Try.f72.name == "runtime.NumGoroutine") = false := by decide
theorem nm_laws_toEnv : (Try.f18.name == "runtime.NumGoroutine") = false := by decide
set_option maxHeartbeats 8000000 in
theorem allValuesN (p : Pr) (h0 : 0 ≤ p.w) (h8 : p.w ≤ 8) (l : List Int) (hl : l.length ≤ 4194304) (h : ¬ ∀ x ∈ l, 0 ≤ x ∧ x < sizeW p.w) : Ev Try.prog X (.fn 191 [.ip (prR p), .im l.length (encL eI l)] (bl false) [.dead, .dead]) := by
  refine Ev.fnW (env := [(0, .ip (prR p)), (1, .im l.length (encL eI l))]) Try.func191 rfl nm_impl_allValues rfl rfl (by kernel_rfl) (.cons rfl (.cons rfl .nil)) ?_
  refine go3 ?_
  refine WC.loopS (S := Nat) (fun i => [(0, .ip (prR p)), (7, .im l.length (encL eI l)), (8, i64 l.length), (9, i64 i)]) (fun i => i ≤ l.length ∧ ∀ j < i, 0 ≤ l.getD j 0 ∧ l.getD j 0 < sizeW p.w) (fun i => l.length - i) 0 (.cons rfl (.cons rfl (.cons rfl (.cons rfl .nil)))) ⟨Nat.zero_le _, by simp⟩ ?_
  rintro i ⟨g1, g2⟩
  refine go3 ?_
  refine WO.cmp rfl rfl rfl rfl rfl (fun h3 => ?_) (fun h3 => ?_)
  · have hi : i < l.length := by omega
    have hend : (0 ≤ l.getD i 0 ∧ l.getD i 0 < sizeW p.w) → ∀ j < i + 1, 0 ≤ l.getD j 0 ∧ l.getD j 0 < sizeW p.w := fun hh j hj => by
      by_cases e : j = i
      · subst e; exact hh
      · exact g2 j (by omega)
    refine go3 ?_
    refine WO.ixN (f := eI) 0 rfl rfl rfl hi rfl ?_
    generalize l.getD i 0 = x at *
    by_cases hx : x < 0
    · refine go3 ?_
      exact retV rfl rfl rfl rfl
    · refine go3 ?_
      refine WO.call rfl rfl rfl (greatest p h0 h8) rfl rfl ?_
      by_cases hx2 : x < sizeW p.w
      · refine go3 ?_
        exact lpK.mk (i + 1) (.cons rfl (.cons rfl (.cons rfl (.cons rfl .nil)))) ⟨hi, hend ⟨by omega, hx2⟩⟩ (show l.length - (i + 1) < l.length - i by omega)
      · refine go3 ?_
        exact retV rfl rfl rfl rfl
  · exact absurd (all_of_getD (P := fun x => 0 ≤ x ∧ x < sizeW p.w) 0 fun j hj => g2 j (by omega)) h
set_option maxHeartbeats 8000000 in
theorem envRightN (p : Pr) (v : Vs) (h0 : 1 ≤ p.w) (h8 : p.w ≤ 8) (hB : PB p) (ht0 : 0 ≤ p.temps) (ht1 : p.temps ≤ 6) (hl1 : v.vars.length ≤ 4194304) (hl2 : v.cells.length ≤ 4194304) (hl3 : ∀ c ∈ v.cells, c.length ≤ 4194304) (hv : ¬ EOk p v) : Ev Try.prog X (.fn 144 [.ip (prR p), .ip (enR v)] (bl false) [.dead, .dead]) := by
  have hb1 := hB.l; have hb2 := hB.s; have hb3 := hB.a
  have hvn : varsN p = ((p.lows.length + p.secs.length : Nat) : Int) + p.temps := rfl
  refine Ev.fnW (env := [(0, .ip (prR p)), (1, .ip (enR v))]) Try.func144 rfl nm_impl_envRight rfl rfl (by kernel_rfl) (.cons rfl (.cons rfl .nil)) ?_
  refine go3 ?_
  refine WC.regionDd ⟨[[], [0], [0, 1], [0, 1, 2], [0, 1, 2, 3], [], [5], [0, 1, 2, 3, 4, 5, 6], [0, 1, 2, 3, 4, 5, 6, 7], [0, 1, 2, 3, 4, 5, 6, 7, 8], [0, 1, 2, 3, 4, 5, 6, 7, 8], [0, 1, 2, 3, 4, 5, 6, 7, 8, 10], [0, 1, 2, 3, 4, 5, 6, 7, 8, 10, 11], [0, 1, 2, 3, 4, 5, 6, 7, 8, 10, 11, 12], [0, 1, 2, 3, 4, 5, 6, 7, 8, 9, 10, 11, 12, 13], [0, 1, 2, 3, 4, 5, 6, 7, 8, 9, 10, 11, 12, 13, 14], [0, 1, 2, 3, 4, 5, 6, 7, 8, 9, 10, 11, 12, 13, 14, 15], [0, 1, 2, 3, 4, 5, 6, 7, 8, 9, 10, 11, 12, 13, 14, 15, 16], [0, 1, 2, 3, 4, 5, 6, 7, 8, 9, 10, 11, 12, 13, 14, 15, 16, 17], [0, 1, 2, 3, 4, 5, 6, 7, 8, 9, 10, 11, 12, 13, 14, 15, 16, 17, 18], [0, 1, 2, 3, 4, 5, 6, 7, 8, 9, 10, 11, 12, 13, 14, 15, 16, 17, 18, 19], [0, 1, 2, 3, 4, 5, 6, 7, 8, 9, 10, 11, 12, 13, 14, 15, 16, 17, 18, 19, 20], [0, 1, 2, 3, 4, 5, 6, 7, 8, 9, 10, 11, 12, 13, 14, 15, 16, 17, 18, 19, 20, 21], [0, 1, 2, 3, 4, 5, 6, 7, 8, 9, 10, 11, 12, 13, 14, 15, 16, 17], [0, 1, 2, 3, 4, 5, 6, 7, 8, 9, 10, 11, 12, 13, 14, 15, 16, 17, 23], [0, 1, 2, 3, 4, 5, 6, 7, 8, 9, 10, 11, 12, 13, 14, 15, 16, 17, 23, 24], [0, 1, 2, 3, 4, 5, 6, 7, 8, 9, 10, 11, 12, 13, 14, 15, 16, 17, 23, 24, 25], [0, 1, 2, 3, 4, 5, 6, 7, 8, 9, 10, 11, 12, 13, 14, 15, 16, 17, 23, 24, 25, 26], [0, 1, 2, 3, 4, 5, 6, 7, 8, 9, 10, 11, 12, 13, 14, 15, 16, 17, 18, 19, 20, 21, 22, 23, 24, 25, 26, 27], [0, 1, 2, 3, 4, 5, 6, 7, 8, 9, 10, 11, 12, 13, 14, 15, 16, 17, 18, 19, 20, 21, 22, 23, 24, 25, 26, 27, 28]], [0, 1, 2, 3, 4, 5, 6, 7, 8, 9, 10, 11, 12, 13, 15, 16, 17, 18, 19, 20, 21, 22, 23, 24, 25, 26, 27, 28, 29], [], [7, 8, 9, 10, 11, 12, 13, 14, 15, 16, 17, 18, 19, 20, 22, 23, 24, 25, 26, 27, 28, 29, 30, 31, 32, 33, 34, 35, 36], [0, 1, 2, 3, 4, 5, 6, 7, 8, 9, 10, 11, 12, 13, 14, 15, 16, 17, 18, 19, 20, 21, 22, 23, 24, 25, 26, 27, 28, 29], [([12, 13], [12, 13], false), ([12, 13], [12, 13], false), ([12, 13], [12, 13], false), ([12, 13], [12, 13], false), ([12, 13], [12, 13], false), ([7, 8, 9, 10, 11], [7, 8, 9, 10, 11], false), ([7, 8, 9, 10, 11], [7, 8, 9, 10, 11], false), ([], [], false), ([], [], false), ([17, 18, 19, 20], [17, 18, 19, 20], false), ([16], [16], false), ([16], [16], false), ([16], [16], false), ([16], [16], false), ([], [], false), ([], [], false), ([], [], false), ([], [], false), ([30, 31, 32, 33, 34], [30, 31, 32, 33, 34], false), ([30, 31, 32, 33, 34], [30, 31, 32, 33, 34], false), ([30, 31, 32, 33, 34], [30, 31, 32, 33, 34], false), ([30, 31, 32, 33, 34], [30, 31, 32, 33, 34], false), ([30, 31, 32, 33, 34], [30, 31, 32, 33, 34], false), ([25, 26, 27, 28, 29], [25, 26, 27, 28, 29], false), ([25, 26, 27, 28, 29], [25, 26, 27, 28, 29], false), ([25, 26, 27, 28, 29], [25, 26, 27, 28, 29], false), ([25, 26, 27, 28, 29], [25, 26, 27, 28, 29], false), ([25, 26, 27, 28, 29], [25, 26, 27, 28, 29], false), ([], [], false), ([], [], false)]⟩ (by kernel_rfl) ?_
  refine go3 ?_
  refine WD.call rfl rfl rfl rfl rfl rfl rfl (varsOf p hb1 hb2 (by omega) (by omega)) rfl rfl rfl ?_
  by_cases e1 : (v.vars.length : Int) = varsN p
  · refine WD.q rfl rfl rfl rfl rfl (QE.cmpF rfl rfl rfl (fun h => h e1)) rfl rfl rfl ?_
    refine go3 ?_
    by_cases e2 : ∀ x ∈ v.vars, 0 ≤ x ∧ x < sizeW p.w
    · refine WO.call rfl rfl rfl (allValues p (by omega) h8 v.vars hl1 e2) rfl rfl ?_
      by_cases e3 : v.cells.length = p.arrs.length
      · refine go3 ?_
        refine WC.loopS (S := Nat) (fun i => [(0, .ip (prR p)), (40, .im v.cells.length (encL eRow v.cells)), (41, i64 v.cells.length), (42, i64 i)]) (fun i => i ≤ v.cells.length ∧ ∀ j < i, ((v.cells.getD j []).length : Int) = p.arrs.getD j 0 ∧ ∀ x ∈ v.cells.getD j [], 0 ≤ x ∧ x < sizeW p.w) (fun i => v.cells.length - i) 0 (.cons rfl (.cons rfl (.cons rfl (.cons rfl .nil)))) ⟨Nat.zero_le _, by simp⟩ ?_
        rintro i ⟨g1, g2⟩
        refine go3 ?_
        refine WO.cmp rfl rfl rfl rfl rfl (fun h3 => ?_) (fun h3 => ?_)
        · have hi : i < v.cells.length := by omega
          have hi2 : i < p.arrs.length := by omega
          have hm := hl3 _ (getD_mem hi [])
          refine go3 ?_
          refine WO.ixN (f := eRow) [] rfl rfl rfl hi rfl ?_
          refine go3 ?_
          refine WO.ixN (f := eI) 0 rfl rfl rfl hi2 rfl ?_
          refine go3 ?_
          by_cases e4 : ((v.cells.getD i []).length : Int) = p.arrs.getD i 0
          · refine WO.q rfl (QE.cmpF rfl rfl rfl (fun h => h e4)) rfl rfl ?_
            refine go3 ?_
            by_cases e5 : ∀ x ∈ v.cells.getD i [], 0 ≤ x ∧ x < sizeW p.w
            · refine WO.call rfl rfl rfl (allValues p (by omega) h8 (v.cells.getD i []) hm e5) rfl rfl ?_
              refine go3 ?_
              refine lpK.mk (i + 1) (.cons rfl (.cons rfl (.cons rfl (.cons rfl .nil)))) ⟨hi, fun j hj => ?_⟩ (show v.cells.length - (i + 1) < v.cells.length - i by omega)
              by_cases e : j = i
              · subst e; exact ⟨e4, e5⟩
              · exact g2 j (by omega)
            · refine WO.call rfl rfl rfl (allValuesN p (by omega) h8 (v.cells.getD i []) hm e5) rfl rfl ?_
              refine go3 ?_
              exact retV rfl rfl rfl rfl
          · refine WO.q rfl (QE.cmpT rfl rfl rfl e4) rfl rfl ?_
            refine go3 ?_
            exact retV rfl rfl rfl rfl
        · exact absurd ⟨e1, e2, e3, fun j hj => g2 j (by omega)⟩ hv
      · refine go3 ?_
        exact retV rfl rfl rfl rfl
    · refine WO.call rfl rfl rfl (allValuesN p (by omega) h8 v.vars hl1 e2) rfl rfl ?_
      refine go3 ?_
      exact retV rfl rfl rfl rfl
  · refine WD.q rfl rfl rfl rfl rfl (QE.cmpT rfl rfl rfl e1) rfl rfl rfl ?_
    refine go3 ?_
    exact retV rfl rfl rfl rfl
/-- How large surroundings are at most. -/
structure VB (e : Vs) : Prop where
  v : e.vars.length ≤ 1048576
  c : e.cells.length ≤ 1048576
  r : ∀ l ∈ e.cells, l.length ≤ 1048576
theorem VB.r4 {v : Vs} (h : VB v) : ∀ l ∈ v.cells, l.length ≤ 4194304 := fun l hl => by have := h.r l hl; omega
theorem implEnvOkN (p : Pr) (v : Vs) (hB : PB p) (hV : VB v) (h : ¬ (PrOk p ∧ EOk p v)) : Ev Try.prog X (.fn 74 [.ag (prR p), .ag (enR v)] (bl false) [.dead, .dead]) := by
  have hv1 := hV.v; have hv2 := hV.c
  refine Ev.fnW (env := [(0, .ag (prR p)), (1, .ag (enR v))]) Try.func74 rfl nm_impl_EnvOk rfl rfl (by kernel_rfl) (.cons rfl (.cons rfl .nil)) ?_
  refine go3 ?_
  by_cases hp : PrOk p
  · obtain ⟨r1, r2, r3, r4, r5⟩ := hp.r
    refine WO.call rfl rfl rfl (implProgOk p hB (r := true) (by simp [hp])) rfl rfl ?_
    refine go3 ?_
    refine WO.callF rfl (.cons (frzA rfl rfl) (.cons (frzA rfl rfl) .nil)) (envRightN p v hp.w0 hp.w8 hB r1 r2 (by omega) (by omega) hV.r4 (fun hv => h ⟨hp, hv⟩)) rfl rfl rfl ?_
    refine go3 ?_
    exact retV rfl rfl rfl rfl
  · refine WO.call rfl rfl rfl (implProgOk p hB (r := false) (by simp [hp])) rfl rfl ?_
    refine go3 ?_
    exact retV rfl rfl rfl rfl
theorem implValueInN (p : Pr) (v : Vs) (e : List Tm) (hB : PB p) (hV : VB v) (hE : e.length ≤ 1048576) (h : ¬ (PrOk p ∧ EOk p v ∧ reckOk p e)) : Ev Try.prog X (.fn 25 [.ag (prR p), .ag (enR v), .im e.length (encL tm e)] (.tu [i64 0, i64 0]) [.dead, .dead, .dead]) := by
  refine Ev.fnW (env := [(0, .ag (prR p)), (1, .ag (enR v)), (2, .im e.length (encL tm e))]) Try.func25 rfl nm_impl_ValueIn rfl rfl (by kernel_rfl) (.cons rfl (.cons rfl (.cons rfl .nil))) ?_
  refine go3 ?_
  by_cases hp : PrOk p ∧ EOk p v
  · obtain ⟨r1, r2, r3, r4, r5⟩ := hp.1.r
    refine WO.call rfl rfl rfl (implEnvOk p v hp.1 hB hp.2) rfl rfl ?_
    refine go3 ?_
    refine WO.callF rfl (.cons (frzA rfl rfl) (.cons (.plain _ rfl) .nil)) (reckonable p hp.1.w0 hp.1.w8 hB r1 r2 e hE (r := false) ⟨fun h => by simp at h, fun h2 => absurd ⟨hp.1, hp.2, h2⟩ h⟩) rfl rfl rfl ?_
    refine go3 ?_
    exact retVV rfl rfl rfl rfl rfl
  · refine WO.call rfl rfl rfl (implEnvOkN p v hB hV hp) rfl rfl ?_
    refine go3 ?_
    exact retVV rfl rfl rfl rfl rfl
theorem implPlainInN (p : Pr) (v : Vs) (e : List Tm) (hB : PB p) (hV : VB v) (hE : e.length ≤ 1048576) (h : ¬ (PrOk p ∧ EOk p v ∧ reckOk p e)) : Ev Try.prog X (.fn 20 [.ag (prR p), .ag (enR v), .im e.length (encL tm e)] (i64 0) [.dead, .dead, .dead]) := by
  refine Ev.fnW (env := [(0, .ag (prR p)), (1, .ag (enR v)), (2, .im e.length (encL tm e))]) Try.func20 rfl nm_impl_PlainIn rfl rfl (by kernel_rfl) (.cons rfl (.cons rfl (.cons rfl .nil))) ?_
  refine go3 ?_
  by_cases hp : PrOk p ∧ EOk p v
  · obtain ⟨r1, r2, r3, r4, r5⟩ := hp.1.r
    refine WO.call rfl rfl rfl (implEnvOk p v hp.1 hB hp.2) rfl rfl ?_
    refine go3 ?_
    refine WO.callF rfl (.cons (frzA rfl rfl) (.cons (.plain _ rfl) .nil)) (reckonable p hp.1.w0 hp.1.w8 hB r1 r2 e hE (r := false) ⟨fun h => by simp at h, fun h2 => absurd ⟨hp.1, hp.2, h2⟩ h⟩) rfl rfl rfl ?_
    refine go3 ?_
    exact retV rfl rfl rfl rfl
  · refine WO.call rfl rfl rfl (implEnvOkN p v hB hV hp) rfl rfl ?_
    refine go3 ?_
    exact retV rfl rfl rfl rfl
theorem specValueInN (p : Pr) (v : Vs) (e : List Tm) (hB : PB p) (hV : VB v) (hE : e.length ≤ 1048576) (h : ¬ (PrOk p ∧ EOk p v ∧ reckOk p e)) : Ev Try.prog X (.fn 24 [.ag (prR p), .ag (enR v), .im e.length (encL tm e)] (.tu [i64 0, i64 0]) [.dead, .dead, .dead]) := by
  have hv1 := hV.v; have hv2 := hV.c
  refine Ev.fnW (env := [(0, .ag (prR p)), (1, .ag (enR v)), (2, .im e.length (encL tm e))]) Try.func24 rfl nm_spec_ValueIn rfl rfl (by kernel_rfl) (.cons rfl (.cons rfl (.cons rfl .nil))) ?_
  refine go3 ?_
  by_cases hp : PrOk p ∧ EOk p v
  · obtain ⟨r1, r2, r3, r4, r5⟩ := hp.1.r
    refine WO.call rfl rfl rfl (specEnvOk p v hB (by omega) (by omega) hV.r4 (r := true) (by simp [hp.1, hp.2])) rfl rfl ?_
    refine go3 ?_
    refine WO.call rfl rfl rfl (l3Names p hp.1.w0 hp.1.w8 hB r1 r2 e hE (r := false) ⟨fun h => by simp at h, fun h2 => absurd ⟨hp.1, hp.2, h2⟩ h⟩) rfl rfl ?_
    refine go3 ?_
    exact retVV rfl rfl rfl rfl rfl
  · refine WO.call rfl rfl rfl (specEnvOk p v hB (by omega) (by omega) hV.r4 (r := false) ⟨fun h => by simp at h, fun h2 => absurd h2 hp⟩) rfl rfl ?_
    refine go3 ?_
    exact retVV rfl rfl rfl rfl rfl
theorem specPlainInN (p : Pr) (v : Vs) (e : List Tm) (hB : PB p) (hV : VB v) (hE : e.length ≤ 1048576) (h : ¬ (PrOk p ∧ EOk p v ∧ reckOk p e)) : Ev Try.prog X (.fn 16 [.ag (prR p), .ag (enR v), .im e.length (encL tm e)] (i64 0) [.dead, .dead, .dead]) := by
  have hv1 := hV.v; have hv2 := hV.c
  refine Ev.fnW (env := [(0, .ag (prR p)), (1, .ag (enR v)), (2, .im e.length (encL tm e))]) Try.func16 rfl nm_spec_PlainIn rfl rfl (by kernel_rfl) (.cons rfl (.cons rfl (.cons rfl .nil))) ?_
  refine go3 ?_
  by_cases hp : PrOk p ∧ EOk p v
  · obtain ⟨r1, r2, r3, r4, r5⟩ := hp.1.r
    refine WO.call rfl rfl rfl (specEnvOk p v hB (by omega) (by omega) hV.r4 (r := true) (by simp [hp.1, hp.2])) rfl rfl ?_
    refine go3 ?_
    refine WO.call rfl rfl rfl (l3Names p hp.1.w0 hp.1.w8 hB r1 r2 e hE (r := false) ⟨fun h => by simp at h, fun h2 => absurd ⟨hp.1, hp.2, h2⟩ h⟩) rfl rfl ?_
    refine go3 ?_
    exact retV rfl rfl rfl rfl
  · refine WO.call rfl rfl rfl (specEnvOk p v hB (by omega) (by omega) hV.r4 (r := false) ⟨fun h => by simp at h, fun h2 => absurd h2 hp⟩) rfl rfl ?_
    refine go3 ?_
    exact retV rfl rfl rfl rfl
/-- How many numbers may still come. -/
def szR : List (List Int) → Int → Int
  | [], m => m
  | l :: ls, m => if szN l.length m < 0 then -1 else szR ls (szN l.length m)
theorem szN_le {n : Nat} {m : Int} (h : 0 ≤ szN n m) : szN n m ≤ m ∧ (n : Int) ≤ m := by unfold szN at *; split at h <;> split <;> omega
theorem szR_le : ∀ {l : List (List Int)} {m : Int}, 0 ≤ szR l m → szR l m ≤ m ∧ ∀ x ∈ l, (x.length : Int) ≤ m
  | [], m, h => ⟨Int.le_refl _, by simp⟩
  | x :: l, m, h => by
    simp only [szR] at h ⊢
    split at h
    · omega
    · rename_i h1
      rw [if_neg h1]
      have h2 := szN_le (n := x.length) (m := m) (by omega)
      have h3 := szR_le h
      refine ⟨by omega, fun y hy => ?_⟩
      rcases List.mem_cons.1 hy with rfl | hy
      · exact h2.2
      · have := h3.2 y hy; omega
set_option maxHeartbeats 4000000 in
theorem szInt64SS (l : List (List Int)) (left : Int) (h0 : 0 ≤ left) (h1 : left ≤ 1048576) (hl : l.length ≤ 9223372036854775807) (hs : ∀ x ∈ l, x.length ≤ 9223372036854775807) : Ev Try.prog X (.fn 66 [.im l.length (encL eRow l), i64 left] (i64 (if left - l.length < 0 then -1 else szR l (left - l.length))) [.dead, .dead]) := by
  refine Ev.fnW (env := [(0, .im l.length (encL eRow l)), (1, i64 left)]) Try.func66 rfl nm_laws_szInt64SS rfl rfl (by kernel_rfl) (.cons rfl (.cons rfl .nil)) ?_
  refine go3 ?_
  by_cases hn : left - l.length < 0
  · rw [if_pos hn]
    refine go3 ?_
    exact retV rfl rfl rfl rfl
  rw [if_neg hn]
  refine go3 ?_
  refine WC.loopS (S := Nat × Int) (fun s => [(0, .im l.length (encL eRow l)), (1, i64 s.2), (5, i64 s.1)]) (fun s => s.1 ≤ l.length ∧ 0 ≤ s.2 ∧ s.2 ≤ 1048576 ∧ szR (l.drop s.1) s.2 = szR l (left - l.length)) (fun s => l.length - s.1) (0, left - l.length) (.cons rfl (.cons rfl (.cons rfl .nil))) ⟨Nat.zero_le _, by dsimp only; omega, by dsimp only; omega, rfl⟩ ?_
  rintro ⟨i, m⟩ ⟨g1, g2, g3, g4⟩
  dsimp only at g1 g2 g3 g4 ⊢
  refine go3 ?_
  refine WO.cmp rfl rfl rfl rfl rfl (fun h3 => ?_) (fun h3 => ?_)
  · have hi : i < l.length := by omega
    have hx := hs _ (getD_mem hi [])
    rw [drop_getD hi []] at g4
    simp only [szR] at g4
    have hz : szN (l.getD i []).length m = if m - (l.getD i []).length < 0 then -1 else m - (l.getD i []).length := rfl
    refine go3 ?_
    refine WO.ixN (f := eRow) [] rfl rfl rfl hi rfl ?_
    refine go3 ?_
    refine WO.call rfl rfl rfl (szInt64S (l.getD i []).length _ m g2 (by omega) hx) rfl rfl ?_
    rw [← hz]
    have hle := fun h => (szN_le (n := (l.getD i []).length) (m := m) h).1
    generalize szN (l.getD i []).length m = m' at *
    by_cases hm : m' < 0
    · rw [if_pos hm] at g4
      rw [← g4]
      refine go3 ?_
      exact retV rfl rfl rfl rfl
    · rw [if_neg hm] at g4
      have hle := hle (by omega)
      refine go3 ?_
      exact lpK.mk (i + 1, m') (.cons rfl (.cons rfl (.cons rfl .nil))) ⟨hi, by dsimp only; omega, by dsimp only; omega, g4⟩ (show l.length - (i + 1) < l.length - i by omega)
  · have : i = l.length := by omega
    subst this
    rw [List.drop_length] at g4
    simp only [szR] at g4
    subst g4
    refine go3 ?_
    exact retV rfl rfl rfl rfl
/-- What is known of surroundings that are read. -/
structure VsQ (e : Vs) : Prop where
  v : e.vars.length ≤ 9223372036854775807
  c : e.cells.length ≤ 9223372036854775807
  r : ∀ l ∈ e.cells, l.length ≤ 9223372036854775807
theorem szEnv (v : Vs) (left : Int) (h0 : 0 ≤ left) (h1 : left ≤ 1048576) (hq : VsQ v) : ∃ r : Int, Ev Try.prog X (.fn 14 [.ag (enR v), i64 left] (i64 r) [.dead, .dead]) ∧ r ≤ left ∧ (0 ≤ r → VB v) := by
  have c1 := szInt64S (X := X) v.vars.length (encL eI v.vars) left h0 (by omega) hq.v
  have hz : szN v.vars.length left = if left - v.vars.length < 0 then -1 else left - v.vars.length := rfl
  rw [← hz] at c1
  have hle := fun h => szN_le (n := v.vars.length) (m := left) h
  generalize szN v.vars.length left = m at *
  by_cases hm : m < 0
  · refine ⟨-1, ?_, by omega, by omega⟩
    refine Ev.fnW (env := [(0, .ag (enR v)), (1, i64 left)]) Try.func14 rfl nm_laws_szEnv rfl rfl (by kernel_rfl) (.cons rfl (.cons rfl .nil)) ?_
    refine go3 ?_
    refine WO.call rfl rfl rfl c1 rfl rfl ?_
    refine go3 ?_
    exact retV rfl rfl rfl rfl
  · have hle := hle (by omega)
    have c2 := szInt64SS (X := X) v.cells m (by omega) (by omega) hq.c hq.r
    have e2 : (if m - (v.cells.length : Int) < 0 then -1 else szR v.cells (m - v.cells.length)) ≤ m ∧ (0 ≤ (if m - (v.cells.length : Int) < 0 then -1 else szR v.cells (m - v.cells.length)) → VB v) := by
      split
      · exact ⟨by omega, by omega⟩
      · by_cases h : 0 ≤ szR v.cells (m - v.cells.length)
        · have h2 := szR_le h
          exact ⟨by omega, fun _ => ⟨by omega, by omega, fun l hl => by have := h2.2 l hl; omega⟩⟩
        · exact ⟨by omega, fun h' => absurd h' h⟩
    generalize (if m - (v.cells.length : Int) < 0 then -1 else szR v.cells (m - v.cells.length)) = r at *
    refine ⟨if r < 0 then -1 else r, ?_, by split <;> omega, fun h => e2.2 (by split at h <;> omega)⟩
    refine Ev.fnW (env := [(0, .ag (enR v)), (1, i64 left)]) Try.func14 rfl nm_laws_szEnv rfl rfl (by kernel_rfl) (.cons rfl (.cons rfl .nil)) ?_
    refine go3 ?_
    refine WO.call rfl rfl rfl c1 rfl rfl ?_
    refine go3 ?_
    refine WO.call rfl rfl rfl c2 rfl rfl ?_
    by_cases hr : r < 0
    · rw [if_pos hr]
      refine go3 ?_
      exact retV rfl rfl rfl rfl
    · rw [if_neg hr]
      refine go3 ?_
      exact retV rfl rfl rfl rfl
/-- An element's own tree, or none yet. -/
def loR (l : List Int) : AV := ints l
theorem encL_loR : ∀ (l : List (List Int)), encL eV (l.map loR) = encL (eO 2 1 eI) l
  | [] => rfl
  | x :: l => by rw [List.map_cons, encL_cons, encL_cons, encL_loR l]; rfl
theorem row_fill {l : List (List Int)} {i : Nat} (h : i < l.length) : ((l.take i).map loR ++ List.replicate (l.length - i) AV.nl).set i (loR (l.getD i [])) = (l.take (i + 1)).map loR ++ List.replicate (l.length - (i + 1)) AV.nl := by
  have h1 : ((l.take i).map loR).length = i := by simp; omega
  rw [List.set_append, if_neg (by omega), h1, Nat.sub_self, List.take_add_one, List.map_append, show l.length - i = (l.length - (i + 1)) + 1 by omega, List.replicate_succ, List.set_cons_zero, List.append_assoc]
  simp [List.getD_eq_getElem?_getD, h]
set_option maxHeartbeats 4000000 in
theorem toInt64SS (l : List (List Int)) (hl : l.length ≤ 1048576) (hs : ∀ x ∈ l, x.length ≤ 1048576) : Ev Try.prog X (.fn 72 [.im l.length (encL eRow l)] (.ow 23 1 l.length (encL (eO 2 1 eI) l)) [.dead]) := by
  refine Ev.fnW (env := [(0, .im l.length (encL eRow l))]) Try.func72 rfl nm_laws_toInt64SS rfl rfl (by kernel_rfl) (.cons rfl .nil) ?_
  refine go3 ?_
  refine WO.mk (f := eV) .nl rfl rfl rfl rfl (by omega) (by unfold maxLen; omega) rfl ?_
  refine go3 ?_
  refine WC.loopS (S := Nat) (fun i => [(0, .im l.length (encL eRow l)), (3, .ow 23 1 l.length (encL eV ((l.take i).map loR ++ List.replicate (l.length - i) .nl))), (4, i64 i)]) (fun i => i ≤ l.length) (fun i => l.length - i) 0 (.cons rfl (.cons rfl (.cons rfl .nil))) (Nat.zero_le _) ?_
  intro i g1
  have hlen : ∀ j ≤ l.length, ((l.take j).map loR ++ List.replicate (l.length - j) AV.nl).length = l.length := fun j hj => by simp; omega
  refine go3 ?_
  refine WO.cmp rfl rfl rfl rfl rfl (fun h3 => ?_) (fun h3 => ?_)
  · have hi : i < l.length := by omega
    have hx := hs _ (getD_mem hi [])
    have ef := row_fill hi
    have h1 := hlen i g1
    generalize (l.take i).map loR ++ List.replicate (l.length - i) AV.nl = Y at *
    refine go3 ?_
    refine WO.ixN (f := eRow) [] rfl rfl rfl hi rfl ?_
    refine go3 ?_
    refine WO.call rfl rfl rfl (toInt64S (l.getD i []) (by omega)) rfl rfl ?_
    refine WO.ixM rfl rfl rfl (by rw [encL_eV]; omega) rfl hi rfl rfl ?_
    refine WO.stO rfl rfl rfl rfl (encL_length _) rfl (by rw [encL_eV]; omega) rfl rfl ?_
    rw [encL_eV, Nat.mul_one, show ∀ z : List AV, AV.ow 23 1 l.length z = .ow 23 1 l.length (encL eV z) from fun z => by rw [encL_eV], show Y.set i (AV.ow 2 1 (l.getD i []).length (encL eI (l.getD i []))) = Y.set i (loR (l.getD i [])) from rfl, ef]
    refine go3 ?_
    exact lpK.mk (i + 1) (.cons rfl (.cons rfl (.cons rfl .nil))) hi (show l.length - (i + 1) < l.length - i by omega)
  · have : i = l.length := by omega
    subst this
    rw [List.take_length, Nat.sub_self, List.replicate_zero, List.append_nil, encL_loR]
    refine go3 ?_
    exact retO rfl rfl (by rw [encO_len]; omega) rfl rfl rfl
theorem toEnv (v : Vs) (hV : VB v) : Ev Try.prog X (.fn 18 [.ag (enR v)] (.ag (enO v)) [.dead]) := by
  have hv := hV.v
  refine Ev.fnW (env := [(0, .ag (enR v))]) Try.func18 rfl nm_laws_toEnv rfl rfl (by kernel_rfl) (.cons rfl .nil) ?_
  refine go3 ?_
  refine WO.call rfl rfl rfl (toInt64S v.vars (by omega)) rfl rfl ?_
  refine go3 ?_
  refine WO.stOp (a := 0) (cs' := [ints v.vars, .nl]) rfl rfl rfl rfl (encL_length _) rfl rfl rfl rfl rfl ?_
  refine go3 ?_
  refine WO.call rfl rfl rfl (toInt64SS v.cells hV.c hV.r) rfl rfl ?_
  refine go3 ?_
  refine WO.stOp (a := 1) (cs' := enO v) rfl rfl rfl rfl (by rw [encO_len]; omega) rfl rfl rfl rfl rfl ?_
  refine go3 ?_
  refine WO.q rfl (QE.ldG rfl rfl rfl (L := [.vw 3 [0] 0 v.vars.length, .vw 3 [1] 0 v.cells.length]) rfl) rfl rfl ?_
  refine WO.stG (vs := enO v) rfl rfl rfl (.ag (takeVr (r := 3) (cs := enO v) rfl (whL_enO v)) (.nil _)) rfl rfl rfl rfl ?_
  refine go3 ?_
  exact retCG rfl rfl rfl (whL_enO v) rfl rfl rfl
end Go.Eng.C

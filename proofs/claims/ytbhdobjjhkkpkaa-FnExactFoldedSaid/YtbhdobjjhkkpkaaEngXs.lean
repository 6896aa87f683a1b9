/- Contracts of functions, by the engine: values in surroundings that are right. -/
import Derived.Test.YtbhdobjjhkkpkaaEngXr
import Derived.Test.YtbhdobjjhkkpkaaEngXm
namespace Go.Eng.C
open Go Go.Eng Go.RowKit Go.Proofs
set_option linter.unusedVariables false
set_option linter.unusedSimpArgs false
set_option maxRecDepth 10000
variable {X : FuncId → List AV → AV → List AV → Prop}
theorem nm_impl_allValues : (Try.f191.name == "runtime.NumGoroutine") = false := by decide
theorem nm_impl_envRight : (Try.f144.name == "runtime.NumGoroutine") = false := by decide
theorem nm_impl_EnvOk : (Try.f74.name == "runtime.NumGoroutine") = false := by decide
theorem nm_impl_ValueIn : (Try.f25.name == "runtime.NumGoroutine") = false := by decide
set_option maxHeartbeats 8000000 in
theorem allValues (p : Pr) (h0 : 0 ≤ p.w) (h8 : p.w ≤ 8) (l : List Int) (hl : l.length ≤ 4194304) (h : ∀ x ∈ l, 0 ≤ x ∧ x < sizeW p.w) : Ev Try.prog X (.fn 191 [.ip (prR p), .im l.length (encL eI l)] (bl true) [.dead, .dead]) := by
  refine Ev.fnW (env := [(0, .ip (prR p)), (1, .im l.length (encL eI l))]) Try.func191 rfl nm_impl_allValues rfl rfl (by kernel_rfl) (.cons rfl (.cons rfl .nil)) ?_
  refine go2 ?_
  refine WC.loopS (S := Nat) (fun i => [(0, .ip (prR p)), (7, .im l.length (encL eI l)), (8, i64 l.length), (9, i64 i)]) (fun i => i ≤ l.length) (fun i => l.length - i) 0 (.cons rfl (.cons rfl (.cons rfl (.cons rfl .nil)))) (Nat.zero_le _) ?_
  intro i g1
  refine go2 ?_
  refine WO.cmp rfl rfl rfl rfl rfl (fun h3 => ?_) (fun h3 => ?_)
  · have hi : i < l.length := by omega
    have hx := getD_in (q := fun x => 0 ≤ x ∧ x < sizeW p.w) h hi
    refine go2 ?_
    refine WO.ixN (f := eI) 0 rfl rfl rfl hi rfl ?_
    refine go2 ?_
    refine WO.call rfl rfl rfl (greatest p h0 h8) rfl rfl ?_
    refine go2 ?_
    exact lpK.mk (i + 1) (.cons rfl (.cons rfl (.cons rfl (.cons rfl .nil)))) hi (by omega)
  · refine go2 ?_
    exact retV rfl rfl rfl rfl
set_option maxHeartbeats 8000000 in
theorem envRight (p : Pr) (v : Vs) (h0 : 1 ≤ p.w) (h8 : p.w ≤ 8) (hB : PB p) (ht0 : 0 ≤ p.temps) (ht1 : p.temps ≤ 6) (ha : p.arrs.length ≤ 2 ∧ ∀ n ∈ p.arrs, 1 ≤ n ∧ n ≤ 6) (hv : EOk p v) : Ev Try.prog X (.fn 144 [.ip (prR p), .ip (enR v)] (bl true) [.dead, .dead]) := by
  have hl1 := hB.l; have hl2 := hB.s; have hl3 := hB.a
  have hv1 := hv.n
  have hv3 := hv.m
  have hvn : varsN p = ((p.lows.length + p.secs.length : Nat) : Int) + p.temps := rfl
  refine Ev.fnW (env := [(0, .ip (prR p)), (1, .ip (enR v))]) Try.func144 rfl nm_impl_envRight rfl rfl (by kernel_rfl) (.cons rfl (.cons rfl .nil)) ?_
  refine go2 ?_
  refine WC.regionDd ⟨[[], [0], [0, 1], [0, 1, 2], [0, 1, 2, 3], [], [5], [0, 1, 2, 3, 4, 5, 6], [0, 1, 2, 3, 4, 5, 6, 7], [0, 1, 2, 3, 4, 5, 6, 7, 8], [0, 1, 2, 3, 4, 5, 6, 7, 8], [0, 1, 2, 3, 4, 5, 6, 7, 8, 10], [0, 1, 2, 3, 4, 5, 6, 7, 8, 10, 11], [0, 1, 2, 3, 4, 5, 6, 7, 8, 10, 11, 12], [0, 1, 2, 3, 4, 5, 6, 7, 8, 9, 10, 11, 12, 13], [0, 1, 2, 3, 4, 5, 6, 7, 8, 9, 10, 11, 12, 13, 14], [0, 1, 2, 3, 4, 5, 6, 7, 8, 9, 10, 11, 12, 13, 14, 15], [0, 1, 2, 3, 4, 5, 6, 7, 8, 9, 10, 11, 12, 13, 14, 15, 16], [0, 1, 2, 3, 4, 5, 6, 7, 8, 9, 10, 11, 12, 13, 14, 15, 16, 17], [0, 1, 2, 3, 4, 5, 6, 7, 8, 9, 10, 11, 12, 13, 14, 15, 16, 17, 18], [0, 1, 2, 3, 4, 5, 6, 7, 8, 9, 10, 11, 12, 13, 14, 15, 16, 17, 18, 19], [0, 1, 2, 3, 4, 5, 6, 7, 8, 9, 10, 11, 12, 13, 14, 15, 16, 17, 18, 19, 20], [0, 1, 2, 3, 4, 5, 6, 7, 8, 9, 10, 11, 12, 13, 14, 15, 16, 17, 18, 19, 20, 21], [0, 1, 2, 3, 4, 5, 6, 7, 8, 9, 10, 11, 12, 13, 14, 15, 16, 17], [0, 1, 2, 3, 4, 5, 6, 7, 8, 9, 10, 11, 12, 13, 14, 15, 16, 17, 23], [0, 1, 2, 3, 4, 5, 6, 7, 8, 9, 10, 11, 12, 13, 14, 15, 16, 17, 23, 24], [0, 1, 2, 3, 4, 5, 6, 7, 8, 9, 10, 11, 12, 13, 14, 15, 16, 17, 23, 24, 25], [0, 1, 2, 3, 4, 5, 6, 7, 8, 9, 10, 11, 12, 13, 14, 15, 16, 17, 23, 24, 25, 26], [0, 1, 2, 3, 4, 5, 6, 7, 8, 9, 10, 11, 12, 13, 14, 15, 16, 17, 18, 19, 20, 21, 22, 23, 24, 25, 26, 27], [0, 1, 2, 3, 4, 5, 6, 7, 8, 9, 10, 11, 12, 13, 14, 15, 16, 17, 18, 19, 20, 21, 22, 23, 24, 25, 26, 27, 28]], [0, 1, 2, 3, 4, 5, 6, 7, 8, 9, 10, 11, 12, 13, 15, 16, 17, 18, 19, 20, 21, 22, 23, 24, 25, 26, 27, 28, 29], [], [7, 8, 9, 10, 11, 12, 13, 14, 15, 16, 17, 18, 19, 20, 22, 23, 24, 25, 26, 27, 28, 29, 30, 31, 32, 33, 34, 35, 36], [0, 1, 2, 3, 4, 5, 6, 7, 8, 9, 10, 11, 12, 13, 14, 15, 16, 17, 18, 19, 20, 21, 22, 23, 24, 25, 26, 27, 28, 29], [([12, 13], [12, 13], false), ([12, 13], [12, 13], false), ([12, 13], [12, 13], false), ([12, 13], [12, 13], false), ([12, 13], [12, 13], false), ([7, 8, 9, 10, 11], [7, 8, 9, 10, 11], false), ([7, 8, 9, 10, 11], [7, 8, 9, 10, 11], false), ([], [], false), ([], [], false), ([17, 18, 19, 20], [17, 18, 19, 20], false), ([16], [16], false), ([16], [16], false), ([16], [16], false), ([16], [16], false), ([], [], false), ([], [], false), ([], [], false), ([], [], false), ([30, 31, 32, 33, 34], [30, 31, 32, 33, 34], false), ([30, 31, 32, 33, 34], [30, 31, 32, 33, 34], false), ([30, 31, 32, 33, 34], [30, 31, 32, 33, 34], false), ([30, 31, 32, 33, 34], [30, 31, 32, 33, 34], false), ([30, 31, 32, 33, 34], [30, 31, 32, 33, 34], false), ([25, 26, 27, 28, 29], [25, 26, 27, 28, 29], false), ([25, 26, 27, 28, 29], [25, 26, 27, 28, 29], false), ([25, 26, 27, 28, 29], [25, 26, 27, 28, 29], false), ([25, 26, 27, 28, 29], [25, 26, 27, 28, 29], false), ([25, 26, 27, 28, 29], [25, 26, 27, 28, 29], false), ([], [], false), ([], [], false)]⟩ (by kernel_rfl) ?_
  refine go2 ?_
  refine WD.call rfl rfl rfl rfl rfl rfl rfl (varsOf p hl1 hl2 (by omega) (by omega)) rfl rfl rfl ?_
  refine go2 ?_
  refine WO.call rfl rfl rfl (allValues p (by omega) h8 v.vars (by omega) hv.vs) rfl rfl ?_
  refine go2 ?_
  refine WC.loopS (S := Nat) (fun i => [(0, .ip (prR p)), (40, .im v.cells.length (encL eRow v.cells)), (41, i64 v.cells.length), (42, i64 i)]) (fun i => i ≤ v.cells.length) (fun i => v.cells.length - i) 0 (.cons rfl (.cons rfl (.cons rfl (.cons rfl .nil)))) (Nat.zero_le _) ?_
  intro i g1
  refine go2 ?_
  refine WO.cmp rfl rfl rfl rfl rfl (fun h3 => ?_) (fun h3 => ?_)
  · have hi : i < v.cells.length := by omega
    have hi2 : i < p.arrs.length := by omega
    obtain ⟨c1, c2⟩ := hv.c i hi2
    obtain ⟨c3, c4⟩ := getD_in (q := fun n => 1 ≤ n ∧ n ≤ 6) ha.2 hi2
    refine go2 ?_
    refine WO.ixN (f := eRow) [] rfl rfl rfl hi rfl ?_
    refine go2 ?_
    refine WO.ixN (f := eI) 0 rfl rfl rfl hi2 rfl ?_
    refine go2 ?_
    refine WO.call rfl rfl rfl (allValues p (by omega) h8 (v.cells.getD i []) (by omega) c2) rfl rfl ?_
    refine go2 ?_
    exact lpK.mk (i + 1) (.cons rfl (.cons rfl (.cons rfl (.cons rfl .nil)))) hi (by omega)
  · refine go2 ?_
    exact retV rfl rfl rfl rfl
theorem implEnvOk (p : Pr) (v : Vs) (hp : PrOk p) (hB : PB p) (hv : EOk p v) : Ev Try.prog X (.fn 74 [.ag (prR p), .ag (enR v)] (bl true) [.dead, .dead]) := by
  obtain ⟨r1, r2, r3, r4, r5⟩ := hp.r
  refine Ev.fnW (env := [(0, .ag (prR p)), (1, .ag (enR v))]) Try.func74 rfl nm_impl_EnvOk rfl rfl (by kernel_rfl) (.cons rfl (.cons rfl .nil)) ?_
  refine go2 ?_
  refine WO.call rfl rfl rfl (implProgOk p hB (r := true) (by simp [hp])) rfl rfl ?_
  refine go2 ?_
  refine WO.callF rfl (.cons (frzA rfl rfl) (.cons (frzA rfl rfl) .nil)) (envRight p v hp.w0 hp.w8 hB r1 r2 ⟨r3, r5⟩ hv) rfl rfl rfl ?_
  refine go2 ?_
  exact retV rfl rfl rfl rfl
theorem implValueIn (p : Pr) (v : Vs) (e : List Tm) (hp : PrOk p) (hB : PB p) (hv : EOk p v) (he : reckOk p e) : Ev Try.prog X (.fn 25 [.ag (prR p), .ag (enR v), .im e.length (encL tm e)] (.tu [i64 (rk p.w v e []).1, i64 (rk p.w v e []).2]) [.dead, .dead, .dead]) := by
  obtain ⟨r1, r2, r3, r4, r5⟩ := hp.r
  have hel : e.length ≤ 3000 := by have := he.1; simp only [expOk, Bool.and_eq_true, decide_eq_true_eq] at this; exact this.1
  refine Ev.fnW (env := [(0, .ag (prR p)), (1, .ag (enR v)), (2, .im e.length (encL tm e))]) Try.func25 rfl nm_impl_ValueIn rfl rfl (by kernel_rfl) (.cons rfl (.cons rfl (.cons rfl .nil))) ?_
  refine go2 ?_
  refine WO.call rfl rfl rfl (implEnvOk p v hp hB hv) rfl rfl ?_
  refine go2 ?_
  refine WO.callF rfl (.cons (frzA rfl rfl) (.cons (.plain _ rfl) .nil)) (reckonable p hp.w0 hp.w8 hB r1 r2 e (by omega) (r := true) (by simp [he])) rfl rfl rfl ?_
  refine go2 ?_
  refine WO.callF rfl (.cons (frzA rfl rfl) (.cons (frzA rfl rfl) (.cons (.plain _ rfl) (.cons (.plain _ rfl) .nil)))) (reckon p v e hp.w0 hp.w8 hB he.1 (hv.fit he)) rfl rfl rfl ?_
  refine go2 ?_
  exact retVV rfl rfl rfl rfl rfl
theorem nm_impl_PlainIn : (Try.f20.name == "runtime.NumGoroutine") = false := by decide
theorem implPlainIn (p : Pr) (v : Vs) (e : List Tm) (hp : PrOk p) (hB : PB p) (hv : EOk p v) (he : reckOk p e) : Ev Try.prog X (.fn 20 [.ag (prR p), .ag (enR v), .im e.length (encL tm e)] (i64 (rp p.w v e []).1) [.dead, .dead, .dead]) := by
  obtain ⟨r1, r2, r3, r4, r5⟩ := hp.r
  have hel : e.length ≤ 3000 := by have := he.1; simp only [expOk, Bool.and_eq_true, decide_eq_true_eq] at this; exact this.1
  refine Ev.fnW (env := [(0, .ag (prR p)), (1, .ag (enR v)), (2, .im e.length (encL tm e))]) Try.func20 rfl nm_impl_PlainIn rfl rfl (by kernel_rfl) (.cons rfl (.cons rfl (.cons rfl .nil))) ?_
  refine go2 ?_
  refine WO.call rfl rfl rfl (implEnvOk p v hp hB hv) rfl rfl ?_
  refine go2 ?_
  refine WO.callF rfl (.cons (frzA rfl rfl) (.cons (.plain _ rfl) .nil)) (reckonable p hp.w0 hp.w8 hB r1 r2 e (by omega) (r := true) (by simp [he])) rfl rfl rfl ?_
  refine go2 ?_
  refine WO.callF rfl (.cons (frzA rfl rfl) (.cons (frzA rfl rfl) (.cons (.plain _ rfl) (.cons (.plain _ rfl) .nil)))) (reckonP p v e hp.w0 hp.w8 hB he.1 (hv.fit he)) rfl rfl rfl ?_
  refine go2 ?_
  exact retV rfl rfl rfl rfl
end Go.Eng.C

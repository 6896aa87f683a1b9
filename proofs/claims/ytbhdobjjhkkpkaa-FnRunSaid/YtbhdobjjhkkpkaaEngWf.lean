/- Contracts of functions, by the engine: the input of a number. -/
import Derived.Test.YtbhdobjjhkkpkaaEngXu
import Derived.Test.YtbhdobjjhkkpkaaEngB5
import Derived.Test.YtbhdobjjhkkpkaaEngXs
import Derived.Test.YtbhdobjjhkkpkaaEngXh
namespace Go.Eng.C
open Go Go.Eng Go.RowKit Go.Proofs
set_option linter.unusedVariables false
set_option linter.unusedSimpArgs false
set_option maxRecDepth 10000
variable {X : FuncId → List AV → AV → List AV → Prop}
theorem nm_spec_InputsIn : (Try.f55.name == "runtime.NumGoroutine") = false := by decide
theorem nm_spec_InputAt : (Try.f122.name == "runtime.NumGoroutine") = false := by decide
theorem nm_spec_l7At : (Try.f177.name == "runtime.NumGoroutine") = false := by decide
theorem drop_getI {q : List Inp} {i : Nat} (h : i < q.length) : q.drop i = q.getD i ⟨0, 0⟩ :: q.drop (i + 1) := by
  rw [List.getD_eq_getElem?_getD, List.getElem?_eq_getElem h, Option.getD_some, List.drop_eq_getElem_cons h]
theorem atL_step {q : List Inp} {i : Nat} (h : i < q.length) (n : Int) : atL (q.drop i) n = n % ((q.getD i ⟨0, 0⟩).max + 1) :: atL (q.drop (i + 1)) (n / ((q.getD i ⟨0, 0⟩).max + 1)) := by
  rw [drop_getI h]; rfl
set_option maxHeartbeats 8000000 in
theorem l7At (q : List Inp) (hc : CB q) (n : Int) (h0 : 0 ≤ n) (h1 : n ≤ 1024) : Ev Try.prog X (.fn 177 [.im (mxs q).length (encL eI (mxs q)), i64 n] (ints (atL q n)) [.dead, .dead]) := by
  have hqn := hc.n
  have hml := mxs_len q
  refine Ev.fnW (env := [(0, .im (mxs q).length (encL eI (mxs q))), (1, i64 n)]) Try.func177 rfl nm_spec_l7At rfl rfl (by kernel_rfl) (.cons rfl (.cons rfl .nil)) ?_
  refine go3 ?_
  refine WC.loopS (S := Nat × List Int × Int) (fun s => [(0, .im (mxs q).length (encL eI (mxs q))), (1, i64 s.2.2), (5, ints s.2.1), (6, i64 s.1)]) (fun s => s.1 ≤ q.length ∧ s.2.1 ++ atL (q.drop s.1) s.2.2 = atL q n ∧ 0 ≤ s.2.2 ∧ s.2.2 ≤ 1024) (fun s => q.length - s.1) (0, [], n) (.cons rfl (.cons rfl (.cons rfl (.cons rfl .nil)))) ⟨Nat.zero_le _, rfl, h0, h1⟩ ?_
  rintro ⟨i, m, k⟩ ⟨g1, g2, g3, g4⟩
  dsimp only at g1 g2 g3 g4 ⊢
  refine go3 ?_
  refine WO.cmp rfl rfl rfl rfl rfl (fun h3 => ?_) (fun h3 => ?_)
  · have hi : i < q.length := by omega
    have hi2 : i < (mxs q).length := by omega
    have hm : q.getD i ⟨0, 0⟩ ∈ q := by simp [List.getD_eq_getElem?_getD, hi]
    obtain ⟨a1, a2⟩ := hc.m _ hm
    have hml : m.length ≤ 6 := by have := congrArg List.length g2; simp [atL_len] at this; omega
    have hx := mxs_getD q hi
    rw [atL_step hi] at g2
    refine go3 ?_
    refine WO.ixN (f := eI) 0 rfl rfl rfl hi2 rfl ?_
    rw [hx]
    generalize q.getD i ⟨0, 0⟩ = x at *
    have hd : k / (x.max + 1) ≤ k := Int.ediv_le_self _ g3
    have hd0 : 0 ≤ k / (x.max + 1) := Int.ediv_nonneg g3 (by omega)
    refine go3 ?_
    refine WO.bsA (us := [i64 (k % (x.max + 1))]) (cs := [i64 (k % (x.max + 1))]) rfl rfl rfl rfl rfl (by kernel_rfl) rfl ?_
    refine WO.hard (r := 22) (p := []) (x := .ow 2 1 1 [i64 (k % (x.max + 1))]) (y := .im 1 [.sc (.int .i64 (k % (x.max + 1)))]) rfl rfl rfl ?_
    refine WO.apVI rfl rfl rfl (encL_length _) rfl rfl rfl (by unfold maxLen; omega) (by omega) rfl ?_
    rw [num_app]
    refine WO.cln 5 ?_
    refine go3 ?_
    refine WO.ixN (f := eI) 0 rfl rfl rfl hi2 rfl ?_
    rw [hx]
    refine go3 ?_
    exact lpK.mk (i + 1, m ++ [k % (x.max + 1)], k / (x.max + 1)) (.cons rfl (.cons rfl (.cons rfl (.cons rfl .nil)))) ⟨hi, by dsimp only; rw [← g2]; simp, hd0, by dsimp only; omega⟩ (by dsimp only; omega)
  · have : i = q.length := by omega
    subst this
    rw [List.drop_length] at g2
    simp only [atL, List.append_nil] at g2
    subst g2
    refine go3 ?_
    exact retO rfl rfl (encL_length _) rfl rfl rfl
theorem specInputsIn (p : Pr) (hB : PB p) (hp : PrOk p) : Ev Try.prog X (.fn 55 [.ag (prR p)] (i64 (cntL (p.lows ++ p.secs))) [.dead]) := by
  have h1 := hB.l; have h2 := hB.s
  refine Ev.fnW (env := [(0, .ag (prR p))]) Try.func55 rfl nm_spec_InputsIn rfl rfl (by kernel_rfl) (.cons rfl .nil) ?_
  refine go3 ?_
  refine WO.call rfl rfl rfl (specProgOk p hB (r := true) (by simp [hp])) rfl rfl ?_
  refine go3 ?_
  refine WO.call rfl rfl rfl (l7Maxes p h1 h2) rfl rfl ?_
  refine WO.callF rfl (.cons (frz1 rfl rfl) .nil) (l7Count (p.lows ++ p.secs) (CB.of hp.i hp.w8)) rfl rfl rfl ?_
  refine go3 ?_
  exact retV rfl rfl rfl rfl
theorem specInputsInN (p : Pr) (hB : PB p) (hp : ¬ PrOk p) : Ev Try.prog X (.fn 55 [.ag (prR p)] (i64 (-1)) [.dead]) := by
  refine Ev.fnW (env := [(0, .ag (prR p))]) Try.func55 rfl nm_spec_InputsIn rfl rfl (by kernel_rfl) (.cons rfl .nil) ?_
  refine go3 ?_
  refine WO.call rfl rfl rfl (specProgOk p hB (r := false) (by simp [hp])) rfl rfl ?_
  refine go3 ?_
  exact retV rfl rfl rfl rfl
set_option maxHeartbeats 8000000 in
theorem specInputAt (p : Pr) (hB : PB p) (hp : PrOk p) (n : Int) (h0 : 0 ≤ n) (h1 : n < cntL (p.lows ++ p.secs)) : Ev Try.prog X (.fn 122 [.ag (prR p), i64 n] (.tu [ints ((atL (p.lows ++ p.secs) n).take p.lows.length), ints ((atL (p.lows ++ p.secs) n).drop p.lows.length), bl true]) [.dead, .dead]) := by
  have hc := CB.of hp.i hp.w8
  have hc2 := hc.all
  have hqn := hc.n
  have hb1 := hB.l; have hb2 := hB.s
  have c1 := l7Maxes (X := X) p hb1 hb2
  have c2 := specInputsIn (X := X) p hB hp
  have hll : (p.lows ++ p.secs).length = p.lows.length + p.secs.length := List.length_append
  obtain ⟨q, hq⟩ : ∃ q, q = p.lows ++ p.secs := ⟨_, rfl⟩
  rw [← hq] at hc hqn hll h1 hc2 c1 c2 ⊢
  have hal := atL_len q n
  have l1 : ((atL q n).take p.lows.length).length = p.lows.length := by simp; omega
  have l2 : ((atL q n).drop p.lows.length).length = p.secs.length := by simp; omega
  have e1 : (List.take ((p.lows.length : Int).toNat - (0 : Int).toNat) (List.drop (0 : Int).toNat (atL q n))) = (atL q n).take p.lows.length := by simp
  have e2 : (List.take (((atL q n).length : Int).toNat - (p.lows.length : Int).toNat) (List.drop (p.lows.length : Int).toNat (atL q n))) = (atL q n).drop p.lows.length := by
    rw [List.take_of_length_le (by simp)]; simp
  refine Ev.fnW (env := [(0, .ag (prR p)), (1, i64 n)]) Try.func122 rfl nm_spec_InputAt rfl rfl (by kernel_rfl) (.cons rfl (.cons rfl .nil)) ?_
  refine go3 ?_
  refine WO.call rfl rfl rfl (specProgOk p hB (r := true) (by simp [hp])) rfl rfl ?_
  refine go3 ?_
  refine WO.call rfl rfl rfl c2 rfl rfl ?_
  refine go3 ?_
  refine WO.call rfl rfl rfl (l1In n 0 (cntL q - 1) (r := true) (by simp; omega)) rfl rfl ?_
  refine go3 ?_
  refine WO.call rfl rfl rfl c1 rfl rfl ?_
  refine go3 ?_
  refine WO.callF rfl (.cons (frz1 rfl rfl) (.cons (.plain _ rfl) .nil)) (l7At q hc n h0 (by omega)) (by simp only [noIm, noIm_eI]) rfl rfl ?_
  refine WO.hard (r := 25) (p := []) (x := ints (atL q n)) (y := .im (atL q n).length (encL eI (atL q n))) rfl rfl (by simp only [setN, Eng.hard, hardL_pl (encL_pl (f := eI) _)]) ?_
  refine go3 ?_
  refine WC.regionDd ⟨[[], [], [], [1, 2], [0, 1, 2, 3], [], [], [], [6, 7], [0, 1, 2, 3, 4, 5, 6, 7, 8], [0, 1, 2, 3, 4, 5, 6, 7, 8, 9], [0, 1, 2, 3, 4, 5, 6, 7, 8, 9, 10], [0, 1, 2, 3, 4, 5, 6, 7, 8, 9, 10, 11]], [1, 2, 3, 6, 7, 8], [(0, []), (4, [29]), (5, []), (9, [34]), (10, [33]), (11, [38])], [29, 30, 31, 32, 33, 34, 35, 36, 37, 38, 4, 5], [0, 1, 2, 3, 4, 5, 6, 7, 8, 9, 10, 11, 12], [([30, 31, 32, 34, 35, 36, 37], [30, 31, 32, 34, 35, 36, 37], true), ([29, 31, 34, 35, 36, 37], [29, 31, 34, 35, 36, 37], true), ([29, 30, 34, 35, 36, 37], [29, 30, 34, 35, 36, 37], true), ([29, 34, 35, 36, 37], [29, 34, 35, 36, 37], true), ([34, 35, 36, 37], [34, 35, 36, 37], true), ([29, 30, 31, 32, 33, 35, 36, 37], [29, 30, 31, 32, 33, 29, 35, 36, 37], true), ([29, 30, 31, 32, 33, 34, 36], [29, 30, 31, 32, 33, 29, 34, 36], true), ([29, 30, 31, 32, 33, 34, 35], [29, 30, 31, 32, 33, 29, 34, 35], true), ([29, 30, 31, 32, 33, 34], [29, 30, 31, 32, 33, 29, 34], true), ([], [], false), ([], [], false), ([], [], false), ([], [], false)]⟩ (by kernel_rfl) ?_
  refine go3 ?_
  refine WD.gen [(29, .ow 2 1 0 [])] rfl rfl rfl rfl rfl (WO.build0 rfl rfl rfl (WO.nil (WK.mk' (.cons _ (.nil _))))) rfl rfl rfl ⟨rfl, trivial⟩ rfl rfl (.cons _ (.nil _)) ?_
  refine go3 ?_
  refine WD.q rfl rfl rfl rfl rfl (QE.slI (f := eI) (i := 0) (j := p.lows.length) rfl rfl rfl (by omega) (by omega) (by omega)) rfl rfl rfl ?_
  rw [e1]
  refine WD.gen [(33, ints ((atL q n).take p.lows.length)), (29, .dead)] rfl rfl rfl rfl rfl ?_ rfl rfl rfl ⟨rfl, trivial⟩ rfl rfl (.cons _ (.cons _ (.nil _))) ?_
  · refine WO.apI (cs := []) rfl rfl rfl rfl rfl (by rw [encL_len1]; omega) rfl (by unfold maxLen; omega) (by omega) rfl ?_
    rw [List.nil_append, Nat.zero_add]
    exact WO.nil (WK.mk' (.cons _ (.cons _ (.nil _))))
  refine go3 ?_
  refine WD.gen [(34, .ow 2 1 0 [])] rfl rfl rfl rfl rfl (WO.build0 rfl rfl rfl (WO.nil (WK.mk' (.cons _ (.nil _))))) rfl rfl rfl ⟨rfl, trivial⟩ rfl rfl (.cons _ (.nil _)) ?_
  refine go3 ?_
  refine WD.q rfl rfl rfl rfl rfl (QE.slI (f := eI) (i := p.lows.length) (j := (atL q n).length) rfl rfl rfl (by omega) (by omega) (by omega)) rfl rfl rfl ?_
  rw [e2]
  refine WD.gen [(38, ints ((atL q n).drop p.lows.length)), (34, .dead)] rfl rfl rfl rfl rfl ?_ rfl rfl rfl ⟨rfl, trivial⟩ rfl rfl (.cons _ (.cons _ (.nil _))) ?_
  · refine WO.apI (cs := []) rfl rfl rfl rfl rfl (by rw [encL_len1]; omega) rfl (by unfold maxLen; omega) (by omega) rfl ?_
    rw [List.nil_append, Nat.zero_add]
    exact WO.nil (WK.mk' (.cons _ (.cons _ (.nil _))))
  refine go3 ?_
  refine WD.gen [(4, ints ((atL q n).take p.lows.length)), (33, .dead)] rfl rfl rfl rfl rfl (WO.takeOw rfl (.assign _) rfl rfl (encL_length _) rfl (WO.nil (WK.mk' (.cons _ (.cons _ (.nil _)))))) rfl rfl rfl ⟨rfl, trivial⟩ rfl rfl (.cons _ (.cons _ (.nil _))) ?_
  refine WD.gen [(5, ints ((atL q n).drop p.lows.length)), (38, .dead)] rfl rfl rfl rfl rfl (WO.takeOw rfl (.assign _) rfl rfl (encL_length _) rfl (WO.nil (WK.mk' (.cons _ (.cons _ (.nil _)))))) rfl rfl rfl ⟨rfl, trivial⟩ rfl rfl (.cons _ (.cons _ (.nil _))) ?_
  refine go3 ?_
  exact retOOV rfl rfl (encL_length _) rfl rfl (encL_length _) rfl rfl rfl rfl rfl
theorem specInputAtN (p : Pr) (hB : PB p) (n : Int) (h : ¬ (PrOk p ∧ 0 ≤ n ∧ n < cntL (p.lows ++ p.secs))) : Ev Try.prog X (.fn 122 [.ag (prR p), i64 n] (.tu [ints [], ints [], bl false]) [.dead, .dead]) := by
  refine Ev.fnW (env := [(0, .ag (prR p)), (1, i64 n)]) Try.func122 rfl nm_spec_InputAt rfl rfl (by kernel_rfl) (.cons rfl (.cons rfl .nil)) ?_
  refine go3 ?_
  refine WO.callB rfl rfl rfl (specProgOk p hB) rfl (fun hp => ?_) (fun hp => ?_)
  · have hc2 := (CB.of hp.i hp.w8).all
    have h1 : ¬ (0 ≤ n ∧ n ≤ cntL (p.lows ++ p.secs) - 1) := fun hh => h ⟨hp, hh.1, by omega⟩
    refine go3 ?_
    refine WO.call rfl rfl rfl (specInputsIn p hB hp) rfl rfl ?_
    refine go3 ?_
    refine WO.call rfl rfl rfl (l1In n 0 (cntL (p.lows ++ p.secs) - 1) (r := false) (by simp; omega)) rfl rfl ?_
    refine go3 ?_
    exact retOOV rfl rfl rfl rfl rfl rfl rfl rfl rfl rfl rfl
  · refine go3 ?_
    exact retOOV rfl rfl rfl rfl rfl rfl rfl rfl rfl rfl rfl
end Go.Eng.C

/- Contracts of functions, by the engine: all inputs, how many there are, their bits. -/
import Derived.Test.YtbhdobjjhkkpkaaEngXb
import Derived.Test.YtbhdobjjhkkpkaaEngPe
import Derived.Test.YtbhdobjjhkkpkaaEngB4
namespace Go.Eng.C
open Go Go.Eng Go.RowKit Go.Proofs
set_option linter.unusedVariables false
set_option linter.unusedSimpArgs false
set_option maxRecDepth 10000
variable {X : FuncId → List AV → AV → List AV → Prop}
theorem nm_spec_l7Count : (Try.f120.name == "runtime.NumGoroutine") = false := by decide
theorem nm_spec_l7Maxes : (Try.f121.name == "runtime.NumGoroutine") = false := by decide
def mxs (l : List Inp) : List Int := l.map (·.max)
def tI (x : Int) : Inp := ⟨x, 0⟩
theorem mxs_snoc (l : List Inp) (x : Inp) : mxs (l ++ [x]) = mxs l ++ [x.max] := by simp [mxs]
theorem mxs_len (l : List Inp) : (mxs l).length = l.length := by simp [mxs]
theorem num_app (l : List Int) (c : Int) : AV.ow 2 1 (l.length + 1) (encL eI l ++ [.sc (.int .i64 c)]) = .ow 2 1 (l ++ [c]).length (encL eI (l ++ [c])) := by
  rw [List.length_append, encL_append]; rfl
set_option maxHeartbeats 8000000 in
theorem l7Maxes (p : Pr) (h1 : p.lows.length ≤ 1048576) (h2 : p.secs.length ≤ 1048576) : Ev Try.prog X (.fn 121 [.ag (prR p)] (.ow 2 1 (mxs (p.lows ++ p.secs)).length (encL eI (mxs (p.lows ++ p.secs)))) [.dead]) := by
  refine Ev.fnW (env := [(0, .ag (prR p))]) Try.func121 rfl nm_spec_l7Maxes rfl rfl (by kernel_rfl) (.cons rfl .nil) ?_
  refine go2 ?_
  refine WC.loopS (S := Nat × List Int) (fun s => [(1, .op (prR p)), (3, .ow 2 1 s.2.length (encL eI s.2)), (4, i64 s.1)]) (fun s => s.1 ≤ p.lows.length ∧ s.2 = mxs (p.lows.take s.1)) (fun s => p.lows.length - s.1) (0, []) (.cons rfl (.cons rfl (.cons rfl .nil))) ⟨Nat.zero_le _, rfl⟩ ?_
  rintro ⟨i, m⟩ ⟨g1, g2⟩
  dsimp only at g1 g2 ⊢
  refine go2 ?_
  refine WO.cmp rfl rfl rfl rfl rfl (fun h3 => ?_) (fun h3 => ?_)
  · have hi : i < p.lows.length := by omega
    have e := take_snoc hi ⟨0, 0⟩
    have hl : m.length ≤ i := by rw [g2, mxs_len]; exact List.length_take_le ..
    refine go2 ?_
    refine WO.ixN (f := inp) ⟨0, 0⟩ rfl rfl rfl hi rfl ?_
    refine go2 ?_
    generalize p.lows.getD i ⟨0, 0⟩ = x at *
    refine WO.bsA (us := [i64 x.max]) (cs := [i64 x.max]) rfl rfl rfl rfl rfl (by kernel_rfl) rfl ?_
    refine WO.hard (r := 21) (p := []) (x := .ow 2 1 1 [i64 x.max]) (y := .im 1 [.sc (.int .i64 x.max)]) rfl rfl rfl ?_
    refine WO.apVI rfl rfl rfl (encL_length _) rfl rfl rfl (by unfold maxLen; omega) (by omega) rfl ?_
    rw [num_app]
    refine WO.cln 3 ?_
    refine go2 ?_
    exact lpK.mk (i + 1, m ++ [x.max]) (.cons rfl (.cons rfl (.cons rfl .nil))) ⟨hi, by dsimp only; rw [e, mxs_snoc, g2]⟩ (by dsimp only; omega)
  · have hi : i = p.lows.length := by omega
    subst hi
    rw [List.take_length] at g2
    refine go2 ?_
    refine WC.loopS (S := Nat × List Int) (fun s => [(1, .op (prR p)), (3, .ow 2 1 s.2.length (encL eI s.2)), (5, i64 s.1)]) (fun s => s.1 ≤ p.secs.length ∧ s.2 = mxs (p.lows ++ p.secs.take s.1)) (fun s => p.secs.length - s.1) (0, m) (.cons rfl (.cons rfl (.cons rfl .nil))) ⟨Nat.zero_le _, by simpa using g2⟩ ?_
    clear g2
    rintro ⟨i, m⟩ ⟨g1, g2⟩
    dsimp only at g1 g2 ⊢
    refine go2 ?_
    refine WO.cmp rfl rfl rfl rfl rfl (fun h4 => ?_) (fun h4 => ?_)
    · have hi : i < p.secs.length := by omega
      have e := take_snoc hi ⟨0, 0⟩
      have hl : m.length ≤ p.lows.length + i := by rw [g2, mxs_len, List.length_append]; have := List.length_take_le i p.secs; omega
      refine go2 ?_
      refine WO.ixN (f := inp) ⟨0, 0⟩ rfl rfl rfl hi rfl ?_
      refine go2 ?_
      generalize p.secs.getD i ⟨0, 0⟩ = x at *
      refine WO.bsA (us := [i64 x.max]) (cs := [i64 x.max]) rfl rfl rfl rfl rfl (by kernel_rfl) rfl ?_
      refine WO.hard (r := 37) (p := []) (x := .ow 2 1 1 [i64 x.max]) (y := .im 1 [.sc (.int .i64 x.max)]) rfl rfl rfl ?_
      refine WO.apVI rfl rfl rfl (encL_length _) rfl rfl rfl (by unfold maxLen; omega) (by omega) rfl ?_
      rw [num_app]
      refine WO.cln 3 ?_
      refine go2 ?_
      exact lpK.mk (i + 1, m ++ [x.max]) (.cons rfl (.cons rfl (.cons rfl .nil))) ⟨hi, by dsimp only; rw [e, ← List.append_assoc, mxs_snoc, g2]⟩ (by dsimp only; omega)
    · have hi : i = p.secs.length := by omega
      subst hi
      rw [List.take_length] at g2
      rw [← g2]
      refine go2 ?_
      exact retO rfl rfl (encL_length _) rfl rfl rfl
theorem mxs_getD (q : List Inp) {i : Nat} (h : i < q.length) : (mxs q).getD i 0 = (q.getD i ⟨0, 0⟩).max := by
  simp [mxs, List.getD_eq_getElem?_getD, h]
set_option maxHeartbeats 8000000 in
theorem l7Count (q : List Inp) (hc : CB q) : Ev Try.prog X (.fn 120 [.im (mxs q).length (encL eI (mxs q))] (i64 (cntL q)) [.dead]) := by
  have hlen := mxs_len q
  have hqn := hc.n
  refine Ev.fnW (env := [(0, .im (mxs q).length (encL eI (mxs q)))]) Try.func120 rfl nm_spec_l7Count rfl rfl (by kernel_rfl) (.cons rfl .nil) ?_
  refine go2 ?_
  refine WC.loopS (S := Nat) (fun i => [(0, .im (mxs q).length (encL eI (mxs q))), (3, i64 (cntL (q.take i))), (4, i64 i)]) (fun i => i ≤ q.length) (fun i => q.length - i) 0 (.cons rfl (.cons rfl (.cons rfl .nil))) (Nat.zero_le _) ?_
  intro i g1
  refine go2 ?_
  refine WO.cmp rfl rfl rfl rfl rfl (fun h3 => ?_) (fun h3 => ?_)
  · have hi : i < q.length := by omega
    have hi2 : i < (mxs q).length := by omega
    have e := take_snoc hi ⟨0, 0⟩
    have ec := cntL_snoc (q.take i) (q.getD i ⟨0, 0⟩)
    rw [← e] at ec
    have hm : q.getD i ⟨0, 0⟩ ∈ q := by simp [List.getD_eq_getElem?_getD, hi]
    obtain ⟨a1, a2⟩ := hc.m _ hm
    obtain ⟨b1, b2⟩ := hc.c (i + 1)
    have mm : bin64 .mul (cntL (q.take i)) ((q.getD i ⟨0, 0⟩).max + 1) = some (.int .i64 (cntL (q.take (i + 1)))) := by
      simp only [bin64]; rw [← ec, w64 (by omega) (by omega)]
    refine go2 ?_
    refine WO.ixN (f := eI) 0 rfl rfl rfl hi2 rfl ?_
    rw [mxs_getD q hi]
    refine go2 ?_
    refine WO.q rfl (QE.bin rfl rfl mm rfl) rfl rfl ?_
    refine go2 ?_
    exact lpK.mk (i + 1) (.cons rfl (.cons rfl (.cons rfl .nil))) hi (by omega)
  · have : i = q.length := by omega
    subst this
    rw [List.take_length]
    refine go2 ?_
    exact retV rfl rfl rfl rfl
theorem noIm_eI : ∀ (l : List Int), noImL (encL eI l) = true
  | [] => rfl
  | x :: l => by rw [encL_cons]; simp only [eI, List.cons_append, List.nil_append, noImL, noIm, Bool.true_and]; exact noIm_eI l
/-- An own list of numbers. -/
abbrev ints (l : List Int) : AV := .ow 2 1 l.length (encL eI l)
end Go.Eng.C

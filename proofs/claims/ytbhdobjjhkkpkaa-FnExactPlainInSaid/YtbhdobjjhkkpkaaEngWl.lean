/- Contracts of functions, by the engine: spec.StartOf where it gives no answer. -/
import Derived.Test.YtbhdobjjhkkpkaaEngWh
namespace Go.Eng.C
open Go Go.Eng Go.RowKit Go.Proofs
set_option linter.unusedVariables false
set_option linter.unusedSimpArgs false
set_option maxRecDepth 10000
variable {X : FuncId → List AV → AV → List AV → Prop}
set_option maxHeartbeats 16000000 in
theorem specStartOfN (p : Pr) (a b : List Int) (hB : PB p) (ha : a.length ≤ 4194304) (hb : b.length ≤ 4194304) (h : ¬ StOk p a b) : Ev Try.prog X (.fn 160 [.ag (prR p), .im a.length (encL eI a), .im b.length (encL eI b)] (.tu [.ag [.nl, .nl], bl false]) [.dead, .dead, .dead]) := by
  have b1 := hB.l; have b2 := hB.s
  refine Ev.fnW (env := [(0, .ag (prR p)), (1, .im a.length (encL eI a)), (2, .im b.length (encL eI b))]) Try.func160 rfl nm_spec_StartOf rfl rfl (by kernel_rfl) (.cons rfl (.cons rfl (.cons rfl .nil))) ?_
  refine go3 ?_
  by_cases hp : PrOk p
  case neg =>
    refine WO.call rfl rfl rfl (specProgOk p hB (r := false) (by simp [hp])) rfl rfl ?_
    refine go3 ?_
    refine WO.q rfl (QE.bld (cs := [.nl, .nl]) rfl) rfl rfl ?_
    refine go3 ?_
    exact retCGV (cs := [.nl, .nl]) rfl rfl rfl rfl rfl rfl rfl rfl
  refine WO.call rfl rfl rfl (specProgOk p hB (r := true) (by simp [hp])) rfl rfl ?_
  by_cases a1 : a.length = p.lows.length
  case neg =>
    refine go3 ?_
    refine WO.q rfl (QE.bld (cs := [.nl, .nl]) rfl) rfl rfl ?_
    refine go3 ?_
    exact retCGV (cs := [.nl, .nl]) rfl rfl rfl rfl rfl rfl rfl rfl
  by_cases a2 : b.length = p.secs.length
  case neg =>
    refine go3 ?_
    refine WO.q rfl (QE.bld (cs := [.nl, .nl]) rfl) rfl rfl ?_
    refine go3 ?_
    exact retCGV (cs := [.nl, .nl]) rfl rfl rfl rfl rfl rfl rfl rfl
  refine go3 ?_
  refine WO.q rfl (QE.bld (cs := [.nl, .nl]) rfl) rfl rfl ?_
  refine go3 ?_
  refine WC.castAt (r := 8) (p := [0]) (y := .op [.ow 2 1 0 [], .nl]) 2 1 (by decide) rfl rfl ?_
  refine WC.castAt (r := 8) (p := [1]) (y := .op [.ow 2 1 0 [], .ow 23 1 0 []]) 23 1 (by decide) rfl rfl ?_
  refine WC.loopS (S := Nat × List Int) (fun s => [(1, .im a.length (encL eI a)), (2, .im b.length (encL eI b)), (3, .op (prR p)), (6, .op [.nl, .nl]), (8, .op [ints s.2, .ow 23 1 0 []]), (9, i64 s.1)]) (fun s => (∀ j < s.1, 0 ≤ a.getD j 0 ∧ a.getD j 0 ≤ (p.lows.getD j ⟨0, 0⟩).max) ∧ s.1 ≤ a.length ∧ s.2 = a.take s.1) (fun s => a.length - s.1) (0, []) (.cons rfl (.cons rfl (.cons rfl (.cons rfl (.cons rfl (.cons rfl .nil)))))) ⟨fun j hj => absurd hj (Nat.not_lt_zero j), Nat.zero_le _, rfl⟩ ?_
  rintro ⟨i, l⟩ ⟨g0, g1, g2⟩
  dsimp only at g0 g1 g2 ⊢
  have hll : l.length = i := by rw [g2]; simp; omega
  refine go3 ?_
  refine WO.cmp rfl rfl rfl rfl rfl (fun h3 => ?_) (fun h3 => ?_)
  · have hi : i < a.length := by omega
    have hi2 : i < p.lows.length := by omega
    have htk := take_getI hi
    refine go3 ?_
    refine WC.regionDd ⟨[[], [], [0, 1], [0, 1, 2], [], [4], [], [4, 5, 6], [4, 5, 6, 7], [4, 5, 6, 7, 8], [0, 1, 2, 3, 4, 5, 6, 7, 8, 9], [0, 1, 2, 3, 4, 5, 6, 7, 8, 9, 10]], [0, 1, 2, 3, 4, 5, 6, 7, 8, 9, 11], [], [39, 40, 41, 42, 43, 44, 45, 46, 47, 48, 50], [0, 1, 2, 3, 4, 5, 6, 7, 8, 9, 10, 11], [([40, 43, 44, 45, 46, 47, 48], [40, 43, 44, 45, 46, 47, 48], false), ([39, 43, 44, 45, 46, 47, 48], [39, 43, 44, 45, 46, 47, 48], false), ([43, 44, 45, 46, 47, 48], [43, 44, 45, 46, 47, 48], false), ([43, 44, 45, 46, 47, 48], [43, 44, 45, 46, 47, 48], false), ([39, 40, 41, 42, 45], [39, 40, 41, 42, 45], false), ([39, 40, 41, 42, 45], [39, 40, 41, 42, 45], false), ([39, 40, 41, 42, 43, 44], [39, 40, 41, 42, 43, 44], false), ([39, 40, 41, 42], [39, 40, 41, 42], false), ([39, 40, 41, 42], [39, 40, 41, 42], false), ([39, 40, 41, 42], [39, 40, 41, 42], false), ([], [], false), ([], [], false)]⟩ (by kernel_rfl) ?_
    refine go3 ?_
    refine WD.q rfl rfl rfl rfl rfl (QE.ixN (f := eI) 0 rfl rfl hi) rfl rfl rfl ?_
    refine go3 ?_
    refine WD.q rfl rfl rfl rfl rfl (QE.ixN (f := inp) ⟨0, 0⟩ rfl rfl hi2) rfl rfl rfl ?_
    refine go3 ?_
    by_cases hin : 0 ≤ a.getD i 0 ∧ a.getD i 0 ≤ (p.lows.getD i ⟨0, 0⟩).max
    case neg =>
      refine WO.call rfl rfl rfl (l1In (a.getD i 0) 0 (p.lows.getD i ⟨0, 0⟩).max (r := false) ⟨fun e => Bool.noConfusion e, fun e => absurd e hin⟩) rfl rfl ?_
      refine go3 ?_
      refine WO.q rfl (QE.bld (cs := [.nl, .nl]) rfl) rfl rfl ?_
      refine go3 ?_
      exact retCGV (cs := [.nl, .nl]) rfl rfl rfl rfl rfl rfl rfl rfl
    refine WO.call rfl rfl rfl (l1In (a.getD i 0) 0 (p.lows.getD i ⟨0, 0⟩).max (r := true) ⟨fun _ => hin, fun _ => rfl⟩) rfl rfl ?_
    refine go3 ?_
    refine WC.regionDd ⟨[[], [0], [], [], [2, 3], [2, 3, 4], [2, 3, 4, 5], [0, 1, 2, 3, 4, 5, 6], [0, 1, 2, 3, 4, 5, 6, 7], [0, 1, 2, 3, 4, 5, 6, 7, 8]], [0, 2, 3, 4, 5, 8], [(1, [8]), (6, [])], [52, 53, 54, 55, 56, 57, 58, 60], [0, 1, 2, 3, 4, 5, 6, 7, 8, 9], [([54, 55, 56, 57, 58], [54, 55, 56, 57, 58], true), ([54, 55, 56, 57, 58], [54, 55, 56, 57, 58], true), ([52, 53, 55], [52, 53, 8, 55], true), ([52, 53, 54], [52, 53, 8, 54], true), ([52, 53], [52, 53, 8], true), ([52, 53], [52, 53, 8], true), ([52, 53], [52, 53, 8], true), ([], [], false), ([], [], false), ([], [], false)]⟩ (by kernel_rfl) ?_
    refine go3 ?_
    refine WD.gen [(8, .op [ints l, .ow 23 1 0 []]), (53, .vw 8 [0] 0 l.length)] rfl rfl rfl rfl rfl ?_ rfl rfl rfl ⟨rfl, trivial⟩ rfl rfl (.cons _ (.cons _ (.nil _))) ?_
    · refine WO.q rfl (QE.ldOw rfl rfl rfl) rfl rfl ?_
      refine WO.re (r := 8) rfl ?_
      exact WO.nil (WK.mk' (.cons _ (.cons _ (.nil _))))
    refine go3 ?_
    refine WD.q rfl rfl rfl rfl rfl (QE.ixN (f := eI) 0 rfl rfl hi) rfl rfl rfl ?_
    refine go3 ?_
    refine WD.gen [(58, .ow 2 1 1 [i64 (a.getD i 0)])] rfl rfl rfl rfl rfl ?_ rfl rfl rfl ⟨rfl, trivial⟩ rfl rfl (.cons _ (.nil _)) ?_
    · refine WO.bsA (us := [i64 (a.getD i 0)]) (cs := [i64 (a.getD i 0)]) rfl rfl rfl rfl rfl (by kernel_rfl) rfl ?_
      exact WO.nil (WK.mk' (.cons _ (.nil _)))
    refine WD.mut rfl rfl rfl ?_
    refine WO.hard (r := 58) (p := []) (x := .ow 2 1 1 [i64 (a.getD i 0)]) (y := .im 1 [.sc (.int .i64 (a.getD i 0))]) rfl rfl rfl ?_
    refine WO.apP (cs' := [.dead, .ow 23 1 0 []]) rfl rfl rfl rfl (encL_length _) rfl rfl rfl (by unfold maxLen; omega) (by omega) rfl rfl rfl ?_
    rw [num_app]
    refine WO.cln 8 ?_
    refine go3 ?_
    refine WO.stOp (cs' := [ints (l ++ [a.getD i 0]), .ow 23 1 0 []]) rfl rfl rfl rfl (encL_length _) rfl rfl rfl rfl rfl ?_
    refine go3 ?_
    exact lpK.mk (i + 1, l ++ [a.getD i 0]) (.cons rfl (.cons rfl (.cons rfl (.cons rfl (.cons rfl (.cons rfl .nil)))))) ⟨(fun j hj => by
      by_cases e : j < i
      · exact g0 j e
      · have e : j = i := by (dsimp only at hj; omega)
        rw [e]; exact hin), hi, by dsimp only; rw [htk, g2]⟩ (by dsimp only; omega)
  have : i = a.length := by omega
  subst this
  rw [List.take_length] at g2
  subst g2
  have hA := g0
  clear g0
  refine go3 ?_
  refine WC.loopS (S := Nat × List Int) (fun s => [(2, .im b.length (encL eI b)), (3, .op (prR p)), (6, .op [.nl, .nl]), (8, .op [ints s.2, .ow 23 1 0 []]), (10, i64 s.1)]) (fun s => (∀ j < s.1, 0 ≤ b.getD j 0 ∧ b.getD j 0 ≤ (p.secs.getD j ⟨0, 0⟩).max) ∧ s.1 ≤ b.length ∧ s.2 = l ++ b.take s.1) (fun s => b.length - s.1) (0, l) (.cons rfl (.cons rfl (.cons rfl (.cons rfl (.cons rfl .nil))))) ⟨fun j hj => absurd hj (Nat.not_lt_zero j), Nat.zero_le _, by simp⟩ ?_
  rintro ⟨i, m⟩ ⟨g0, g1, g2⟩
  dsimp only at g0 g1 g2 ⊢
  have hml : m.length = l.length + i := by rw [g2]; simp; omega
  refine go3 ?_
  refine WO.cmp rfl rfl rfl rfl rfl (fun h3 => ?_) (fun h3 => ?_)
  · have hi : i < b.length := by omega
    have hi2 : i < p.secs.length := by omega
    have htk := take_getI hi
    refine go3 ?_
    refine WC.regionDd ⟨[[], [], [0, 1], [0, 1, 2], [], [4], [], [4, 5, 6], [4, 5, 6, 7], [4, 5, 6, 7, 8], [0, 1, 2, 3, 4, 5, 6, 7, 8, 9], [0, 1, 2, 3, 4, 5, 6, 7, 8, 9, 10]], [0, 1, 2, 3, 4, 5, 6, 7, 8, 9, 11], [], [67, 68, 69, 70, 71, 72, 73, 74, 75, 76, 78], [0, 1, 2, 3, 4, 5, 6, 7, 8, 9, 10, 11], [([68, 71, 72, 73, 74, 75, 76], [68, 71, 72, 73, 74, 75, 76], false), ([67, 71, 72, 73, 74, 75, 76], [67, 71, 72, 73, 74, 75, 76], false), ([71, 72, 73, 74, 75, 76], [71, 72, 73, 74, 75, 76], false), ([71, 72, 73, 74, 75, 76], [71, 72, 73, 74, 75, 76], false), ([67, 68, 69, 70, 73], [67, 68, 69, 70, 73], false), ([67, 68, 69, 70, 73], [67, 68, 69, 70, 73], false), ([67, 68, 69, 70, 71, 72], [67, 68, 69, 70, 71, 72], false), ([67, 68, 69, 70], [67, 68, 69, 70], false), ([67, 68, 69, 70], [67, 68, 69, 70], false), ([67, 68, 69, 70], [67, 68, 69, 70], false), ([], [], false), ([], [], false)]⟩ (by kernel_rfl) ?_
    refine go3 ?_
    refine WD.q rfl rfl rfl rfl rfl (QE.ixN (f := eI) 0 rfl rfl hi) rfl rfl rfl ?_
    refine go3 ?_
    refine WD.q rfl rfl rfl rfl rfl (QE.ixN (f := inp) ⟨0, 0⟩ rfl rfl hi2) rfl rfl rfl ?_
    refine go3 ?_
    by_cases hin : 0 ≤ b.getD i 0 ∧ b.getD i 0 ≤ (p.secs.getD i ⟨0, 0⟩).max
    case neg =>
      refine WO.call rfl rfl rfl (l1In (b.getD i 0) 0 (p.secs.getD i ⟨0, 0⟩).max (r := false) ⟨fun e => Bool.noConfusion e, fun e => absurd e hin⟩) rfl rfl ?_
      refine go3 ?_
      refine WO.q rfl (QE.bld (cs := [.nl, .nl]) rfl) rfl rfl ?_
      refine go3 ?_
      exact retCGV (cs := [.nl, .nl]) rfl rfl rfl rfl rfl rfl rfl rfl
    refine WO.call rfl rfl rfl (l1In (b.getD i 0) 0 (p.secs.getD i ⟨0, 0⟩).max (r := true) ⟨fun _ => hin, fun _ => rfl⟩) rfl rfl ?_
    refine go3 ?_
    refine WC.regionDd ⟨[[], [0], [], [], [2, 3], [2, 3, 4], [2, 3, 4, 5], [0, 1, 2, 3, 4, 5, 6], [0, 1, 2, 3, 4, 5, 6, 7], [0, 1, 2, 3, 4, 5, 6, 7, 8]], [0, 2, 3, 4, 5, 8], [(1, [8]), (6, [])], [80, 81, 82, 83, 84, 85, 86, 88], [0, 1, 2, 3, 4, 5, 6, 7, 8, 9], [([82, 83, 84, 85, 86], [82, 83, 84, 85, 86], true), ([82, 83, 84, 85, 86], [82, 83, 84, 85, 86], true), ([80, 81, 83], [80, 81, 8, 83], true), ([80, 81, 82], [80, 81, 8, 82], true), ([80, 81], [80, 81, 8], true), ([80, 81], [80, 81, 8], true), ([80, 81], [80, 81, 8], true), ([], [], false), ([], [], false), ([], [], false)]⟩ (by kernel_rfl) ?_
    refine go3 ?_
    refine WD.gen [(8, .op [ints m, .ow 23 1 0 []]), (81, .vw 8 [0] 0 m.length)] rfl rfl rfl rfl rfl ?_ rfl rfl rfl ⟨rfl, trivial⟩ rfl rfl (.cons _ (.cons _ (.nil _))) ?_
    · refine WO.q rfl (QE.ldOw rfl rfl rfl) rfl rfl ?_
      refine WO.re (r := 8) rfl ?_
      exact WO.nil (WK.mk' (.cons _ (.cons _ (.nil _))))
    refine go3 ?_
    refine WD.q rfl rfl rfl rfl rfl (QE.ixN (f := eI) 0 rfl rfl hi) rfl rfl rfl ?_
    refine go3 ?_
    refine WD.gen [(86, .ow 2 1 1 [i64 (b.getD i 0)])] rfl rfl rfl rfl rfl ?_ rfl rfl rfl ⟨rfl, trivial⟩ rfl rfl (.cons _ (.nil _)) ?_
    · refine WO.bsA (us := [i64 (b.getD i 0)]) (cs := [i64 (b.getD i 0)]) rfl rfl rfl rfl rfl (by kernel_rfl) rfl ?_
      exact WO.nil (WK.mk' (.cons _ (.nil _)))
    refine WD.mut rfl rfl rfl ?_
    refine WO.hard (r := 86) (p := []) (x := .ow 2 1 1 [i64 (b.getD i 0)]) (y := .im 1 [.sc (.int .i64 (b.getD i 0))]) rfl rfl rfl ?_
    refine WO.apP (cs' := [.dead, .ow 23 1 0 []]) rfl rfl rfl rfl (encL_length _) rfl rfl rfl (by unfold maxLen; omega) (by omega) rfl rfl rfl ?_
    rw [num_app]
    refine WO.cln 8 ?_
    refine go3 ?_
    refine WO.stOp (cs' := [ints (m ++ [b.getD i 0]), .ow 23 1 0 []]) rfl rfl rfl rfl (encL_length _) rfl rfl rfl rfl rfl ?_
    refine go3 ?_
    exact lpK.mk (i + 1, m ++ [b.getD i 0]) (.cons rfl (.cons rfl (.cons rfl (.cons rfl (.cons rfl .nil))))) ⟨(fun j hj => by
      by_cases e : j < i
      · exact g0 j e
      · have e : j = i := by (dsimp only at hj; omega)
        rw [e]; exact hin), hi, by dsimp only; rw [htk, g2, List.append_assoc]⟩ (by dsimp only; omega)
  have : i = b.length := by omega
  subst this
  exact absurd ⟨hp, InL.iff.2 ⟨a1, hA⟩, InL.iff.2 ⟨a2, g0⟩⟩ h
end Go.Eng.C

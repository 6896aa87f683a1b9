/- Contracts of functions, by the engine: StartOf, both sides. -/
import Derived.Test.YtbhdobjjhkkpkaaEngWg
import Derived.Test.YtbhdobjjhkkpkaaEngXm
namespace Go.Eng.C
open Go Go.Eng Go.RowKit Go.Proofs
set_option linter.unusedVariables false
set_option linter.unusedSimpArgs false
set_option maxRecDepth 10000
variable {X : FuncId → List AV → AV → List AV → Prop}
theorem noIm_eO : ∀ (l : List (List Int)), noImL (encL (eO 2 1 eI) l) = true
  | [] => rfl
  | x :: l => by rw [encL_cons]; simp only [eO, List.cons_append, List.nil_append, noImL, noIm, noIm_eI, Bool.true_and]; exact noIm_eO l
theorem whL_enO (v : Vs) : whL (enO v) = true := by simp [enO, whL, whA, encL_len1, encO_len]
theorem noIm_enO (v : Vs) : noIm (.ag (enO v)) = true := by simp only [enO, noIm, noImL, noIm_eI, noIm_eO, Bool.and_self]
/-- What a run may start from. -/
def StOk (p : Pr) (a b : List Int) : Prop := PrOk p ∧ InL p.lows a ∧ InL p.secs b
set_option maxHeartbeats 8000000 in
theorem implStartOf (p : Pr) (a b : List Int) (hB : PB p) (h : StOk p a b) : Ev Try.prog X (.fn 57 [.ag (prR p), .im a.length (encL eI a), .im b.length (encL eI b)] (.tu [.ag (enO (stV p a b)), bl true]) [.dead, .dead, .dead]) := by
  obtain ⟨hp, h1, h2⟩ := h
  obtain ⟨r1, r2, r3, r4, r5⟩ := hp.r
  have a1 := h1.len; have a2 := h2.len; have b1 := hB.l; have b2 := hB.s
  refine Ev.fnW (env := [(0, .ag (prR p)), (1, .im a.length (encL eI a)), (2, .im b.length (encL eI b))]) Try.func57 rfl nm_impl_StartOf rfl rfl (by kernel_rfl) (.cons rfl (.cons rfl (.cons rfl .nil))) ?_
  refine go3 ?_
  refine WO.call rfl rfl rfl (implProgOk p hB (r := true) (by simp [hp])) rfl rfl ?_
  refine go3 ?_
  refine WO.call rfl rfl rfl (within a p.lows (by omega) (r := true) (by simp [h1])) rfl rfl ?_
  refine go3 ?_
  refine WO.call rfl rfl rfl (within b p.secs (by omega) (r := true) (by simp [h2])) rfl rfl ?_
  refine go3 ?_
  refine WO.callF rfl (.cons (frzA rfl rfl) (.cons (.plain _ rfl) (.cons (.plain _ rfl) .nil))) (startAt p a b (by omega) (by omega) r1 r2 ⟨r3, r5⟩) (noIm_enO _) rfl rfl ?_
  refine WO.stG (vs := enO (stV p a b)) rfl rfl rfl (takeAg (r := 28) (cs := enO (stV p a b)) rfl (whL_enO _)) rfl rfl rfl rfl ?_
  refine go3 ?_
  exact retCGV (cs := enO (stV p a b)) rfl rfl rfl (whL_enO _) rfl rfl rfl rfl
theorem implStartOfN (p : Pr) (a b : List Int) (hB : PB p) (ha : a.length ≤ 4194304) (hb : b.length ≤ 4194304) (h : ¬ StOk p a b) : Ev Try.prog X (.fn 57 [.ag (prR p), .im a.length (encL eI a), .im b.length (encL eI b)] (.tu [.ag [.nl, .nl], bl false]) [.dead, .dead, .dead]) := by
  refine Ev.fnW (env := [(0, .ag (prR p)), (1, .im a.length (encL eI a)), (2, .im b.length (encL eI b))]) Try.func57 rfl nm_impl_StartOf rfl rfl (by kernel_rfl) (.cons rfl (.cons rfl (.cons rfl .nil))) ?_
  refine go3 ?_
  refine WO.callB rfl rfl rfl (implProgOk p hB) rfl (fun hp => ?_) (fun hp => ?_)
  · refine go3 ?_
    refine WO.callB rfl rfl rfl (within a p.lows ha) rfl (fun h1 => ?_) (fun h1 => ?_)
    · refine go3 ?_
      refine WO.call rfl rfl rfl (within b p.secs hb (r := false) (by simp; exact fun h2 => h ⟨hp, h1, h2⟩)) rfl rfl ?_
      refine go3 ?_
      refine WO.q rfl (QE.bld (cs := [.nl, .nl]) rfl) rfl rfl ?_
      refine go3 ?_
      exact retCGV (cs := [.nl, .nl]) rfl rfl rfl rfl rfl rfl rfl rfl
    · refine go3 ?_
      refine WO.q rfl (QE.bld (cs := [.nl, .nl]) rfl) rfl rfl ?_
      refine go3 ?_
      exact retCGV (cs := [.nl, .nl]) rfl rfl rfl rfl rfl rfl rfl rfl
  · refine go3 ?_
    refine WO.q rfl (QE.bld (cs := [.nl, .nl]) rfl) rfl rfl ?_
    refine go3 ?_
    exact retCGV (cs := [.nl, .nl]) rfl rfl rfl rfl rfl rfl rfl rfl
set_option maxHeartbeats 16000000 in
theorem specStartOf (p : Pr) (a b : List Int) (hB : PB p) (h : StOk p a b) : Ev Try.prog X (.fn 160 [.ag (prR p), .im a.length (encL eI a), .im b.length (encL eI b)] (.tu [.ag (enO (stV p a b)), bl true]) [.dead, .dead, .dead]) := by
  obtain ⟨hp, h1, h2⟩ := h
  obtain ⟨r1, r2, r3, r4, r5⟩ := hp.r
  have a1 := h1.len; have a2 := h2.len; have b1 := hB.l; have b2 := hB.s
  have i1 := (InL.iff.1 h1).2; have i2 := (InL.iff.1 h2).2
  obtain ⟨T, hT⟩ : ∃ T : Nat, p.temps = T := ⟨p.temps.toNat, by omega⟩
  refine Ev.fnW (env := [(0, .ag (prR p)), (1, .im a.length (encL eI a)), (2, .im b.length (encL eI b))]) Try.func160 rfl nm_spec_StartOf rfl rfl (by kernel_rfl) (.cons rfl (.cons rfl (.cons rfl .nil))) ?_
  refine go3 ?_
  refine WO.call rfl rfl rfl (specProgOk p hB (r := true) (by simp [hp])) rfl rfl ?_
  refine go3 ?_
  refine WO.q rfl (QE.bld (cs := [.nl, .nl]) rfl) rfl rfl ?_
  refine go3 ?_
  refine WC.castAt (r := 8) (p := [0]) (y := .op [.ow 2 1 0 [], .nl]) 2 1 (by decide) rfl rfl ?_
  refine WC.castAt (r := 8) (p := [1]) (y := .op [.ow 2 1 0 [], .ow 23 1 0 []]) 23 1 (by decide) rfl rfl ?_
  refine WC.loopS (S := Nat × List Int) (fun s => [(1, .im a.length (encL eI a)), (2, .im b.length (encL eI b)), (3, .op (prR p)), (6, .op [.nl, .nl]), (8, .op [ints s.2, .ow 23 1 0 []]), (9, i64 s.1)]) (fun s => s.1 ≤ a.length ∧ s.2 = a.take s.1) (fun s => a.length - s.1) (0, []) (.cons rfl (.cons rfl (.cons rfl (.cons rfl (.cons rfl (.cons rfl .nil)))))) ⟨Nat.zero_le _, rfl⟩ ?_
  rintro ⟨i, l⟩ ⟨g1, g2⟩
  dsimp only at g1 g2 ⊢
  have hll : l.length = i := by rw [g2]; simp; omega
  refine go3 ?_
  refine WO.cmp rfl rfl rfl rfl rfl (fun h3 => ?_) (fun h3 => ?_)
  · have hi : i < a.length := by omega
    have hi2 : i < p.lows.length := by omega
    have hin := i1 i hi
    have htk := take_getI hi
    refine go3 ?_
    refine WC.regionDd ⟨[[], [], [0, 1], [0, 1, 2], [], [4], [], [4, 5, 6], [4, 5, 6, 7], [4, 5, 6, 7, 8], [0, 1, 2, 3, 4, 5, 6, 7, 8, 9], [0, 1, 2, 3, 4, 5, 6, 7, 8, 9, 10]], [0, 1, 2, 3, 4, 5, 6, 7, 8, 9, 11], [], [39, 40, 41, 42, 43, 44, 45, 46, 47, 48, 50], [0, 1, 2, 3, 4, 5, 6, 7, 8, 9, 10, 11], [([40, 43, 44, 45, 46, 47, 48], [40, 43, 44, 45, 46, 47, 48], false), ([39, 43, 44, 45, 46, 47, 48], [39, 43, 44, 45, 46, 47, 48], false), ([43, 44, 45, 46, 47, 48], [43, 44, 45, 46, 47, 48], false), ([43, 44, 45, 46, 47, 48], [43, 44, 45, 46, 47, 48], false), ([39, 40, 41, 42, 45], [39, 40, 41, 42, 45], false), ([39, 40, 41, 42, 45], [39, 40, 41, 42, 45], false), ([39, 40, 41, 42, 43, 44], [39, 40, 41, 42, 43, 44], false), ([39, 40, 41, 42], [39, 40, 41, 42], false), ([39, 40, 41, 42], [39, 40, 41, 42], false), ([39, 40, 41, 42], [39, 40, 41, 42], false), ([], [], false), ([], [], false)]⟩ (by kernel_rfl) ?_
    refine go3 ?_
    refine WD.q rfl rfl rfl rfl rfl (QE.ixN (f := eI) 0 rfl rfl hi) rfl rfl rfl ?_
    refine go3 ?_
    refine WD.q rfl rfl rfl rfl rfl (QE.ixN (f := inp) ⟨0, 0⟩ rfl rfl hi2) rfl rfl rfl ?_
    refine go3 ?_
    refine WO.call rfl rfl rfl (l1In (a.getD i 0) 0 (p.lows.getD i ⟨0, 0⟩).max (r := true) ⟨fun _ => hin, fun _ => rfl⟩) rfl rfl ?_
    refine go3 ?_
    refine WC.regionDd ⟨[[], [0], [], [], [2, 3], [2, 3, 4], [2, 3, 4, 5], [0, 1, 2, 3, 4, 5, 6], [0, 1, 2, 3, 4, 5, 6, 7], [0, 1, 2, 3, 4, 5, 6, 7, 8]], [0, 2, 3, 4, 5, 8], [(1, [8]), (6, [])], [52, 53, 54, 55, 56, 57, 58, 60], [0, 1, 2, 3, 4, 5, 6, 7, 8, 9], [([54, 55, 56, 57, 58], [54, 55, 56, 57, 58], true), ([54, 55, 56, 57, 58], [54, 55, 56, 57, 58], true), ([52, 53, 55], [52, 53, 8, 55], true), ([52, 53, 54], [52, 53, 8, 54], true), ([52, 53], [52, 53, 8], true), ([52, 53], [52, 53, 8], true), ([52, 53], [52, 53, 8], true), ([], [], false), ([], [], false), ([], [], false)]⟩ (by kernel_rfl) ?_
    refine go3 ?_
    refine WD.gen [(8, .op [ints l, .ow 23 1 0 []]), (53, .vw 8 [0] 0 l.length)] rfl rfl rfl rfl rfl ?_ rfl rfl rfl ⟨rfl, trivial⟩ rfl rfl (.cons _ (.cons _ (.nil _))) ?_
    · refine WO.q rfl (QE.ldOw rfl rfl rfl) rfl rfl ?_
      refine WO.re (r := 8) rfl ?_
      exact WO.nil (WK.mk' (.cons _ (.cons _ (.nil _))))
    refine go3 ?_
    refine WD.q rfl rfl rfl rfl rfl (QE.ixN (f := eI) 0 rfl rfl hi) rfl rfl rfl ?_
    refine go3 ?_
    refine WD.gen [(58, .ow 2 1 1 [i64 (a.getD i 0)])] rfl rfl rfl rfl rfl ?_ rfl rfl rfl ⟨rfl, trivial⟩ rfl rfl (.cons _ (.nil _)) ?_
    · refine WO.bsA (us := [i64 (a.getD i 0)]) (cs := [i64 (a.getD i 0)]) rfl rfl rfl rfl rfl (by kernel_rfl) rfl ?_
      exact WO.nil (WK.mk' (.cons _ (.nil _)))
    refine WD.mut rfl rfl rfl ?_
    refine WO.hard (r := 58) (p := []) (x := .ow 2 1 1 [i64 (a.getD i 0)]) (y := .im 1 [.sc (.int .i64 (a.getD i 0))]) rfl rfl rfl ?_
    refine WO.apP (cs' := [.dead, .ow 23 1 0 []]) rfl rfl rfl rfl (encL_length _) rfl rfl rfl (by unfold maxLen; omega) (by omega) rfl rfl rfl ?_
    rw [num_app]
    refine WO.cln 8 ?_
    refine go3 ?_
    refine WO.stOp (cs' := [ints (l ++ [a.getD i 0]), .ow 23 1 0 []]) rfl rfl rfl rfl (encL_length _) rfl rfl rfl rfl rfl ?_
    refine go3 ?_
    exact lpK.mk (i + 1, l ++ [a.getD i 0]) (.cons rfl (.cons rfl (.cons rfl (.cons rfl (.cons rfl (.cons rfl .nil)))))) ⟨hi, by dsimp only; rw [htk, g2]⟩ (by dsimp only; omega)
  have : i = a.length := by omega
  subst this
  rw [List.take_length] at g2
  subst g2
  refine go3 ?_
  refine WC.loopS (S := Nat × List Int) (fun s => [(2, .im b.length (encL eI b)), (3, .op (prR p)), (6, .op [.nl, .nl]), (8, .op [ints s.2, .ow 23 1 0 []]), (10, i64 s.1)]) (fun s => s.1 ≤ b.length ∧ s.2 = l ++ b.take s.1) (fun s => b.length - s.1) (0, l) (.cons rfl (.cons rfl (.cons rfl (.cons rfl (.cons rfl .nil))))) ⟨Nat.zero_le _, by simp⟩ ?_
  rintro ⟨i, m⟩ ⟨g1, g2⟩
  dsimp only at g1 g2 ⊢
  have hml : m.length = l.length + i := by rw [g2]; simp; omega
  refine go3 ?_
  refine WO.cmp rfl rfl rfl rfl rfl (fun h3 => ?_) (fun h3 => ?_)
  · have hi : i < b.length := by omega
    have hi2 : i < p.secs.length := by omega
    have hin := i2 i hi
    have htk := take_getI hi
    refine go3 ?_
    refine WC.regionDd ⟨[[], [], [0, 1], [0, 1, 2], [], [4], [], [4, 5, 6], [4, 5, 6, 7], [4, 5, 6, 7, 8], [0, 1, 2, 3, 4, 5, 6, 7, 8, 9], [0, 1, 2, 3, 4, 5, 6, 7, 8, 9, 10]], [0, 1, 2, 3, 4, 5, 6, 7, 8, 9, 11], [], [67, 68, 69, 70, 71, 72, 73, 74, 75, 76, 78], [0, 1, 2, 3, 4, 5, 6, 7, 8, 9, 10, 11], [([68, 71, 72, 73, 74, 75, 76], [68, 71, 72, 73, 74, 75, 76], false), ([67, 71, 72, 73, 74, 75, 76], [67, 71, 72, 73, 74, 75, 76], false), ([71, 72, 73, 74, 75, 76], [71, 72, 73, 74, 75, 76], false), ([71, 72, 73, 74, 75, 76], [71, 72, 73, 74, 75, 76], false), ([67, 68, 69, 70, 73], [67, 68, 69, 70, 73], false), ([67, 68, 69, 70, 73], [67, 68, 69, 70, 73], false), ([67, 68, 69, 70, 71, 72], [67, 68, 69, 70, 71, 72], false), ([67, 68, 69, 70], [67, 68, 69, 70], false), ([67, 68, 69, 70], [67, 68, 69, 70], false), ([67, 68, 69, 70], [67, 68, 69, 70], false), ([], [], false), ([], [], false)]⟩ (by kernel_rfl) ?_
    refine go3 ?_
    refine WD.q rfl rfl rfl rfl rfl (QE.ixN (f := eI) 0 rfl rfl hi) rfl rfl rfl ?_
    refine go3 ?_
    refine WD.q rfl rfl rfl rfl rfl (QE.ixN (f := inp) ⟨0, 0⟩ rfl rfl hi2) rfl rfl rfl ?_
    refine go3 ?_
    refine WO.call rfl rfl rfl (l1In (b.getD i 0) 0 (p.secs.getD i ⟨0, 0⟩).max (r := true) ⟨fun _ => hin, fun _ => rfl⟩) rfl rfl ?_
    refine go3 ?_
    refine WC.regionDd ⟨[[], [0], [], [], [2, 3], [2, 3, 4], [2, 3, 4, 5], [0, 1, 2, 3, 4, 5, 6], [0, 1, 2, 3, 4, 5, 6, 7], [0, 1, 2, 3, 4, 5, 6, 7, 8]], [0, 2, 3, 4, 5, 8], [(1, [8]), (6, [])], [80, 81, 82, 83, 84, 85, 86, 88], [0, 1, 2, 3, 4, 5, 6, 7, 8, 9], [([82, 83, 84, 85, 86], [82, 83, 84, 85, 86], true), ([82, 83, 84, 85, 86], [82, 83, 84, 85, 86], true), ([80, 81, 83], [80, 81, 8, 83], true), ([80, 81, 82], [80, 81, 8, 82], true), ([80, 81], [80, 81, 8], true), ([80, 81], [80, 81, 8], true), ([80, 81], [80, 81, 8], true), ([], [], false), ([], [], false), ([], [], false)]⟩ (by kernel_rfl) ?_
    refine go3 ?_
    refine WD.gen [(8, .op [ints m, .ow 23 1 0 []]), (81, .vw 8 [0] 0 m.length)] rfl rfl rfl rfl rfl ?_ rfl rfl rfl ⟨rfl, trivial⟩ rfl rfl (.cons _ (.cons _ (.nil _))) ?_
    · refine WO.q rfl (QE.ldOw rfl rfl rfl) rfl rfl ?_
      refine WO.re (r := 8) rfl ?_
      exact WO.nil (WK.mk' (.cons _ (.cons _ (.nil _))))
    refine go3 ?_
    refine WD.q rfl rfl rfl rfl rfl (QE.ixN (f := eI) 0 rfl rfl hi) rfl rfl rfl ?_
    refine go3 ?_
    refine WD.gen [(86, .ow 2 1 1 [i64 (b.getD i 0)])] rfl rfl rfl rfl rfl ?_ rfl rfl rfl ⟨rfl, trivial⟩ rfl rfl (.cons _ (.nil _)) ?_
    · refine WO.bsA (us := [i64 (b.getD i 0)]) (cs := [i64 (b.getD i 0)]) rfl rfl rfl rfl rfl (by kernel_rfl) rfl ?_
      exact WO.nil (WK.mk' (.cons _ (.nil _)))
    refine WD.mut rfl rfl rfl ?_
    refine WO.hard (r := 86) (p := []) (x := .ow 2 1 1 [i64 (b.getD i 0)]) (y := .im 1 [.sc (.int .i64 (b.getD i 0))]) rfl rfl rfl ?_
    refine WO.apP (cs' := [.dead, .ow 23 1 0 []]) rfl rfl rfl rfl (encL_length _) rfl rfl rfl (by unfold maxLen; omega) (by omega) rfl rfl rfl ?_
    rw [num_app]
    refine WO.cln 8 ?_
    refine go3 ?_
    refine WO.stOp (cs' := [ints (m ++ [b.getD i 0]), .ow 23 1 0 []]) rfl rfl rfl rfl (encL_length _) rfl rfl rfl rfl rfl ?_
    refine go3 ?_
    exact lpK.mk (i + 1, m ++ [b.getD i 0]) (.cons rfl (.cons rfl (.cons rfl (.cons rfl (.cons rfl .nil))))) ⟨hi, by dsimp only; rw [htk, g2, List.append_assoc]⟩ (by dsimp only; omega)
  have : i = b.length := by omega
  subst this
  rw [List.take_length] at g2
  refine go3 ?_
  refine WO.q rfl (QE.ldOw rfl rfl rfl) rfl rfl ?_
  refine go3 ?_
  rw [hT]
  refine WO.apZP (m := T) (cs' := [.dead, .ow 23 1 0 []]) rfl rfl rfl rfl (encL_length _) rfl (by unfold maxLen; omega) (by omega) rfl rfl rfl ?_
  rw [show AV.ow 2 1 (m.length + T) (encL eI m ++ encL eI (List.replicate T 0)) = ints (m ++ List.replicate T 0) by rw [← encL_append]; simp [ints]]
  refine WO.cln 8 ?_
  refine go3 ?_
  refine WO.stOp (cs' := [ints (m ++ List.replicate T 0), .ow 23 1 0 []]) rfl rfl rfl rfl (encL_length _) rfl rfl rfl rfl rfl ?_
  refine go3 ?_
  obtain ⟨V, hV⟩ : ∃ V, V = m ++ List.replicate T 0 := ⟨_, rfl⟩
  have hvs : (stV p l b).vars = V := by rw [hV, g2]; simp only [stV, hT, Int.toNat_natCast]
  rw [← hV]
  refine WC.loopS (S := Nat × List (List Int)) (fun s => [(3, .op (prR p)), (6, .op [.nl, .nl]), (8, .op [ints V, .ow 23 1 s.2.length (encL (eO 2 1 eI) s.2)]), (11, i64 s.1)]) (fun s => s.1 ≤ p.arrs.length ∧ s.2 = (p.arrs.take s.1).map fun n => List.replicate n.toNat 0) (fun s => p.arrs.length - s.1) (0, []) (.cons rfl (.cons rfl (.cons rfl (.cons rfl .nil)))) ⟨Nat.zero_le _, rfl⟩ ?_
  rintro ⟨i, rows⟩ ⟨g1, g3⟩
  dsimp only at g1 g3 ⊢
  have hrl : rows.length = i := by rw [g3]; simp; omega
  refine go3 ?_
  refine WO.cmp rfl rfl rfl rfl rfl (fun h3 => ?_) (fun h3 => ?_)
  · have hi : i < p.arrs.length := by omega
    obtain ⟨n0, n1⟩ := getD_in (q := fun n => 1 ≤ n ∧ n ≤ 6) r5 hi
    obtain ⟨M, hM⟩ : ∃ M : Nat, p.arrs.getD i 0 = M := ⟨(p.arrs.getD i 0).toNat, by omega⟩
    have htk := take_getI hi
    rw [hM] at htk
    refine go3 ?_
    refine WC.regionDd ⟨[[], [0], [], [2], [], [2, 3, 4], [2, 3, 4, 5], [2, 3, 4, 5, 6], [2, 3, 4, 5, 6, 7], [0, 1, 2, 3, 4, 5, 6, 7, 8], [0, 1, 2, 3, 4, 5, 6, 7, 8, 9], [0, 1, 2, 3, 4, 5, 6, 7, 8, 9, 10]], [0, 2, 3, 4, 5, 6, 7, 10], [(1, [8]), (8, [109])], [102, 103, 104, 105, 106, 107, 108, 109, 110, 112], [0, 1, 2, 3, 4, 5, 6, 7, 8, 9, 10, 11], [([104, 105, 106, 107, 108, 109, 110], [104, 105, 106, 107, 108, 109, 110, 109], true), ([104, 105, 106, 107, 108, 109, 110], [104, 105, 106, 107, 108, 109, 110, 109], true), ([102, 103, 106], [102, 103, 8, 106], true), ([102, 103, 106], [102, 103, 8, 106], true), ([102, 103, 104, 105], [102, 103, 8, 104, 105], true), ([102, 103], [102, 103, 8], true), ([102, 103], [102, 103, 8], true), ([102, 103], [102, 103, 8], true), ([102, 103], [102, 103, 8], true), ([], [], false), ([], [], false), ([], [], false)]⟩ (by kernel_rfl) ?_
    refine go3 ?_
    refine WD.gen [(8, .op [ints V, .ow 23 1 rows.length (encL (eO 2 1 eI) rows)]), (103, .vw 8 [1] 0 rows.length)] rfl rfl rfl rfl rfl ?_ rfl rfl rfl ⟨rfl, trivial⟩ rfl rfl (.cons _ (.cons _ (.nil _))) ?_
    · refine WO.q rfl (QE.ldOw rfl rfl rfl) rfl rfl ?_
      refine WO.re (r := 8) rfl ?_
      exact WO.nil (WK.mk' (.cons _ (.cons _ (.nil _))))
    refine go3 ?_
    refine WD.q rfl rfl rfl rfl rfl (QE.ixN (f := eI) 0 rfl rfl hi) rfl rfl rfl ?_
    rw [hM]
    refine go3 ?_
    refine WD.q rfl rfl rfl rfl rfl (QE.mk (f := eI) (n := M) 0 rfl rfl rfl (by omega) (by unfold maxLen; omega)) rfl rfl rfl ?_
    refine WD.gen [(110, .ow 23 1 1 [.ow 2 1 M (encL eI (List.replicate M 0))]), (109, .dead)] rfl rfl rfl rfl rfl ?_ rfl rfl rfl ⟨rfl, trivial⟩ rfl rfl (.cons _ (.cons _ (.nil _))) ?_
    · refine WO.b1 rfl rfl rfl (by rw [encL_len1]; simp) rfl rfl ?_
      exact WO.nil (WK.mk' (.cons _ (.cons _ (.nil _))))
    refine go3 ?_
    refine WO.apPM (cs' := [ints V, .dead]) rfl rfl rfl rfl (encL_length _) rfl rfl rfl rfl rfl (by unfold maxLen; omega) (by omega) rfl rfl rfl ?_
    rw [show AV.ow 2 1 M (encL eI (List.replicate M 0)) = ints (List.replicate M 0) by simp [ints], rowsO_app]
    refine WO.cln 8 ?_
    refine go3 ?_
    refine WO.stOp (cs' := [ints V, .ow 23 1 (rows ++ [List.replicate M 0]).length (encL (eO 2 1 eI) (rows ++ [List.replicate M 0]))]) rfl rfl rfl rfl (encL_length _) rfl rfl rfl rfl rfl ?_
    refine go3 ?_
    exact lpK.mk (i + 1, rows ++ [List.replicate M 0]) (.cons rfl (.cons rfl (.cons rfl (.cons rfl .nil)))) ⟨hi, by dsimp only; rw [htk, List.map_append, ← g3]; simp⟩ (by dsimp only; omega)
  · have : i = p.arrs.length := by omega
    subst this
    rw [List.take_length] at g3
    have hc : (stV p l b).cells = rows := by rw [g3]; rfl
    have hen : enO (stV p l b) = [ints V, .ow 23 1 rows.length (encL (eO 2 1 eI) rows)] := by unfold enO; rw [hvs, hc]
    rw [hen]
    have hw : whL [ints V, .ow 23 1 rows.length (encL (eO 2 1 eI) rows)] = true := by simp [whL, whA, encL_len1, encO_len]
    refine go3 ?_
    refine WO.q rfl (QE.ldG rfl rfl rfl (L := [.vw 8 [0] 0 V.length, .vw 8 [1] 0 rows.length]) rfl) rfl rfl ?_
    refine WO.stG (env1 := (8, .op [.dead, .dead]) :: _) (vs := [ints V, .ow 23 1 rows.length (encL (eO 2 1 eI) rows)]) rfl rfl rfl (.ag (takeVr (r := 8) (cs := [ints V, .ow 23 1 rows.length (encL (eO 2 1 eI) rows)]) rfl hw) (.nil _)) rfl rfl rfl rfl ?_
    refine go3 ?_
    exact retCGV rfl rfl rfl hw rfl rfl rfl rfl
end Go.Eng.C

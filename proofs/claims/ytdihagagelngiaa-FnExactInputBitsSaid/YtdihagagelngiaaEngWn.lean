/- Contracts of functions, by the engine: the reference's bits of an input; truth values as laws compare and mark them. -/
import Derived.Test.YtdihagagelngiaaEngV7
import Derived.Test.YtdihagagelngiaaEngWi
namespace Go.Eng.C
open Go Go.Eng Go.RowKit Go.Proofs
set_option linter.unusedVariables false
set_option linter.unusedSimpArgs false
set_option maxRecDepth 10000
variable {X : FuncId → List AV → AV → List AV → Prop}
theorem nm_spec_InputBits : (Try.f60.name == "runtime.NumGoroutine") = false := by decide
theorem nm_laws_eqBoolS : (Try.f61.name == "runtime.NumGoroutine") = false := by decide
theorem nm_laws_markBoolS : (Try.f62.name == "runtime.NumGoroutine") = false := by decide
theorem nm_laws_heldBoolS : (Try.f63.name == "runtime.NumGoroutine") = false := by decide
theorem pow_bd {j : Nat} (h : j ≤ 8) : 1 ≤ (2 : Int) ^ j ∧ (2 : Int) ^ j ≤ 256 := by
  have : j = 0 ∨ j = 1 ∨ j = 2 ∨ j = 3 ∨ j = 4 ∨ j = 5 ∨ j = 6 ∨ j = 7 ∨ j = 8 := by omega
  rcases this with h | h | h | h | h | h | h | h | h <;> subst h <;> decide
set_option maxHeartbeats 8000000 in
theorem specInputBits (p : Pr) (a b : List Int) (hB : PB p) (h : StOk p a b) : Ev Try.prog X (.fn 60 [.ag (prR p), .im a.length (encL eI a), .im b.length (encL eI b)] (bools (bitsL (p.lows ++ p.secs) (a ++ b))) [.dead, .dead, .dead]) := by
  have cS := specStartOf (X := X) p a b hB h
  have hc := CB.of h.1.i h.1.w8
  have hin := h.2.1.app h.2.2
  have hqn := hc.n
  have hcm := hc.m
  have hsl := hin.len
  have hsum := bitsL_len hin
  have hsb := hc.b
  have hll : (p.lows ++ p.secs).length = p.lows.length + p.secs.length := List.length_append
  have hl2 : (a ++ b).length = a.length + b.length := List.length_append
  have c2 := l7Maxes (X := X) p (by omega) (by omega)
  obtain ⟨V, hV⟩ : ∃ V, V = stV p a b := ⟨_, rfl⟩
  rw [← hV] at cS
  obtain ⟨q, hq⟩ : ∃ q, q = p.lows ++ p.secs := ⟨_, rfl⟩
  obtain ⟨s, hs⟩ : ∃ s, s = a ++ b := ⟨_, rfl⟩
  rw [← hq] at hc hqn hcm hin hsl hll c2 hsum hsb ⊢
  rw [← hs] at hin hsl hsum hl2 ⊢
  have hml := mxs_len q
  refine Ev.fnW (env := [(0, .ag (prR p)), (1, .im a.length (encL eI a)), (2, .im b.length (encL eI b))]) Try.func60 rfl nm_spec_InputBits rfl rfl (by kernel_rfl) (.cons rfl (.cons rfl (.cons rfl .nil))) ?_
  refine go3 ?_
  refine WO.call rfl rfl rfl cS rfl rfl ?_
  refine WO.mvR rfl (.move _) rfl rfl rfl ?_
  refine WO.extR rfl rfl rfl rfl rfl ?_
  refine WO.extR rfl rfl rfl rfl rfl ?_
  refine go3 ?_
  refine WO.stG (vs := enO V) rfl rfl rfl (takeAgP (r := 21) (p := [0]) (cs := enO V) rfl (whL_enO _) rfl) rfl rfl rfl rfl ?_
  refine go3 ?_
  refine WO.apI (cs := []) rfl rfl rfl rfl rfl (by rw [encL_len1]; omega) rfl (by unfold maxLen; omega) (by omega) rfl ?_
  rw [List.nil_append, Nat.zero_add]
  refine go3 ?_
  refine WO.apI rfl rfl rfl (encL_length _) rfl (by rw [encL_len1]; omega) rfl (by unfold maxLen; omega) (by omega) rfl ?_
  rw [show AV.ow 2 1 (a.length + b.length) (encL eI a ++ encL eI b) = ints s by rw [hs, ints, encL_append, List.length_append]]
  refine WO.hard (r := 31) (p := []) (x := ints s) (y := .im s.length (encL eI s)) rfl rfl (by simp only [setN, Eng.hard, hardL_pl (encL_pl (f := eI) _)]) ?_
  refine go3 ?_
  refine WO.call rfl rfl rfl c2 rfl rfl ?_
  refine WO.hard (r := 33) (p := []) (x := ints (mxs q)) (y := .im (mxs q).length (encL eI (mxs q))) rfl rfl (by simp only [setN, Eng.hard, hardL_pl (encL_pl (f := eI) _)]) ?_
  refine go3 ?_
  refine WC.loopS (S := Nat × List Bool) (fun t => [(7, bools t.2), (10, .im s.length (encL eI s)), (11, .im (mxs q).length (encL eI (mxs q))), (12, i64 t.1)]) (fun t => t.1 ≤ q.length ∧ t.2 ++ bitsL (q.drop t.1) (s.drop t.1) = bitsL q s) (fun t => q.length - t.1) (0, []) (.cons rfl (.cons rfl (.cons rfl (.cons rfl .nil)))) ⟨Nat.zero_le _, rfl⟩ ?_
  rintro ⟨i, m⟩ ⟨g1, g2⟩
  dsimp only at g1 g2 ⊢
  refine go3 ?_
  refine WO.cmp rfl rfl rfl rfl rfl (fun h3 => ?_) (fun h3 => ?_)
  · have hi : i < q.length := by omega
    have hi2 : i < s.length := by omega
    have him : i < (mxs q).length := by omega
    have hm : q.getD i ⟨0, 0⟩ ∈ q := by simp [List.getD_eq_getElem?_getD, hi]
    obtain ⟨a1, a2⟩ := hcm _ hm
    have d3 := (InL.iff.1 hin).2 i hi2
    have hmx := mxs_getD q hi
    rw [bitsL_drop hi hi2] at g2
    generalize q.getD i ⟨0, 0⟩ = x at *
    obtain ⟨d1, d2⟩ := bitsN8 a2
    have cb := l3Bits (X := X) x.max (by omega) (by omega)
    obtain ⟨N, hN⟩ : ∃ N : Nat, bitsN x.max.toNat = N := ⟨(bitsN x.max.toNat).toNat, by omega⟩
    rw [hN] at d1 d2 g2 cb
    rw [Int.toNat_natCast] at g2
    refine go3 ?_
    refine WO.ixN (f := eI) 0 rfl rfl rfl him rfl ?_
    rw [hmx]
    refine go3 ?_
    refine WO.call rfl rfl rfl cb rfl rfl ?_
    refine go3 ?_
    refine WC.loopS (S := Nat × Nat) (fun t => [(7, bools m), (10, .im s.length (encL eI s)), (11, .im (mxs q).length (encL eI (mxs q))), (12, i64 i), (13, i64 (2 ^ t.2)), (14, i64 t.1)]) (fun t => t.1 ≤ N ∧ (t.1 = 0 → N = 0) ∧ t.1 + t.2 = max N 0 ∧ t.2 ≤ N) (fun t => t.1) (N, 0) (.cons rfl (.cons rfl (.cons rfl (.cons rfl (.cons rfl (.cons rfl .nil)))))) ⟨Nat.le_refl _, fun h => h, by dsimp only; omega, Nat.zero_le _⟩ ?_
    rintro ⟨k, u⟩ ⟨f1, f2, f3, f4⟩
    dsimp only at f1 f2 f3 f4 ⊢
    refine go3 ?_
    refine WO.cmp rfl rfl rfl rfl rfl (fun h4 => ?_) (fun h4 => ?_)
    · obtain ⟨j, rfl⟩ : ∃ j, k = j + 1 := ⟨k - 1, by omega⟩
      have hj : ((j + 1 : Nat) : Int) - 1 = (j : Int) := by omega
      obtain ⟨p1, p2⟩ := pow_bd (j := u) (by omega)
      have e2 : (2 : Int) ^ (u + 1) = 2 ^ u * 2 := Int.pow_succ 2 u
      refine go3 ?_
      rw [hj, ← e2]
      exact lpK.mk (j, u + 1) (.cons rfl (.cons rfl (.cons rfl (.cons rfl (.cons rfl (.cons rfl .nil)))))) ⟨by dsimp only; omega, by dsimp only; omega, by dsimp only; omega, by dsimp only; omega⟩ (show j < j + 1 by omega)
    · have hu : u = N - 1 := by omega
      subst hu
      clear f1 f2 f3 f4 h4
      refine go3 ?_
      refine WO.ixN (f := eI) 0 rfl rfl rfl him rfl ?_
      rw [hmx]
      refine go3 ?_
      refine WO.call rfl rfl rfl cb rfl rfl ?_
      refine go3 ?_
      refine WC.loopS (S := Nat × Int × List Bool) (fun t => [(7, bools t.2.2), (10, .im s.length (encL eI s)), (11, .im (mxs q).length (encL eI (mxs q))), (12, i64 i), (13, i64 t.2.1), (15, i64 t.1)]) (fun t => t.1 ≤ N ∧ (t.1 ≠ 0 → t.2.1 = 2 ^ (t.1 - 1)) ∧ t.2.2 ++ (bitsOf (s.getD i 0) t.1 ++ bitsL (q.drop (i + 1)) (s.drop (i + 1))) = bitsL q s) (fun t => t.1) (N, 2 ^ (N - 1), m) (.cons rfl (.cons rfl (.cons rfl (.cons rfl (.cons rfl (.cons rfl .nil)))))) ⟨Nat.le_refl _, fun _ => rfl, g2⟩ ?_
      clear g2
      rintro ⟨k, U, m⟩ ⟨f1, fU, f2⟩
      dsimp only at f1 fU f2 ⊢
      refine go3 ?_
      refine WO.cmp rfl rfl rfl rfl rfl (fun h4 => ?_) (fun h4 => ?_)
      · obtain ⟨j, rfl⟩ : ∃ j, k = j + 1 := ⟨k - 1, by omega⟩
        have hj : ((j + 1 : Nat) : Int) - 1 = (j : Int) := by omega
        have hml2 : m.length ≤ 10 := by have := congrArg List.length f2; simp only [List.length_append] at this; omega
        have fU := fU (by omega)
        rw [Nat.add_sub_cancel] at fU
        obtain ⟨p1, p2⟩ := pow_bd (j := j) (by omega)
        have fU2 : j ≠ 0 → U / 2 = 2 ^ (j - 1) := by
          intro hj0
          obtain ⟨k, rfl⟩ : ∃ k, j = k + 1 := ⟨j - 1, by omega⟩
          rw [fU, Int.pow_succ, Nat.add_sub_cancel]; omega
        rw [bitsOf, ← fU] at f2
        rw [← fU] at p1 p2
        clear fU
        refine go3 ?_
        refine WO.ixN (f := eI) 0 rfl rfl rfl hi2 rfl ?_
        generalize s.getD i 0 = v at *
        have e2 : 0 ≤ v / U := Int.ediv_nonneg d3.1 (by omega)
        refine go3 ?_
        refine WO.q rfl (QE.cmp (decide (v / U % 2 = 1)) rfl rfl rfl (by simp)) rfl rfl ?_
        generalize decide (v / U % 2 = 1) = c at *
        refine WO.bsA (us := [bl c]) (cs := [bl c]) rfl rfl rfl rfl rfl (by kernel_rfl) rfl ?_
        refine WO.hard (r := 69) (p := []) (x := .ow 4 1 1 [bl c]) (y := .im 1 [bl c]) rfl rfl rfl ?_
        refine WO.apVI rfl rfl rfl (encL_length _) rfl rfl rfl (by unfold maxLen; omega) (by omega) rfl ?_
        rw [bool_app]
        refine WO.cln 7 ?_
        refine go3 ?_
        rw [hj]
        exact lpK.mk (j, U / 2, m ++ [c]) (.cons rfl (.cons rfl (.cons rfl (.cons rfl (.cons rfl (.cons rfl .nil)))))) ⟨by dsimp only; omega, fU2, by dsimp only; rw [← f2]; simp⟩ (show j < j + 1 by omega)
      · have : k = 0 := by omega
        subst this
        refine go3 ?_
        exact lpK.mk (i + 1, m) (.cons rfl (.cons rfl (.cons rfl (.cons rfl .nil)))) ⟨hi, f2⟩ (show q.length - (i + 1) < q.length - i by omega)
  · have : i = q.length := by omega
    subst this
    rw [List.drop_length] at g2
    simp only [bitsL, List.append_nil] at g2
    subst g2
    refine go3 ?_
    exact retO rfl rfl (encL_length _) rfl rfl rfl
theorem specInputBitsN (p : Pr) (a b : List Int) (hB : PB p) (ha : a.length ≤ 4194304) (hb : b.length ≤ 4194304) (h : ¬ StOk p a b) : Ev Try.prog X (.fn 60 [.ag (prR p), .im a.length (encL eI a), .im b.length (encL eI b)] (bools []) [.dead, .dead, .dead]) := by
  refine Ev.fnW (env := [(0, .ag (prR p)), (1, .im a.length (encL eI a)), (2, .im b.length (encL eI b))]) Try.func60 rfl nm_spec_InputBits rfl rfl (by kernel_rfl) (.cons rfl (.cons rfl (.cons rfl .nil))) ?_
  refine go3 ?_
  refine WO.call rfl rfl rfl (specStartOfN p a b hB ha hb h) rfl rfl ?_
  refine go3 ?_
  exact retO rfl rfl rfl rfl rfl rfl
theorem eqBoolS (a : List Bool) (hl : a.length ≤ 1048576) : Ev Try.prog X (.fn 61 [.im a.length (encL eB a), .im a.length (encL eB a)] (bl true) [.dead, .dead]) := by
  refine Ev.fnW (env := [(0, .im a.length (encL eB a)), (1, .im a.length (encL eB a))]) Try.func61 rfl nm_laws_eqBoolS rfl rfl (by kernel_rfl) (.cons rfl (.cons rfl .nil)) ?_
  refine go3 ?_
  refine WC.loopS (S := Nat) (fun i => [(0, .im a.length (encL eB a)), (1, .im a.length (encL eB a)), (5, i64 i)]) (fun i => i ≤ a.length) (fun i => a.length - i) 0 (.cons rfl (.cons rfl (.cons rfl .nil))) (Nat.zero_le _) ?_
  intro i h1
  refine go3 ?_
  refine WO.cmp rfl rfl rfl rfl rfl (fun h3 => ?_) (fun h3 => ?_)
  · have hi : i < a.length := by omega
    refine go3 ?_
    refine WC.regionDd ⟨[[], [], [0, 1], [0, 1, 2], [], [], [4, 5], [4, 5, 6], [0, 1, 2, 3, 4, 5, 6, 7]], [0, 1, 2, 3, 4, 5, 6, 7, 8], [], [17, 18, 19, 20, 21, 22, 23, 24, 25], [0, 1, 2, 3, 4, 5, 6, 7, 8], [([18, 21, 22, 23, 24], [18, 21, 22, 23, 24], false), ([17, 21, 22, 23, 24], [17, 21, 22, 23, 24], false), ([21, 22, 23, 24], [21, 22, 23, 24], false), ([21, 22, 23, 24], [21, 22, 23, 24], false), ([17, 18, 19, 20, 22], [17, 18, 19, 20, 22], false), ([17, 18, 19, 20, 21], [17, 18, 19, 20, 21], false), ([17, 18, 19, 20], [17, 18, 19, 20], false), ([17, 18, 19, 20], [17, 18, 19, 20], false), ([], [], false)]⟩ (by kernel_rfl) ?_
    refine go3 ?_
    refine WD.q rfl rfl rfl rfl rfl (QE.ixN (f := eB) false rfl rfl hi) rfl rfl rfl ?_
    refine go3 ?_
    refine WD.q rfl rfl rfl rfl rfl (QE.ixN (f := eB) false rfl rfl hi) rfl rfl rfl ?_
    refine go3 ?_
    generalize a.getD i false = c
    refine WD.q rfl rfl rfl rfl rfl (QE.binT (c := false) (by kernel_rfl) rfl rfl (show Eng.binT .neq c c = some false by cases c <;> rfl)) rfl rfl rfl ?_
    refine go3 ?_
    exact lpK.mk (i + 1) (.cons rfl (.cons rfl (.cons rfl .nil))) hi (show a.length - (i + 1) < a.length - i by omega)
  · refine go3 ?_
    exact retV rfl rfl rfl rfl
/-- Truth values marked from m on. -/
def markT : List Bool → Int → List Bool
  | [], _ => []
  | _ :: l, m => decide (m % 3 = 0) :: markT l (m + 1)
theorem markT_len : ∀ (l : List Bool) (m : Int), (markT l m).length = l.length
  | [], m => rfl
  | t :: l, m => by simp only [markT, List.length_cons, markT_len l]
theorem markBoolS (xs : List Bool) (m : Int) (h0 : 0 ≤ m) (hb : m + xs.length ≤ 4611686018427387904) :
    Ev Try.prog X (.fn 62 [bools xs, i64 m] (i64 (m + xs.length)) [.ow 4 1 xs.length (encL eB (markT xs m)), .dead]) := by
  refine Ev.fnW (env := [(0, .vw 1000000 [] 0 xs.length), (1, i64 m), (1000000, bools xs)]) Try.func62 rfl nm_laws_markBoolS rfl rfl (by kernel_rfl) (.cons rfl (.cons rfl (.cons rfl .nil))) ?_
  refine go3 ?_
  refine WC.loopS (S := Nat × Int × List Bool) (fun s => [(0, .vw 1000000 [] 0 xs.length), (1, i64 s.2.1), (5, i64 s.1), (1000000, .ow 4 1 xs.length (encL eB s.2.2))]) (fun s => s.1 ≤ xs.length ∧ s.2.1 = m + s.1 ∧ s.2.2.length = xs.length ∧ markT xs m = s.2.2.take s.1 ++ markT (xs.drop s.1) s.2.1) (fun s => xs.length - s.1) (0, m, xs) (.cons rfl (.cons rfl (.cons rfl (.cons rfl .nil)))) ⟨by simp, by simp, rfl, by simp⟩ ?_
  rintro ⟨i, m', ys⟩ ⟨h1, hm, hy, h2⟩
  dsimp only at h1 hm hy h2 ⊢
  refine go3 ?_
  refine WO.cmp rfl rfl rfl rfl rfl (fun h3 => ?_) (fun h3 => ?_)
  · have hi : i < xs.length := by omega
    rw [drop_getD hi false, markT] at h2
    refine go3 ?_
    refine WO.q rfl (QE.cmp (decide (m' % 3 = 0)) rfl rfl rfl (by simp)) rfl rfl ?_
    generalize decide (m' % 3 = 0) = c at *
    refine WO.ixM rfl rfl rfl (by rw [encL_length]; omega) rfl hi rfl rfl ?_
    refine go3 ?_
    refine WO.stE (f := eB) (i := i) (j := 0) false c rfl rfl (by omega) (by omega) rfl rfl (by omega) rfl rfl ?_
    refine go3 ?_
    refine lpK.mk (i + 1, m' + 1, ys.set i c) (.cons rfl (.cons rfl (.cons rfl (.cons rfl .nil)))) ⟨by simp only; omega, by simp only; omega, by simp only [List.length_set, hy], ?_⟩ (by simp only; omega)
    dsimp only
    rw [h2, take_set (by omega), List.append_assoc]; rfl
  · have e : i = xs.length := by omega
    subst e
    have e2 : ys = markT xs m := by rw [h2, List.drop_length, markT, List.append_nil, List.take_of_length_le (by omega)]
    subst hm
    refine go3 ?_
    exact retV rfl rfl (by rw [← e2]; rfl) rfl
theorem markT_at {xs : List Bool} {m : Int} : ∀ {i : Nat}, i < xs.length → (markT xs m).getD i false = decide ((m + i) % 3 = 0) := by
  induction xs generalizing m with
  | nil => intro i h; simp at h
  | cons x l ih =>
    intro i h
    cases i with
    | zero => simp [markT]
    | succ i =>
      simp only [markT, List.getD_cons_succ]
      rw [ih (by simpa using h), show m + 1 + (i : Int) = m + ((i + 1 : Nat) : Int) by omega]
theorem heldBoolS (xs : List Bool) (m : Int) (h0 : 0 ≤ m) (hb : m + xs.length ≤ 4611686018427387904) :
    Ev Try.prog X (.fn 63 [.im xs.length (encL eB (markT xs m)), i64 m] (i64 (m + xs.length)) [.dead, .dead]) := by
  have hl := markT_len xs m
  obtain ⟨ys, hy⟩ : ∃ ys, ys = markT xs m := ⟨_, rfl⟩
  rw [← hl]
  rw [← hl] at hb
  have hat := fun {i : Nat} (h : i < xs.length) => markT_at (m := m) h
  rw [← hy] at hb hl hat ⊢
  refine Ev.fnW (env := [(0, .im ys.length (encL eB ys)), (1, i64 m)]) Try.func63 rfl nm_laws_heldBoolS rfl rfl (by kernel_rfl) (.cons rfl (.cons rfl .nil)) ?_
  refine go3 ?_
  refine WC.loopS (S := Nat) (fun i => [(0, .im ys.length (encL eB ys)), (1, i64 (m + i)), (5, i64 i)]) (fun i => i ≤ ys.length) (fun i => ys.length - i) 0 (.cons rfl (.cons (show i64 m = i64 (m + ((0 : Nat) : Int)) from congrArg i64 (by omega)) (.cons rfl .nil))) (Nat.zero_le _) ?_
  intro i h1
  refine go3 ?_
  refine WO.cmp rfl rfl rfl rfl rfl (fun h3 => ?_) (fun h3 => ?_)
  · have hi : i < ys.length := by omega
    have ha := hat (show i < xs.length by omega)
    refine go3 ?_
    refine WO.ixN (f := eB) false rfl rfl rfl hi rfl ?_
    rw [ha]
    refine go3 ?_
    refine WO.q rfl (QE.cmp (decide ((m + i) % 3 = 0)) rfl rfl rfl (by simp)) rfl rfl ?_
    generalize decide ((m + (i : Int)) % 3 = 0) = c at *
    refine go3 ?_
    refine WO.q rfl (QE.binT (c := false) (by kernel_rfl) rfl rfl (show Eng.binT .neq c c = some false by cases c <;> rfl)) rfl rfl ?_
    refine go3 ?_
    exact lpK.mk (i + 1) (.cons rfl (.cons (congrArg i64 (by omega)) (.cons rfl .nil))) hi (show ys.length - (i + 1) < ys.length - i by omega)
  · have e : i = ys.length := by omega
    subst e
    refine go3 ?_
    exact retV rfl rfl rfl rfl
end Go.Eng.C

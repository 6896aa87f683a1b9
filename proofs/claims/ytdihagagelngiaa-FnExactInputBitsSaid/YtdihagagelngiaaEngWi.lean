/- Contracts of functions, by the engine: the bits of all inputs; the number and the bits of an input. -/
import Derived.Test.YtdihagagelngiaaEngWh
import Derived.Test.YtdihagagelngiaaEngWf
namespace Go.Eng.C
open Go Go.Eng Go.RowKit Go.Proofs
set_option linter.unusedVariables false
set_option linter.unusedSimpArgs false
set_option maxRecDepth 10000
variable {X : FuncId → List AV → AV → List AV → Prop}
theorem nm_impl_manyBits : (Try.f77.name == "runtime.NumGoroutine") = false := by decide
theorem nm_impl_BitsIn : (Try.f22.name == "runtime.NumGoroutine") = false := by decide
theorem nm_spec_BitsIn : (Try.f23.name == "runtime.NumGoroutine") = false := by decide
theorem nm_impl_NumberOf : (Try.f26.name == "runtime.NumGoroutine") = false := by decide
theorem nm_impl_bitsAt : (Try.f81.name == "runtime.NumGoroutine") = false := by decide
theorem nm_impl_InputBits : (Try.f27.name == "runtime.NumGoroutine") = false := by decide
theorem noIm_inp : ∀ (l : List Inp), noImL (encL inp l) = true
  | [] => rfl
  | x :: l => by rw [encL_cons]; simp only [inp, List.cons_append, List.nil_append, noImL, noIm, noIm_inp l, Bool.and_self]
/-- All parts of a struct that lies in a node. -/
theorem takeAgP {env : Env} {r : Nat} {p : List Nat} {cs : List AV} {y : AV} (hr : getN p (look env r) = some (.ag cs)) (hw : whL cs = true) (hy : setN p (look env r) (hole (.ag cs)) = y) : TakeL (look env) [.ag (refL r p 0 cs)] [.ag cs] (look ((r, y) :: env)) := by
  subst hy
  have h := TakeL.whole (r := r) (.ag cs) (σ := look env) (σ' := setS (look env) r p (hole (.ag cs))) (p := p) hw hr (.nil _)
  rw [setS_look] at h
  simpa only [refT] using h
theorem sumB_bd {q : List Inp} (hc : CB q) (i : Nat) : 0 ≤ sumBits (q.take i) ∧ sumBits (q.take i) ≤ 10 := by
  have h1 := sumBits_nn (q.take i); have h2 := sumBits_tk q i; have h3 := hc.b; omega
theorem manyBits (p : Pr) (hc : CB (p.lows ++ p.secs)) : Ev Try.prog X (.fn 77 [.ip (prR p)] (i64 (sumBits (p.lows ++ p.secs))) [.dead]) := by
  have hl := hc.n
  simp only [List.length_append] at hl
  refine Ev.fnW (env := [(0, .ip (prR p))]) Try.func77 rfl nm_impl_manyBits rfl rfl (by kernel_rfl) (.cons rfl .nil) ?_
  refine go3 ?_
  refine WO.call rfl rfl rfl (allInputs p (by omega) (by omega)) rfl rfl ?_
  generalize hq : p.lows ++ p.secs = q at *
  have hqn := hc.n
  refine WO.hard (r := 7) (p := []) (x := .ow 92 2 q.length (encL inp q)) (y := .im q.length (encL inp q)) rfl rfl (by simp only [setN, Eng.hard, hardL_pl (encL_pl (f := inp) q)]) ?_
  refine go3 ?_
  refine WC.loopS (S := Nat) (fun i => [(3, i64 (sumBits (q.take i))), (7, .im q.length (encL inp q)), (8, i64 q.length), (9, i64 i)]) (fun i => i ≤ q.length) (fun i => q.length - i) 0 (.cons rfl (.cons rfl (.cons rfl (.cons rfl .nil)))) (Nat.zero_le _) ?_
  intro i g1
  refine go3 ?_
  refine WO.cmp rfl rfl rfl rfl rfl (fun h3 => ?_) (fun h3 => ?_)
  · have hi : i < q.length := by omega
    have e := sumBits_take q i hi ⟨0, 0⟩
    have hm : q.getD i ⟨0, 0⟩ ∈ q := by simp [List.getD_eq_getElem?_getD, hi]
    obtain ⟨a1, a2⟩ := hc.m _ hm
    have b1 := sumB_bd hc i
    have b2 := sumB_bd hc (i + 1)
    refine go3 ?_
    refine WO.ixN (f := inp) ⟨0, 0⟩ rfl rfl rfl hi rfl ?_
    generalize q.getD i ⟨0, 0⟩ = x at *
    refine go3 ?_
    refine WO.call rfl rfl rfl (implBitsOf x.max (by omega) (by omega)) rfl rfl ?_
    rw [e] at b2
    refine go3 ?_
    rw [← e]
    exact lpK.mk (i + 1) (.cons rfl (.cons rfl (.cons rfl (.cons rfl .nil)))) hi (show q.length - (i + 1) < q.length - i by omega)
  · have : i = q.length := by omega
    subst this
    rw [List.take_length]
    refine go3 ?_
    exact retV rfl rfl rfl rfl
theorem implBitsIn (p : Pr) (hB : PB p) (hp : PrOk p) : Ev Try.prog X (.fn 22 [.ag (prR p)] (i64 (sumBits (p.lows ++ p.secs))) [.dead]) := by
  refine Ev.fnW (env := [(0, .ag (prR p))]) Try.func22 rfl nm_impl_BitsIn rfl rfl (by kernel_rfl) (.cons rfl .nil) ?_
  refine go3 ?_
  refine WO.call rfl rfl rfl (implProgOk p hB (r := true) (by simp [hp])) rfl rfl ?_
  refine go3 ?_
  refine WO.callF rfl (.cons (frzA rfl rfl) .nil) (manyBits p (CB.of hp.i hp.w8)) rfl rfl rfl ?_
  refine go3 ?_
  exact retV rfl rfl rfl rfl
theorem implBitsInN (p : Pr) (hB : PB p) (hp : ¬ PrOk p) : Ev Try.prog X (.fn 22 [.ag (prR p)] (i64 (-1)) [.dead]) := by
  refine Ev.fnW (env := [(0, .ag (prR p))]) Try.func22 rfl nm_impl_BitsIn rfl rfl (by kernel_rfl) (.cons rfl .nil) ?_
  refine go3 ?_
  refine WO.call rfl rfl rfl (implProgOk p hB (r := false) (by simp [hp])) rfl rfl ?_
  refine go3 ?_
  exact retV rfl rfl rfl rfl
theorem specBitsIn (p : Pr) (hB : PB p) (hp : PrOk p) : Ev Try.prog X (.fn 23 [.ag (prR p)] (i64 (sumBits (p.lows ++ p.secs))) [.dead]) := by
  have hcm := (CB.of hp.i hp.w8).m
  have hl1 : p.lows.length ≤ 3 := hp.i.1
  have hl2 : p.secs.length ≤ 3 := hp.i.2.1
  rw [sumBits_app]
  refine Ev.fnW (env := [(0, .ag (prR p))]) Try.func23 rfl nm_spec_BitsIn rfl rfl (by kernel_rfl) (.cons rfl .nil) ?_
  refine go3 ?_
  refine WO.call rfl rfl rfl (specProgOk p hB (r := true) (by simp [hp])) rfl rfl ?_
  refine go3 ?_
  refine WO.call rfl rfl rfl (l3AllBits p hl1 hl2 (fun x hx => hcm x (List.mem_append_left _ hx)) (fun x hx => hcm x (List.mem_append_right _ hx))) rfl rfl ?_
  refine go3 ?_
  exact retV rfl rfl rfl rfl
theorem specBitsInN (p : Pr) (hB : PB p) (hp : ¬ PrOk p) : Ev Try.prog X (.fn 23 [.ag (prR p)] (i64 (-1)) [.dead]) := by
  refine Ev.fnW (env := [(0, .ag (prR p))]) Try.func23 rfl nm_spec_BitsIn rfl rfl (by kernel_rfl) (.cons rfl .nil) ?_
  refine go3 ?_
  refine WO.call rfl rfl rfl (specProgOk p hB (r := false) (by simp [hp])) rfl rfl ?_
  refine go3 ?_
  exact retV rfl rfl rfl rfl
theorem numL_drop {q : List Inp} {s : List Int} {i : Nat} (h : i < q.length) (h2 : i < s.length) : numL (q.drop i) (s.drop i) = numL (q.drop (i + 1)) (s.drop (i + 1)) * ((q.getD i ⟨0, 0⟩).max + 1) + s.getD i 0 := by
  rw [drop_getI h, show s.drop i = s.getD i 0 :: s.drop (i + 1) by rw [List.getD_eq_getElem?_getD, List.getElem?_eq_getElem h2, Option.getD_some, List.drop_eq_getElem_cons h2]]
  rfl
theorem InL.drop : ∀ {q : List Inp} {s : List Int} (i : Nat), InL q s → InL (q.drop i) (s.drop i)
  | q, s, 0, h => h
  | [], [], i + 1, h => h
  | x :: q, a :: s, i + 1, h => InL.drop i h.2
  | [], a :: s, _ + 1, h => h.elim
  | x :: q, [], _ + 1, h => h.elim
theorem cntL_drop : ∀ {q : List Inp} (i : Nat), (∀ x ∈ q, 0 ≤ x.max) → cntL (q.drop i) ≤ cntL q
  | q, 0, h => by simp
  | [], i + 1, h => by simp
  | x :: q, i + 1, h => by
    have h1 := cntL_drop (q := q) i fun y hy => h y (List.mem_cons_of_mem _ hy)
    have h2 := (cntL_bits (l := q) fun y hy => h y (List.mem_cons_of_mem _ hy)).1
    have h3 := h x (by simp)
    have : 1 * cntL q ≤ (x.max + 1) * cntL q := Int.mul_le_mul_of_nonneg_right (by omega) (by omega)
    simp only [List.drop_succ_cons, cntL]; omega
set_option maxHeartbeats 8000000 in
theorem implNumberOf (p : Pr) (a b : List Int) (hB : PB p) (h : StOk p a b) : Ev Try.prog X (.fn 26 [.ag (prR p), .im a.length (encL eI a), .im b.length (encL eI b)] (i64 (numL (p.lows ++ p.secs) (a ++ b))) [.dead, .dead, .dead]) := by
  have c1 := implStartOf (X := X) p a b hB h
  obtain ⟨hp, h1, h2⟩ := h
  have hc := CB.of hp.i hp.w8
  have hqn := hc.n
  have hc2 := hc.all
  have hcm := hc.m
  have hin := InL.app h1 h2
  have hsl := hin.len
  have a1 := h1.len; have a2 := h2.len
  have hll : (p.lows ++ p.secs).length = p.lows.length + p.secs.length := List.length_append
  have c2 := allInputs (X := X) p (by omega) (by omega)
  obtain ⟨q, hq⟩ : ∃ q, q = p.lows ++ p.secs := ⟨_, rfl⟩
  obtain ⟨s, hs⟩ : ∃ s, s = a ++ b := ⟨_, rfl⟩
  rw [← hq] at hc hqn hc2 hcm hin hsl hll c2 ⊢
  rw [← hs] at hin hsl ⊢
  refine Ev.fnW (env := [(0, .ag (prR p)), (1, .im a.length (encL eI a)), (2, .im b.length (encL eI b))]) Try.func26 rfl nm_impl_NumberOf rfl rfl (by kernel_rfl) (.cons rfl (.cons rfl (.cons rfl .nil))) ?_
  refine go3 ?_
  refine WO.call rfl rfl rfl c1 rfl rfl ?_
  refine WO.mvR rfl (.move _) rfl rfl rfl ?_
  refine WO.extR rfl rfl rfl rfl rfl ?_
  refine WO.extR rfl rfl rfl rfl rfl ?_
  refine go3 ?_
  refine WO.stG (vs := enO (stV p a b)) rfl rfl rfl (takeAgP (r := 17) (p := [0]) (cs := enO (stV p a b)) rfl (whL_enO _) rfl) rfl rfl rfl rfl ?_
  refine go3 ?_
  refine WO.callF rfl (.cons (frzA rfl rfl) .nil) c2 (by simp only [noIm, noIm_inp]) rfl rfl ?_
  refine WO.hard (r := 22) (p := []) (x := .ow 92 2 q.length (encL inp q)) (y := .im q.length (encL inp q)) rfl rfl (by simp only [setN, Eng.hard, hardL_pl (encL_pl (f := inp) q)]) ?_
  refine go3 ?_
  refine go3 ?_
  refine WO.apI (cs := []) rfl rfl rfl rfl rfl (by rw [encL_len1]; omega) rfl (by unfold maxLen; omega) (by omega) rfl ?_
  rw [List.nil_append, Nat.zero_add]
  refine go3 ?_
  refine WO.apI rfl rfl rfl (encL_length _) rfl (by rw [encL_len1]; omega) rfl (by unfold maxLen; omega) (by omega) rfl ?_
  rw [show AV.ow 2 1 (a.length + b.length) (encL eI a ++ encL eI b) = ints s by rw [hs, ints, encL_append, List.length_append]]
  refine WO.hard (r := 27) (p := []) (x := ints s) (y := .im s.length (encL eI s)) rfl rfl (by simp only [setN, Eng.hard, hardL_pl (encL_pl (f := eI) _)]) ?_
  refine go3 ?_
  refine WC.loopS (S := Nat) (fun i => [(9, i64 (numL (q.drop i) (s.drop i))), (10, .im q.length (encL inp q)), (11, .im s.length (encL eI s)), (12, i64 ((i : Int) - 1))]) (fun i => i ≤ q.length) (fun i => i) q.length (.cons (by rw [List.drop_length, ← hsl, List.drop_length]; rfl) (.cons rfl (.cons rfl (.cons (by rw [hsl]; rfl) .nil)))) (Nat.le_refl _) ?_
  intro i g1
  refine go3 ?_
  refine WO.cmp rfl rfl rfl rfl rfl (fun h3 => ?_) (fun h3 => ?_)
  · obtain ⟨j, rfl⟩ : ∃ j, i = j + 1 := ⟨i - 1, by omega⟩
    have hj : ((j + 1 : Nat) : Int) - 1 = (j : Int) := by omega
    rw [hj]
    have hi : j < q.length := by omega
    have hi2 : j < s.length := by omega
    have e := numL_drop hi hi2
    have b1 := numL_bd (hin.drop j)
    have b2 := cntL_drop (q := q) j fun x hx => (hcm x hx).1
    have b3 := numL_bd (hin.drop (j + 1))
    have b4 := cntL_drop (q := q) (j + 1) fun x hx => (hcm x hx).1
    have hm : q.getD j ⟨0, 0⟩ ∈ q := by simp [List.getD_eq_getElem?_getD, hi]
    obtain ⟨d1, d2⟩ := hcm _ hm
    have d3 := (InL.iff.1 hin).2 j hi2
    refine go3 ?_
    refine WC.regionDd ⟨[[], [], [], [1, 2], [1, 2, 3], [1, 2, 3, 4], [1, 2, 3, 4, 5], [0, 1, 2, 3, 4, 5, 6], [], [], [8, 9], [8, 9, 10], [0, 1, 2, 3, 4, 5, 6, 7, 8, 9, 10, 11], [0, 1, 2, 3, 4, 5, 6, 7, 8, 9, 10, 11, 12]], [0, 1, 2, 3, 4, 5, 6, 7, 8, 9, 10, 11, 12], [], [35, 36, 37, 38, 39, 40, 41, 42, 43, 44, 45, 46, 47], [0, 1, 2, 3, 4, 5, 6, 7, 8, 9, 10, 11, 12, 13], [([36, 37, 38, 39, 40, 41, 43, 44, 45, 46], [36, 37, 38, 39, 40, 41, 43, 44, 45, 46], false), ([35, 37, 43, 44, 45, 46], [35, 37, 43, 44, 45, 46], false), ([35, 36, 43, 44, 45, 46], [35, 36, 43, 44, 45, 46], false), ([35, 43, 44, 45, 46], [35, 43, 44, 45, 46], false), ([35, 43, 44, 45, 46], [35, 43, 44, 45, 46], false), ([35, 43, 44, 45, 46], [35, 43, 44, 45, 46], false), ([35, 43, 44, 45, 46], [35, 43, 44, 45, 46], false), ([43, 44, 45, 46], [43, 44, 45, 46], false), ([35, 36, 37, 38, 39, 40, 41, 42, 44], [35, 36, 37, 38, 39, 40, 41, 42, 44], false), ([35, 36, 37, 38, 39, 40, 41, 42, 43], [35, 36, 37, 38, 39, 40, 41, 42, 43], false), ([35, 36, 37, 38, 39, 40, 41, 42], [35, 36, 37, 38, 39, 40, 41, 42], false), ([35, 36, 37, 38, 39, 40, 41, 42], [35, 36, 37, 38, 39, 40, 41, 42], false), ([], [], false), ([], [], false)]⟩ (by kernel_rfl) ?_
    refine go3 ?_
    refine WD.q rfl rfl rfl rfl rfl (QE.ixN (f := inp) ⟨0, 0⟩ rfl rfl hi) rfl rfl rfl ?_
    generalize q.getD j ⟨0, 0⟩ = x at *
    generalize numL (q.drop (j + 1)) (s.drop (j + 1)) = n at *
    rw [e] at b1
    refine go3 ?_
    refine WD.q rfl rfl rfl rfl rfl (QE.ixN (f := eI) 0 rfl rfl hi2) rfl rfl rfl ?_
    generalize s.getD j 0 = v at *
    refine go3 ?_
    rw [← e]
    exact lpK.mk j (.cons rfl (.cons rfl (.cons rfl (.cons rfl .nil)))) (by omega) (show j < j + 1 by omega)
  · have : i = 0 := by omega
    subst this
    refine go3 ?_
    exact retV rfl rfl rfl rfl
theorem and_one {x : Int} (h0 : 0 ≤ x) (h1 : x ≤ 255) : andI x 1 = x % 2 := by
  obtain ⟨n, rfl⟩ : ∃ n : Nat, x = n := ⟨x.toNat, by omega⟩
  have e : andI (n : Int) 1 = ((n &&& 1 : Nat) : Int) := andI_nat n 1 (by omega) (by decide)
  rw [e, Nat.and_one_is_mod]; omega
theorem shr_nat {v : Int} {k : Nat} (hk : k ≤ 8) : v.fdiv (2 ^ (min (k : Int).toNat IntKind.i64.bits)) = v / 2 ^ k := by
  rw [shr_i64 (by omega), Int.toNat_natCast, Int.fdiv_eq_ediv_of_nonneg _ (Int.le_of_lt (Int.pow_pos (by decide)))]
theorem bool_app (l : List Bool) (c : Bool) : AV.ow 4 1 (l.length + 1) (encL eB l ++ [.sc (.bool c)]) = .ow 4 1 (l ++ [c]).length (encL eB (l ++ [c])) := by
  rw [List.length_append, encL_append]; rfl
/-- Truth values, owned. -/
abbrev bools (l : List Bool) : AV := .ow 4 1 l.length (encL eB l)
theorem bitsL_drop {q : List Inp} {s : List Int} {i : Nat} (h : i < q.length) (h2 : i < s.length) : bitsL (q.drop i) (s.drop i) = bitsOf (s.getD i 0) (bitsN (q.getD i ⟨0, 0⟩).max.toNat).toNat ++ bitsL (q.drop (i + 1)) (s.drop (i + 1)) := by
  rw [drop_getI h, show s.drop i = s.getD i 0 :: s.drop (i + 1) by rw [List.getD_eq_getElem?_getD, List.getElem?_eq_getElem h2, Option.getD_some, List.drop_eq_getElem_cons h2]]
  rfl
theorem bitsN8 {m : Int} (h1 : m ≤ 255) : 0 ≤ bitsN m.toNat ∧ bitsN m.toNat ≤ 8 := by
  have h := (bitsN_le m.toNat).1
  have h2 : ∀ k : Fin 256, bitsN k.val ≤ 8 := by decide +kernel
  exact ⟨h, h2 ⟨m.toNat, by omega⟩⟩
theorem noIm_eB : ∀ (l : List Bool), noImL (encL eB l) = true
  | [] => rfl
  | x :: l => by rw [encL_cons]; simp only [eB, List.cons_append, List.nil_append, noImL, noIm, noIm_eB l, Bool.and_self]
set_option maxHeartbeats 8000000 in
theorem bitsAt (p : Pr) (a b : List Int) (hc : CB (p.lows ++ p.secs)) (hin : InL (p.lows ++ p.secs) (a ++ b)) : Ev Try.prog X (.fn 81 [.ip (prR p), .im a.length (encL eI a), .im b.length (encL eI b)] (bools (bitsL (p.lows ++ p.secs) (a ++ b))) [.dead, .dead, .dead]) := by
  have hqn := hc.n
  have hcm := hc.m
  have hsl := hin.len
  have hsum := bitsL_len hin
  have hsb := hc.b
  have hll : (p.lows ++ p.secs).length = p.lows.length + p.secs.length := List.length_append
  have hl2 : (a ++ b).length = a.length + b.length := List.length_append
  have c2 := allInputs (X := X) p (by omega) (by omega)
  obtain ⟨q, hq⟩ : ∃ q, q = p.lows ++ p.secs := ⟨_, rfl⟩
  obtain ⟨s, hs⟩ : ∃ s, s = a ++ b := ⟨_, rfl⟩
  rw [← hq] at hc hqn hcm hin hsl hll c2 hsum hsb ⊢
  rw [← hs] at hin hsl hsum hl2 ⊢
  refine Ev.fnW (env := [(0, .ip (prR p)), (1, .im a.length (encL eI a)), (2, .im b.length (encL eI b))]) Try.func81 rfl nm_impl_bitsAt rfl rfl (by kernel_rfl) (.cons rfl (.cons rfl (.cons rfl .nil))) ?_
  refine go3 ?_
  refine WO.apI (cs := []) rfl rfl rfl rfl rfl (by rw [encL_len1]; omega) rfl (by unfold maxLen; omega) (by omega) rfl ?_
  rw [List.nil_append, Nat.zero_add]
  refine go3 ?_
  refine WO.apI rfl rfl rfl (encL_length _) rfl (by rw [encL_len1]; omega) rfl (by unfold maxLen; omega) (by omega) rfl ?_
  rw [show AV.ow 2 1 (a.length + b.length) (encL eI a ++ encL eI b) = ints s by rw [hs, ints, encL_append, List.length_append]]
  refine WO.hard (r := 17) (p := []) (x := ints s) (y := .im s.length (encL eI s)) rfl rfl (by simp only [setN, Eng.hard, hardL_pl (encL_pl (f := eI) _)]) ?_
  refine go3 ?_
  refine WO.call rfl rfl rfl c2 rfl rfl ?_
  refine WO.hard (r := 19) (p := []) (x := .ow 92 2 q.length (encL inp q)) (y := .im q.length (encL inp q)) rfl rfl (by simp only [setN, Eng.hard, hardL_pl (encL_pl (f := inp) q)]) ?_
  refine go3 ?_
  refine WC.loopS (S := Nat × List Bool) (fun t => [(7, bools t.2), (8, .im s.length (encL eI s)), (19, .im q.length (encL inp q)), (20, i64 q.length), (21, i64 t.1)]) (fun t => t.1 ≤ q.length ∧ t.2 ++ bitsL (q.drop t.1) (s.drop t.1) = bitsL q s) (fun t => q.length - t.1) (0, []) (.cons rfl (.cons rfl (.cons rfl (.cons rfl (.cons rfl .nil))))) ⟨Nat.zero_le _, rfl⟩ ?_
  rintro ⟨i, m⟩ ⟨g1, g2⟩
  dsimp only at g1 g2 ⊢
  refine go3 ?_
  refine WO.cmp rfl rfl rfl rfl rfl (fun h3 => ?_) (fun h3 => ?_)
  · have hi : i < q.length := by omega
    have hi2 : i < s.length := by omega
    have hm : q.getD i ⟨0, 0⟩ ∈ q := by simp [List.getD_eq_getElem?_getD, hi]
    obtain ⟨a1, a2⟩ := hcm _ hm
    have d3 := (InL.iff.1 hin).2 i hi2
    rw [bitsL_drop hi hi2] at g2
    refine go3 ?_
    refine WO.ixN (f := inp) ⟨0, 0⟩ rfl rfl rfl hi rfl ?_
    generalize q.getD i ⟨0, 0⟩ = x at *
    obtain ⟨d1, d2⟩ := bitsN8 a2
    refine go3 ?_
    refine WO.call rfl rfl rfl (implBitsOf x.max (by omega) (by omega)) rfl rfl ?_
    obtain ⟨N, hN⟩ : ∃ N : Nat, bitsN x.max.toNat = N := ⟨(bitsN x.max.toNat).toNat, by omega⟩
    rw [hN] at d1 d2 g2 ⊢
    rw [Int.toNat_natCast] at g2
    refine go3 ?_
    refine WC.loopS (S := Nat × List Bool) (fun t => [(7, bools t.2), (8, .im s.length (encL eI s)), (9, i64 i), (11, i64 ((t.1 : Int) - 1)), (19, .im q.length (encL inp q)), (20, i64 q.length), (21, i64 i)]) (fun t => t.1 ≤ N ∧ t.2 ++ (bitsOf (s.getD i 0) t.1 ++ bitsL (q.drop (i + 1)) (s.drop (i + 1))) = bitsL q s) (fun t => t.1) (N, m) (.cons rfl (.cons rfl (.cons rfl (.cons rfl (.cons rfl (.cons rfl (.cons rfl .nil))))))) ⟨Nat.le_refl _, g2⟩ ?_
    clear g2
    rintro ⟨k, m⟩ ⟨f1, f2⟩
    dsimp only at f1 f2 ⊢
    refine go3 ?_
    refine WO.cmp rfl rfl rfl rfl rfl (fun h4 => ?_) (fun h4 => ?_)
    · obtain ⟨j, rfl⟩ : ∃ j, k = j + 1 := ⟨k - 1, by omega⟩
      have hj : ((j + 1 : Nat) : Int) - 1 = (j : Int) := by omega
      have hml : m.length ≤ 10 := by have := congrArg List.length f2; simp only [List.length_append] at this; omega
      rw [hj]
      refine go3 ?_
      refine WO.ixN (f := eI) 0 rfl rfl rfl hi2 rfl ?_
      rw [bitsOf] at f2
      generalize s.getD i 0 = v at *
      have e2 : 0 ≤ v / 2 ^ j ∧ v / 2 ^ j ≤ 255 := ⟨Int.ediv_nonneg d3.1 (Int.le_of_lt (Int.pow_pos (by decide))), by have := Int.ediv_le_self (2 ^ j) d3.1; omega⟩
      refine go3 ?_
      refine WO.shr (c := v / 2 ^ j) rfl rfl rfl (by omega) (shr_nat (by omega)) rfl ?_
      refine WO.binG (op := .and) (k := .i64) (c := .int .i64 (andI (v / 2 ^ j) 1)) rfl rfl rfl rfl rfl rfl ?_
      rw [and_one e2.1 e2.2]
      refine WO.q rfl (QE.cmp (decide (v / 2 ^ j % 2 = 1)) rfl rfl rfl (by simp)) rfl rfl ?_
      generalize decide (v / 2 ^ j % 2 = 1) = c at *
      refine WO.bsA (us := [bl c]) (cs := [bl c]) rfl rfl rfl rfl rfl (by kernel_rfl) rfl ?_
      refine WO.hard (r := 43) (p := []) (x := .ow 4 1 1 [bl c]) (y := .im 1 [bl c]) rfl rfl rfl ?_
      refine WO.apVI rfl rfl rfl (encL_length _) rfl rfl rfl (by unfold maxLen; omega) (by omega) rfl ?_
      rw [bool_app]
      refine WO.cln 7 ?_
      refine go3 ?_
      exact lpK.mk (j, m ++ [c]) (.cons rfl (.cons rfl (.cons rfl (.cons rfl (.cons rfl (.cons rfl (.cons rfl .nil))))))) ⟨by dsimp only; omega, by dsimp only; rw [← f2]; simp⟩ (show j < j + 1 by omega)
    · have : k = 0 := by omega
      subst this
      refine go3 ?_
      exact lpK.mk (i + 1, m) (.cons rfl (.cons rfl (.cons rfl (.cons rfl (.cons rfl .nil))))) ⟨hi, f2⟩ (show q.length - (i + 1) < q.length - i by omega)
  · have : i = q.length := by omega
    subst this
    rw [List.drop_length] at g2
    simp only [bitsL, List.append_nil] at g2
    subst g2
    refine go3 ?_
    exact retO rfl rfl (encL_length _) rfl rfl rfl
theorem implInputBits (p : Pr) (a b : List Int) (hB : PB p) (h : StOk p a b) : Ev Try.prog X (.fn 27 [.ag (prR p), .im a.length (encL eI a), .im b.length (encL eI b)] (bools (bitsL (p.lows ++ p.secs) (a ++ b))) [.dead, .dead, .dead]) := by
  refine Ev.fnW (env := [(0, .ag (prR p)), (1, .im a.length (encL eI a)), (2, .im b.length (encL eI b))]) Try.func27 rfl nm_impl_InputBits rfl rfl (by kernel_rfl) (.cons rfl (.cons rfl (.cons rfl .nil))) ?_
  refine go3 ?_
  refine WO.call rfl rfl rfl (implStartOf p a b hB h) rfl rfl ?_
  refine WO.mvR rfl (.move _) rfl rfl rfl ?_
  refine WO.extR rfl rfl rfl rfl rfl ?_
  refine WO.extR rfl rfl rfl rfl rfl ?_
  refine go3 ?_
  refine WO.stG (vs := enO (stV p a b)) rfl rfl rfl (takeAgP (r := 13) (p := [0]) (cs := enO (stV p a b)) rfl (whL_enO _) rfl) rfl rfl rfl rfl ?_
  refine go3 ?_
  refine WO.callF rfl (.cons (frzA rfl rfl) (.cons (.plain _ rfl) (.cons (.plain _ rfl) .nil))) (bitsAt p a b (CB.of h.1.i h.1.w8) (h.2.1.app h.2.2)) (by simp only [noIm, noIm_eB]) rfl rfl ?_
  refine go3 ?_
  exact retO rfl rfl (encL_length _) rfl rfl rfl
theorem implInputBitsN (p : Pr) (a b : List Int) (hB : PB p) (ha : a.length ≤ 4194304) (hb : b.length ≤ 4194304) (h : ¬ StOk p a b) : Ev Try.prog X (.fn 27 [.ag (prR p), .im a.length (encL eI a), .im b.length (encL eI b)] .nl [.dead, .dead, .dead]) := by
  refine Ev.fnW (env := [(0, .ag (prR p)), (1, .im a.length (encL eI a)), (2, .im b.length (encL eI b))]) Try.func27 rfl nm_impl_InputBits rfl rfl (by kernel_rfl) (.cons rfl (.cons rfl (.cons rfl .nil))) ?_
  refine go3 ?_
  refine WO.call rfl rfl rfl (implStartOfN p a b hB ha hb h) rfl rfl ?_
  refine go3 ?_
  exact retP rfl rfl rfl rfl rfl
end Go.Eng.C

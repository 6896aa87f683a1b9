/- The law FnNumbers, walked by the engine. -/
import Derived.Test.YtdihagagelngiaaEngWi
import Derived.Test.YtdihagagelngiaaEngXp
namespace Go.Eng.C
open Go Go.Eng Go.RowKit Go.Proofs
set_option linter.unusedVariables false
set_option linter.unusedSimpArgs false
set_option maxRecDepth 10000
theorem nm_laws_FnNumbers : (Try.f4.name == "runtime.NumGoroutine") = false := by decide
variable {X : FuncId → List AV → AV → List AV → Prop}
theorem InL.split : ∀ {l m : List Inp} {u : List Int}, InL (l ++ m) u → InL l (u.take l.length) ∧ InL m (u.drop l.length)
  | [], m, u, h => ⟨by simp [InL], by simpa using h⟩
  | x :: l, m, a :: u, h => by
    obtain ⟨h1, h2⟩ := InL.split (l := l) (m := m) (u := u) h.2
    exact ⟨⟨h.1, h1⟩, h2⟩
  | x :: l, m, [], h => h.elim
/-- Two lists of truth values are one where all their places are. -/
theorem bools_eq {x y : List Bool} (h : x.length = y.length) : x = y ↔ ∀ j < x.length, x.getD j false = y.getD j false := by
  refine ⟨fun e j _ => by rw [e], fun e => List.ext_getElem h fun j h1 h2 => ?_⟩
  have := e j h1
  simpa [List.getD_eq_getElem?_getD, h1, h2] using this
set_option maxHeartbeats 40000000 in
theorem fnNumbers (bs : List Int) (hb : ∀ b ∈ bs, 0 ≤ b ∧ b ≤ 255) : Ev Try.prog X (.fn 4 [.im bs.length (encL eU8 bs)] (bl true) [.dead]) := by
  refine Ev.fnW (env := [(0, .im bs.length (encL eU8 bs))]) Try.func4 rfl nm_laws_FnNumbers rfl rfl (by kernel_rfl) (.cons rfl .nil) ?_
  refine go3 ?_
  refine WO.callB rfl rfl rfl (big bs.length (encL eU8 bs)) rfl (fun hl => ?_) (fun hl => ?_)
  · refine go3 ?_
    exact retV rfl rfl rfl rfl
  refine go3 ?_
  obtain ⟨res, fin, hM, h, rfl, rfl⟩ := roll (X := X) bs 11 (by omega)
  refine WO.call rfl rfl rfl hM rfl rfl ?_
  clear hM
  refine go3 ?_
  have hD : DOk bs 0 := ⟨hb, by omega, by omega, by omega⟩
  obtain ⟨res, fin, hM, p, i', h', rfl, rfl, hD, hp⟩ := program (X := X) bs 0 h hD
  refine WO.callD rfl rfl rfl rfl rfl hM rfl rfl rfl rfl ?_
  clear hM
  refine go3 ?_
  have hB := hp.b
  have hok := hp.ok
  have hc := CB.of hok.i hok.w8
  have hc2 := hc.all
  have hqn := hc.n
  have hcm : ∀ x ∈ p.lows ++ p.secs, 0 ≤ x.max := fun x hx => (hc.m x hx).1
  have hsb := hc.b
  have hsn := sumBits_nn (p.lows ++ p.secs)
  have hll : (p.lows ++ p.secs).length = p.lows.length + p.secs.length := List.length_append
  have c1 := implInputsIn (X := X) p hB hok
  have c2 := specInputsIn (X := X) p hB hok
  have c3 := implBitsIn (X := X) p hB hok
  have c4 := specBitsIn (X := X) p hB hok
  have c5 := implInputAtN (X := X) p hB (cntL (p.lows ++ p.secs)) (fun h => by omega)
  have cA := fun (n : Int) (h0 : 0 ≤ n) (h1 : n < cntL (p.lows ++ p.secs)) => implInputAt (X := X) p hB hok n h0 h1
  have cS := fun (n : Int) => InL.split (atL_in (l := p.lows ++ p.secs) n hcm)
  have cN := fun (n : Int) => implNumberOf (X := X) p ((atL (p.lows ++ p.secs) n).take p.lows.length) ((atL (p.lows ++ p.secs) n).drop p.lows.length) hB ⟨hok, cS n⟩
  have cB := fun (n : Int) => implInputBits (X := X) p ((atL (p.lows ++ p.secs) n).take p.lows.length) ((atL (p.lows ++ p.secs) n).drop p.lows.length) hB ⟨hok, cS n⟩
  simp only [List.take_append_drop] at cN cB
  have hnum := fun (n : Int) (h0 : 0 ≤ n) (h1 : n < cntL (p.lows ++ p.secs)) => numL_at (l := p.lows ++ p.secs) hcm h0 h1
  have hin := fun (n : Int) => atL_in (l := p.lows ++ p.secs) n hcm
  have l1 := fun (n : Int) => (cS n).1.len
  have l2 := fun (n : Int) => (cS n).2.len
  have hbl := fun (n : Int) => bitsL_len (hin n)
  generalize cntL (p.lows ++ p.secs) = M at *
  generalize sumBits (p.lows ++ p.secs) = S at *
  refine WO.call rfl rfl rfl c1 rfl rfl ?_
  refine go3 ?_
  refine WC.regionDd ⟨[[], [], [1], [0, 1, 2], [0, 1, 2, 3], [0, 1, 2, 3, 4], [0, 1, 2, 3, 4, 5], [0, 1, 2, 3, 4], [0, 1, 2, 3, 4, 5, 6, 7], [0, 1, 2, 3, 4, 5, 6, 7, 8], [0, 1, 2, 3, 4, 5, 6, 7, 8, 9]], [0, 1, 2, 3, 4, 5, 6, 7, 9, 10], [], [29, 30, 31, 32, 33, 34, 35, 36, 38, 39], [0, 1, 2, 3, 4, 5, 6, 7, 8, 9, 10], [([30, 31], [30, 31], false), ([29], [29], false), ([29], [29], false), ([], [], false), ([], [], false), ([36], [36], false), ([36], [36], false), ([34, 35], [34, 35], false), ([], [], false), ([], [], false), ([], [], false)]⟩ (by kernel_rfl) ?_
  refine go3 ?_
  refine WD.q rfl rfl rfl rfl rfl (QE.call rfl rfl c2) rfl rfl rfl ?_
  refine go3 ?_
  refine WD.q rfl rfl rfl rfl rfl (QE.call rfl rfl c3) rfl rfl rfl ?_
  refine go3 ?_
  refine WO.call rfl rfl rfl c4 rfl rfl ?_
  refine go3 ?_
  refine WO.dice rfl rfl rfl rfl hD (by omega) rfl rfl (fun n i h hD n0 n1 => ?_)
  refine go3 ?_
  refine WO.dice rfl rfl rfl rfl hD (by omega) rfl rfl (fun m i h hD m0 m1 => ?_)
  refine go3 ?_
  have cn := cA n n0 n1; have cm := cA m m0 m1
  have cNn := cN n; have cNm := cN m
  rw [hnum n n0 n1] at cNn
  rw [hnum m m0 m1] at cNm
  have cBn := cB n; have cBm := cB m
  have hxy : bitsL (p.lows ++ p.secs) (atL (p.lows ++ p.secs) n) = bitsL (p.lows ++ p.secs) (atL (p.lows ++ p.secs) m) ↔ n = m := by
    refine ⟨fun e => ?_, fun e => by rw [e]⟩
    have e := bitsL_inj (hin n) (hin m) e
    rw [← hnum n n0 n1, ← hnum m m0 m1, e]
  have lx := hbl n; have ly := hbl m
  generalize bitsL (p.lows ++ p.secs) (atL (p.lows ++ p.secs) n) = x at *
  generalize bitsL (p.lows ++ p.secs) (atL (p.lows ++ p.secs) m) = y at *
  have ln1 := l1 n; have ln2 := l2 n; have lm1 := l1 m; have lm2 := l2 m
  generalize (atL (p.lows ++ p.secs) n).take p.lows.length = u1 at *
  generalize (atL (p.lows ++ p.secs) n).drop p.lows.length = u2 at *
  generalize (atL (p.lows ++ p.secs) m).take p.lows.length = v1 at *
  generalize (atL (p.lows ++ p.secs) m).drop p.lows.length = v2 at *
  clear hbl cA cS cN cB hin hnum l1 l2 c1 c2 c4
  refine WO.call rfl rfl rfl cn rfl rfl ?_
  refine WO.mvR rfl (.move _) rfl rfl rfl ?_
  refine WO.extR rfl rfl rfl rfl rfl ?_
  refine WO.extR rfl rfl rfl rfl rfl ?_
  refine WO.extR rfl rfl rfl rfl rfl ?_
  refine WO.takeP rfl (.assign _) rfl rfl (encL_length _) rfl rfl rfl ?_
  refine WO.takeP rfl (.assign _) rfl rfl (encL_length _) rfl rfl rfl ?_
  refine WO.hard (r := 8) (p := []) (x := ints u1) (y := .im u1.length (encL eI u1)) rfl rfl (by simp only [setN, Eng.hard, hardL_pl (encL_pl (f := eI) _)]) ?_
  refine WO.hard (r := 9) (p := []) (x := ints u2) (y := .im u2.length (encL eI u2)) rfl rfl (by simp only [setN, Eng.hard, hardL_pl (encL_pl (f := eI) _)]) ?_
  refine go3 ?_
  refine WO.call rfl rfl rfl cm rfl rfl ?_
  refine WO.mvR rfl (.move _) rfl rfl rfl ?_
  refine WO.extR rfl rfl rfl rfl rfl ?_
  refine WO.extR rfl rfl rfl rfl rfl ?_
  refine WO.extR rfl rfl rfl rfl rfl ?_
  refine WO.takeP rfl (.assign _) rfl rfl (encL_length _) rfl rfl rfl ?_
  refine WO.takeP rfl (.assign _) rfl rfl (encL_length _) rfl rfl rfl ?_
  refine WO.hard (r := 11) (p := []) (x := ints v1) (y := .im v1.length (encL eI v1)) rfl rfl (by simp only [setN, Eng.hard, hardL_pl (encL_pl (f := eI) _)]) ?_
  refine WO.hard (r := 12) (p := []) (x := ints v2) (y := .im v2.length (encL eI v2)) rfl rfl (by simp only [setN, Eng.hard, hardL_pl (encL_pl (f := eI) _)]) ?_
  refine go3 ?_
  refine WO.call rfl rfl rfl c5 rfl rfl ?_
  refine go3 ?_
  refine WO.call rfl rfl rfl cNn rfl rfl ?_
  refine go3 ?_
  refine WO.call rfl rfl rfl cNm rfl rfl ?_
  refine go3 ?_
  refine WO.call rfl rfl rfl cBn rfl rfl ?_
  refine WO.hard (r := 95) (p := []) (x := bools x) (y := .im x.length (encL eB x)) rfl rfl (by simp only [setN, Eng.hard, hardL_pl (encL_pl (f := eB) _)]) ?_
  refine go3 ?_
  refine WO.call rfl rfl rfl cBm rfl rfl ?_
  refine WO.hard (r := 99) (p := []) (x := bools y) (y := .im y.length (encL eB y)) rfl rfl (by simp only [setN, Eng.hard, hardL_pl (encL_pl (f := eB) _)]) ?_
  refine go3 ?_
  have hlen : x.length = y.length := by omega
  refine WC.loopS (S := Nat × Bool) (fun s => [(4, .op (prR p)), (6, i64 n), (7, i64 m), (17, .im x.length (encL eB x)), (18, .im y.length (encL eB y)), (19, bl s.2), (20, i64 s.1)]) (fun s => s.1 ≤ x.length ∧ (s.2 = true ↔ ∀ j < s.1, x.getD j false = y.getD j false)) (fun s => x.length - s.1) (0, true) (.cons rfl (.cons rfl (.cons rfl (.cons rfl (.cons rfl (.cons rfl (.cons rfl .nil))))))) ⟨Nat.zero_le _, by simp⟩ ?_
  rintro ⟨i, c⟩ ⟨g1, g2⟩
  dsimp only at g1 g2 ⊢
  refine go3 ?_
  refine WO.cmp rfl rfl rfl rfl rfl (fun h3 => ?_) (fun h3 => ?_)
  · have hi : i < x.length := by omega
    have hi2 : i < y.length := by omega
    cases c with
    | true =>
      refine go3 ?_
      refine WC.regionDd ⟨[[], [], [0, 1], [0, 1, 2], [], [], [4, 5], [4, 5, 6], [0, 1, 2, 3, 4, 5, 6, 7], [0, 1, 2, 3, 4, 5, 6, 7, 8]], [0, 1, 2, 3, 4, 5, 6, 7, 8], [], [114, 115, 116, 117, 118, 119, 120, 121, 122], [0, 1, 2, 3, 4, 5, 6, 7, 8, 9], [([115, 118, 119, 120, 121], [115, 118, 119, 120, 121], false), ([114, 118, 119, 120, 121], [114, 118, 119, 120, 121], false), ([118, 119, 120, 121], [118, 119, 120, 121], false), ([118, 119, 120, 121], [118, 119, 120, 121], false), ([114, 115, 116, 117, 119], [114, 115, 116, 117, 119], false), ([114, 115, 116, 117, 118], [114, 115, 116, 117, 118], false), ([114, 115, 116, 117], [114, 115, 116, 117], false), ([114, 115, 116, 117], [114, 115, 116, 117], false), ([], [], false), ([], [], false)]⟩ (by kernel_rfl) ?_
      refine go3 ?_
      refine WD.q rfl rfl rfl rfl rfl (QE.ixN (f := eB) false rfl rfl hi) rfl rfl rfl ?_
      refine go3 ?_
      refine WD.q rfl rfl rfl rfl rfl (QE.ixN (f := eB) false rfl rfl hi2) rfl rfl rfl ?_
      refine go3 ?_
      refine WD.q rfl rfl rfl rfl rfl (QE.binT (by kernel_rfl) rfl rfl rfl) rfl rfl rfl ?_
      refine go3 ?_
      have g3 := g2.1 rfl
      exact lpK.mk (i + 1, x.getD i false == y.getD i false) (.cons rfl (.cons rfl (.cons rfl (.cons rfl (.cons rfl (.cons rfl (.cons rfl .nil))))))) ⟨hi, by
        rw [beq_iff_eq]
        refine ⟨fun e j hj => ?_, fun e => e i (by omega)⟩
        by_cases h : j < i
        · exact g3 j h
        · have : j = i := by omega
          subst this; exact e⟩ (show x.length - (i + 1) < x.length - i by omega)
    | false =>
      have hne : ¬ n = m := fun e => by
        have := (bools_eq hlen).1 (hxy.2 e)
        have := g2.2 fun j hj => this j (by omega)
        cases this
      refine go3 ?_
      refine WO.q rfl (QE.binT (c := true) (by kernel_rfl) rfl rfl rfl) rfl rfl ?_
      refine go3 ?_
      refine WO.call rfl rfl rfl c3 rfl rfl ?_
      refine go3 ?_
      exact retV rfl rfl rfl rfl
  · have : i = x.length := by omega
    subst this
    have hcm : c = true ↔ n = m := by rw [g2, ← bools_eq hlen]; exact hxy
    refine go3 ?_
    refine WO.q rfl (QE.cmp c rfl rfl rfl hcm) rfl rfl ?_
    refine go3 ?_
    refine WO.q rfl (QE.binT (c := true) (by kernel_rfl) rfl rfl (by cases c <;> rfl)) rfl rfl ?_
    refine go3 ?_
    refine WO.call rfl rfl rfl c3 rfl rfl ?_
    refine go3 ?_
    exact retV rfl rfl rfl rfl
theorem fnNumbersW (bs : List Int) (h : bs.length ≤ 9223372036854775807 ∧ ∀ b ∈ bs, (Lit.int .u8 b).wf = true) : Ev Try.prog X (.fn 4 [.im bs.length (encL eU8 bs)] (bl true) [.dead]) := fnNumbers bs (wf_u8 h)
end Go.Eng.C

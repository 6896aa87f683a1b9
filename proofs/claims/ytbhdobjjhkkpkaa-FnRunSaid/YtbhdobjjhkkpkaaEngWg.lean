/- Contracts of functions, by the engine: what a run starts from. -/
import Derived.Test.YtbhdobjjhkkpkaaEngXu
import Derived.Test.YtbhdobjjhkkpkaaEngXo
import Derived.Test.YtbhdobjjhkkpkaaEngB5
namespace Go.Eng.C
open Go Go.Eng Go.RowKit Go.Proofs
set_option linter.unusedVariables false
set_option linter.unusedSimpArgs false
set_option maxRecDepth 10000
variable {X : FuncId → List AV → AV → List AV → Prop}
theorem nm_impl_within : (Try.f123.name == "runtime.NumGoroutine") = false := by decide
theorem nm_impl_startAt : (Try.f124.name == "runtime.NumGoroutine") = false := by decide
theorem nm_impl_StartOf : (Try.f57.name == "runtime.NumGoroutine") = false := by decide
theorem nm_spec_StartOf : (Try.f160.name == "runtime.NumGoroutine") = false := by decide
theorem blq {r q : Bool} (h : r = q) : AV.sc (.bool q) = bl r := by rw [h]
theorem blF {r : Bool} {Q : Prop} (hr : r = true ↔ Q) (h : ¬ Q) : r = false := by rw [Bool.eq_false_iff]; exact fun h' => h (hr.1 h')
theorem within (s : List Int) (l : List Inp) (hs : s.length ≤ 4194304) {r : Bool} (hr : r = true ↔ InL l s) : Ev Try.prog X (.fn 123 [.im s.length (encL eI s), .im l.length (encL inp l)] (bl r) [.dead, .dead]) := by
  refine Ev.fnW (env := [(0, .im s.length (encL eI s)), (1, .im l.length (encL inp l))]) Try.func123 rfl nm_impl_within rfl rfl (by kernel_rfl) (.cons rfl (.cons rfl .nil)) ?_
  refine go3 ?_
  refine WO.cmp rfl rfl rfl rfl rfl (fun h => ?_) (fun h => ?_)
  · refine go3 ?_
    exact retV rfl (blq (blF hr (fun h' => by have := h'.len; omega))) rfl rfl
  have hsl : s.length = l.length := by omega
  refine go3 ?_
  refine WC.loopS (S := Nat) (fun i => [(1, .im l.length (encL inp l)), (12, .im s.length (encL eI s)), (13, i64 s.length), (14, i64 i)]) (fun i => i ≤ s.length ∧ ∀ j < i, 0 ≤ s.getD j 0 ∧ s.getD j 0 ≤ (l.getD j ⟨0, 0⟩).max) (fun i => s.length - i) 0 (.cons rfl (.cons rfl (.cons rfl (.cons rfl .nil)))) ⟨Nat.zero_le _, fun j hj => by omega⟩ ?_
  rintro i ⟨g1, g2⟩
  refine go3 ?_
  refine WO.cmp rfl rfl rfl rfl rfl (fun h3 => ?_) (fun h3 => ?_)
  · have hi : i < s.length := by omega
    have hi2 : i < l.length := by omega
    have no : ¬ (0 ≤ s.getD i 0 ∧ s.getD i 0 ≤ (l.getD i ⟨0, 0⟩).max) → r = false := fun h => blF hr (fun h' => h ((InL.iff.1 h').2 i hi))
    refine go3 ?_
    refine WO.ixN (f := eI) 0 rfl rfl rfl hi rfl ?_
    refine go3 ?_
    refine WO.cmp rfl rfl rfl rfl rfl (fun h4 => ?_) (fun h4 => ?_)
    · refine go3 ?_
      exact retV rfl (blq (no (by omega))) rfl rfl
    · refine go3 ?_
      refine WO.ixN (f := inp) ⟨0, 0⟩ rfl rfl rfl hi2 rfl ?_
      refine go3 ?_
      refine WO.cmp rfl rfl rfl rfl rfl (fun h5 => ?_) (fun h5 => ?_)
      · refine go3 ?_
        exact retV rfl (blq (no (by omega))) rfl rfl
      · refine go3 ?_
        have nx : i + 1 ≤ s.length ∧ ∀ j < i + 1, 0 ≤ s.getD j 0 ∧ s.getD j 0 ≤ (l.getD j ⟨0, 0⟩).max := ⟨hi, fun j hj => by
          by_cases e : j < i
          · exact g2 j e
          · have : j = i := by omega
            subst this; omega⟩
        exact lpK.mk (i + 1) (.cons rfl (.cons rfl (.cons rfl (.cons rfl .nil)))) nx (show s.length - (i + 1) < s.length - i by omega)
  · have : i = s.length := by omega
    subst this
    refine go3 ?_
    exact retV rfl (blq (hr.2 (InL.iff.2 ⟨hsl, g2⟩))) rfl rfl
/-- Values and cells, owned. -/
def enO (v : Vs) : List AV := [ints v.vars, .ow 23 1 v.cells.length (encL (eO 2 1 eI) v.cells)]
/-- What a run starts from. -/
def stV (p : Pr) (a b : List Int) : Vs := ⟨a ++ b ++ List.replicate p.temps.toNat 0, p.arrs.map fun n => List.replicate n.toNat 0⟩
theorem rowsO_app (l : List (List Int)) (c : List Int) : AV.ow 23 1 (l.length + 1) (encL (eO 2 1 eI) l ++ [ints c]) = .ow 23 1 (l ++ [c]).length (encL (eO 2 1 eI) (l ++ [c])) := by
  rw [List.length_append, encL_append]; rfl
theorem ints_app (a b : List Int) : AV.ow 2 1 (a.length + b.length) (encL eI a ++ encL eI b) = ints (a ++ b) := by
  rw [← encL_append, ← List.length_append]
theorem take_getI {l : List Int} {i : Nat} (h : i < l.length) : l.take (i + 1) = l.take i ++ [l.getD i 0] := by
  rw [List.take_add_one, List.getD_eq_getElem?_getD, List.getElem?_eq_getElem h]; rfl
theorem encO_len (l : List (List Int)) : (encL (eO 2 1 eI) l).length = l.length := by have := encL_length (f := eO 2 1 eI) (sz := 1) l; omega
set_option maxHeartbeats 16000000 in
theorem startAt (p : Pr) (a b : List Int) (ha : a.length ≤ 1048576) (hb : b.length ≤ 1048576) (t0 : 0 ≤ p.temps) (t1 : p.temps ≤ 6) (hr : p.arrs.length ≤ 2 ∧ ∀ n ∈ p.arrs, 1 ≤ n ∧ n ≤ 6) : Ev Try.prog X (.fn 124 [.ip (prR p), .im a.length (encL eI a), .im b.length (encL eI b)] (.ag (enO (stV p a b))) [.dead, .dead, .dead]) := by
  obtain ⟨T, hT⟩ : ∃ T : Nat, p.temps = T := ⟨p.temps.toNat, by omega⟩
  refine Ev.fnW (env := [(0, .ip (prR p)), (1, .im a.length (encL eI a)), (2, .im b.length (encL eI b))]) Try.func124 rfl nm_impl_startAt rfl rfl (by kernel_rfl) (.cons rfl (.cons rfl (.cons rfl .nil))) ?_
  refine go3 ?_
  refine WO.apI (cs := []) rfl rfl rfl rfl rfl (encL_length _) rfl (by unfold maxLen; omega) (by omega) rfl ?_
  rw [List.nil_append, Nat.zero_add]
  refine go3 ?_
  refine WO.apVI rfl rfl rfl (encL_length _) rfl (encL_length _) rfl (by unfold maxLen; omega) (by omega) rfl ?_
  rw [ints_app]
  refine WO.q rfl (QE.bld (cs := [.vw 14 [] 0 (a ++ b).length, .nl]) rfl) rfl rfl ?_
  refine go3 ?_
  refine WO.stG (env1 := (14, .dead) :: _) (vs := [ints (a ++ b), .nl]) rfl rfl rfl (.ag (tkV rfl (encL_length _) (.plain rfl (.nil _))) (.nil _)) rfl rfl rfl rfl ?_
  refine go3 ?_
  refine WC.castAt (r := 7) (p := [1]) (y := .op [ints (a ++ b), .ow 23 1 0 []]) 23 1 (by decide) rfl rfl ?_
  refine WC.regionDd ⟨[[], [0], [], [2], [2, 3], [2, 3, 4], [0, 1, 2, 3, 4, 5], [0, 1, 2, 3, 4, 5, 6], [0, 1, 2, 3, 4, 5, 6, 7]], [0, 1, 2, 3, 4, 5, 7], [], [16, 17, 18, 19, 20, 21, 23], [0, 1, 2, 3, 4, 5, 6, 7, 8], [([18, 19, 20, 21], [18, 19, 20, 21], false), ([18, 19, 20, 21], [18, 19, 20, 21], false), ([16, 17], [16, 17], false), ([16, 17], [16, 17], false), ([16, 17], [16, 17], false), ([16, 17], [16, 17], false), ([], [], false), ([], [], false), ([], [], false)]⟩ (by kernel_rfl) ?_
  refine go3 ?_
  refine WD.q rfl rfl rfl rfl rfl (QE.ldOw rfl rfl rfl) rfl rfl rfl ?_
  refine go3 ?_
  rw [hT]
  refine WO.apZP (m := T) (cs' := [.dead, .ow 23 1 0 []]) rfl rfl rfl rfl (encL_length _) rfl (by unfold maxLen; simp; omega) (by simp; omega) rfl rfl rfl ?_
  rw [show AV.ow 2 1 ((a ++ b).length + T) (encL eI (a ++ b) ++ encL eI (List.replicate T 0)) = ints (a ++ b ++ List.replicate T 0) by rw [← encL_append]; simp [ints]; omega]
  refine WO.cln 7 ?_
  refine go3 ?_
  refine WO.stOp (cs' := [ints (a ++ b ++ List.replicate T 0), .ow 23 1 0 []]) rfl rfl rfl rfl (encL_length _) rfl rfl rfl rfl rfl ?_
  refine go3 ?_
  obtain ⟨V, hV⟩ : ∃ V, V = a ++ b ++ List.replicate T 0 := ⟨_, rfl⟩
  have hvs : (stV p a b).vars = V := by rw [hV]; simp only [stV, hT, Int.toNat_natCast]
  rw [← hV]
  refine WC.loopS (S := Nat × List (List Int)) (fun s => [(0, .ip (prR p)), (6, .op [.nl, .nl]), (7, .op [ints V, .ow 23 1 s.2.length (encL (eO 2 1 eI) s.2)]), (27, .im p.arrs.length (encL eI p.arrs)), (28, i64 p.arrs.length), (29, i64 s.1)]) (fun s => s.1 ≤ p.arrs.length ∧ s.2 = (p.arrs.take s.1).map fun n => List.replicate n.toNat 0) (fun s => p.arrs.length - s.1) (0, []) (.cons rfl (.cons rfl (.cons rfl (.cons rfl (.cons rfl (.cons rfl .nil)))))) ⟨Nat.zero_le _, rfl⟩ ?_
  rintro ⟨i, rows⟩ ⟨g1, g2⟩
  dsimp only at g1 g2 ⊢
  have hrl : rows.length = i := by rw [g2]; simp; omega
  refine go3 ?_
  refine WO.cmp rfl rfl rfl rfl rfl (fun h3 => ?_) (fun h3 => ?_)
  · have hi : i < p.arrs.length := by omega
    obtain ⟨n0, n1⟩ := getD_in (q := fun n => 1 ≤ n ∧ n ≤ 6) hr.2 hi
    obtain ⟨M, hM⟩ : ∃ M : Nat, p.arrs.getD i 0 = M := ⟨(p.arrs.getD i 0).toNat, by omega⟩
    have htk := take_getI hi
    rw [hM] at htk
    refine go3 ?_
    refine WO.ixN (f := eI) 0 rfl rfl rfl hi rfl ?_
    rw [hM]
    refine go3 ?_
    refine WC.regionDd ⟨[[], [0], [], [2], [2, 3], [0, 1, 2, 3, 4], [0, 1, 2, 3, 4, 5], [0, 1, 2, 3, 4, 5, 6]], [0, 2, 3, 6], [(1, [7]), (4, [36])], [33, 34, 35, 36, 37, 39], [0, 1, 2, 3, 4, 5, 6, 7], [([35, 36, 37], [35, 36, 37, 36], true), ([35, 36, 37], [35, 36, 37, 36], true), ([33, 34], [33, 34, 7], true), ([33, 34], [33, 34, 7], true), ([33, 34], [33, 34, 7], true), ([], [], false), ([], [], false), ([], [], false)]⟩ (by kernel_rfl) ?_
    refine go3 ?_
    refine WD.gen [(7, .op [ints V, .ow 23 1 rows.length (encL (eO 2 1 eI) rows)]), (34, .vw 7 [1] 0 rows.length)] rfl rfl rfl rfl rfl ?_ rfl rfl rfl ⟨rfl, trivial⟩ rfl rfl (.cons _ (.cons _ (.nil _))) ?_
    · refine WO.q rfl (QE.ldOw rfl rfl rfl) rfl rfl ?_
      refine WO.re (r := 7) rfl ?_
      exact WO.nil (WK.mk' (.cons _ (.cons _ (.nil _))))
    refine go3 ?_
    refine WD.q rfl rfl rfl rfl rfl (QE.mk (f := eI) (n := M) 0 rfl rfl rfl (by omega) (by unfold maxLen; omega)) rfl rfl rfl ?_
    refine WD.gen [(37, .ow 23 1 1 [.ow 2 1 M (encL eI (List.replicate M 0))]), (36, .dead)] rfl rfl rfl rfl rfl ?_ rfl rfl rfl ⟨rfl, trivial⟩ rfl rfl (.cons _ (.cons _ (.nil _))) ?_
    · refine WO.b1 rfl rfl rfl (by rw [encL_len1]; simp) rfl rfl ?_
      exact WO.nil (WK.mk' (.cons _ (.cons _ (.nil _))))
    refine go3 ?_
    refine WO.apPM (cs' := [ints V, .dead]) rfl rfl rfl rfl (encL_length _) rfl rfl rfl rfl rfl (by unfold maxLen; omega) (by omega) rfl rfl rfl ?_
    rw [show AV.ow 2 1 M (encL eI (List.replicate M 0)) = ints (List.replicate M 0) by simp [ints], rowsO_app]
    refine WO.cln 7 ?_
    refine go3 ?_
    refine WO.stOp (cs' := [ints V, .ow 23 1 (rows ++ [List.replicate M 0]).length (encL (eO 2 1 eI) (rows ++ [List.replicate M 0]))]) rfl rfl rfl rfl (encL_length _) rfl rfl rfl rfl rfl ?_
    refine go3 ?_
    exact lpK.mk (i + 1, rows ++ [List.replicate M 0]) (.cons rfl (.cons rfl (.cons rfl (.cons rfl (.cons rfl (.cons rfl .nil)))))) ⟨hi, by dsimp only; rw [htk, List.map_append, ← g2]; simp⟩ (by dsimp only; omega)
  · have : i = p.arrs.length := by omega
    subst this
    rw [List.take_length] at g2
    have hc : (stV p a b).cells = rows := by rw [g2]; rfl
    have hen : enO (stV p a b) = [ints V, .ow 23 1 rows.length (encL (eO 2 1 eI) rows)] := by unfold enO; rw [hvs, hc]
    rw [hen]
    have hw : whL [ints V, .ow 23 1 rows.length (encL (eO 2 1 eI) rows)] = true := by simp [whL, whA, encL_len1, encO_len]
    refine go3 ?_
    refine WO.q rfl (QE.ldG rfl rfl rfl (L := [.vw 7 [0] 0 V.length, .vw 7 [1] 0 rows.length]) rfl) rfl rfl ?_
    refine WO.stG (env1 := (7, .op [.dead, .dead]) :: _) (vs := [ints V, .ow 23 1 rows.length (encL (eO 2 1 eI) rows)]) rfl rfl rfl (.ag (takeVr (r := 7) (cs := [ints V, .ow 23 1 rows.length (encL (eO 2 1 eI) rows)]) rfl hw) (.nil _)) rfl rfl rfl rfl ?_
    refine go3 ?_
    exact retCG rfl rfl rfl hw rfl rfl rfl
end Go.Eng.C

/- Contracts of functions, by the engine: folding, of the program: what is known. Printed by mk/mkfq.py. -/
import Derived.Test.YtbhdobjjhkkpkaaEngFo
import Derived.Test.YtbhdobjjhkkpkaaEngB7
import Derived.Test.YtbhdobjjhkkpkaaEngXu
import Derived.Test.YtbhdobjjhkkpkaaEngPf
namespace Go.Eng
open Go Go.RowKit
theorem retPPq {P : Program} {env : Env} {t t2 n : Nat} {ex : Ex} {fin : List AV} {res : AV} {a b : AV} (hx : ov (look env) (.tmp t) = a) (hy : ov (look env) (.tmp t2) = b) (ha : isPl a = true) (hb : isPl b = true) (hres : .tu [a, b] = res) (hf : fins n (look env) = fin) (hn : fin.all noRf = true) (he : ex = .normal ∨ ex = .ret := by simp) :
    (ex = .normal ∨ ex = .ret) ∧ ∃ az rs σ2, ResL P (look env) [.tmp t, .tmp t2] az ∧ TakeL (look env) az rs σ2 ∧ resOf rs = res ∧ fins n σ2 = fin ∧ fin.all noRf = true := by
  refine ⟨he, _, [a, b], look env, .tmp t (.tmp t2 .nil), ?_, hres, hf, hn⟩
  rw [hx, hy]; exact .plain ha (.plain hb (.nil _))
theorem ret0q {P : Program} {env : Env} {n : Nat} {fin : List AV} {ex : Ex} (hf : fins n (look env) = fin) (hn : fin.all noRf = true) (he : ex = .normal ∨ ex = .ret := by simp) :
    (ex = .normal ∨ ex = .ret) ∧ ∃ az rs σ2, ResL P (look env) [] az ∧ TakeL (look env) az rs σ2 ∧ resOf rs = .tu [] ∧ fins n σ2 = fin ∧ fin.all noRf = true :=
  ⟨he, [], [], look env, .nil, .nil _, rfl, hf, hn⟩
theorem retOV {P : Program} {env : Env} {t t2 n : Nat} {ex : Ex} {fin : List AV} {res : AV} {e sz m r : Nat} {cs : List AV} {u : Value} (hx : ov (look env) (.tmp t) = .vw r [] 0 m) (hr : look env r = .ow e sz m cs) (hl : cs.length = m * sz) (hy : ov (look env) (.tmp t2) = .sc u) (hres : .tu [.ow e sz m cs, .sc u] = res) (hf : fins n (look ((r, .dead) :: env)) = fin) (hn : fin.all noRf = true) (he : ex = .normal ∨ ex = .ret := by simp) :
    (ex = .normal ∨ ex = .ret) ∧ ∃ az rs σ2, ResL P (look env) [.tmp t, .tmp t2] az ∧ TakeL (look env) az rs σ2 ∧ resOf rs = res ∧ fins n σ2 = fin ∧ fin.all noRf = true := by
  refine ⟨he, _, [.ow e sz m cs, .sc u], look ((r, .dead) :: env), .tmp t (.tmp t2 .nil), ?_, hres, hf, hn⟩
  rw [hx, hy]; exact tkV hr hl (.plain rfl (.nil _))
end Go.Eng
namespace Go.Eng.C
open Go Go.Eng Go.RowKit Go.Proofs
set_option linter.unusedVariables false
set_option linter.unusedSimpArgs false
set_option maxRecDepth 10000
variable {X : FuncId → List AV → AV → List AV → Prop}
theorem nm_impl_folder_known : (Try.f196.name == "runtime.NumGoroutine") = false := by decide
/-- Where parts begin. -/
def sts : List (List Tm) → Nat → List Int
  | [], _ => []
  | s :: S, k => (k : Int) :: sts S (k + s.length)
theorem sts_len : ∀ (S : List (List Tm)) (k : Nat), (sts S k).length = S.length
  | [], _ => rfl
  | s :: S, k => by simp only [sts, List.length_cons, sts_len S]
theorem sts_get : ∀ {S : List (List Tm)} {k i : Nat}, i < S.length → (sts S k).getD i 0 = ((k + (S.take i).flatten.length : Nat) : Int)
  | [], k, i, h => by simp at h
  | s :: S, k, 0, h => by simp [sts]
  | s :: S, k, i + 1, h => by
    have := sts_get (S := S) (k := k + s.length) (i := i) (by simpa using h)
    simp only [sts, List.getD_cons_succ, List.take_succ_cons, List.flatten_cons, List.length_append]
    rw [this]; omega
theorem sts_app : ∀ (S : List (List Tm)) (k : Nat) (s : List Tm), sts (S ++ [s]) k = sts S k ++ [((k + S.flatten.length : Nat) : Int)]
  | [], k, s => by simp [sts]
  | u :: S, k, s => by simp only [List.cons_append, sts, sts_app S, List.flatten_cons, List.length_append, Nat.add_assoc]
theorem sts_take : ∀ (S : List (List Tm)) (k i : Nat), (sts S k).take i = sts (S.take i) k
  | [], k, i => by simp [sts]
  | s :: S, k, 0 => by simp [sts]
  | s :: S, k, i + 1 => by simp only [sts, List.take_succ_cons, sts_take S]
theorem fl_get : ∀ {S : List (List Tm)} {i : Nat}, i < S.length → 0 < (S.getD i []).length → S.flatten.getD (S.take i).flatten.length zt = (S.getD i []).getD 0 zt
  | [], i, h, _ => by simp at h
  | s :: S, 0, h, h2 => by
    simp only [List.getD_cons_zero] at h2 ⊢
    simp [List.getD_eq_getElem?_getD, List.getElem?_append_left h2]
  | s :: S, i + 1, h, h2 => by
    have := fl_get (S := S) (i := i) (by simpa using h) (by simpa using h2)
    simp only [List.take_succ_cons, List.flatten_cons, List.length_append, List.getD_cons_succ]
    rw [← this, List.getD_eq_getElem?_getD, List.getElem?_append_right (by omega), ← List.getD_eq_getElem?_getD]
    congr 1; omega
theorem fl_next : ∀ {S : List (List Tm)} {i : Nat}, i < S.length → (S.take (i + 1)).flatten.length = (S.take i).flatten.length + (S.getD i []).length
  | [], i, h => by simp at h
  | s :: S, 0, h => by simp
  | s :: S, i + 1, h => by
    have := fl_next (S := S) (i := i) (by simpa using h)
    simp only [List.take_succ_cons, List.flatten_cons, List.length_append, List.getD_cons_succ] at this ⊢
    omega
theorem fl_le (S : List (List Tm)) (i : Nat) : (S.take i).flatten.length ≤ S.flatten.length := by
  conv => rhs; rw [← List.take_append_drop i S]
  rw [List.flatten_append, List.length_append]; omega
def nv (s : List Tm) : Int := (s.getD 0 zt).n
/-- The cells of a folder, only read, and owned. -/
def foR (p : Pr) (S : List (List Tm)) : List AV := [.ip (prR p), .im S.flatten.length (encL tm S.flatten), .im (sts S 0).length (encL eI (sts S 0))]
def fo (p : Pr) (S : List (List Tm)) : List AV := [.ip (prR p), .ow 93 2 S.flatten.length (encL tm S.flatten), .ow 3 1 (sts S 0).length (encL eI (sts S 0))]
/-- What known gives. -/
def knR (S : List (List Tm)) (j : Nat) : AV := if ∀ s ∈ S.drop j, isN s then .tu [ints ((S.drop j).map nv), bl true] else .tu [.nl, bl false]
theorem kn_no {S : List (List Tm)} {j i : Nat} (hj : j ≤ i) (hi : i < S.length) (h : ¬ isN (S.getD i [])) : knR S j = .tu [.nl, bl false] := by
  unfold knR
  rw [if_neg]
  intro hh
  refine h (hh _ ?_)
  rw [List.mem_iff_getElem]
  exact ⟨i - j, by rw [List.length_drop]; omega, by rw [List.getElem_drop]; simp [List.getD_eq_getElem?_getD, hi, show j + (i - j) = i by omega]⟩
theorem tk_next {S : List (List Tm)} {j i : Nat} (hj : j ≤ i) (hi : i < S.length) : (S.take (i + 1)).drop j = (S.take i).drop j ++ [S.getD i []] := by
  rw [List.take_add_one, List.getElem?_eq_getElem hi, List.drop_append_of_le_length (by rw [List.length_take]; omega)]
  simp [List.getD_eq_getElem?_getD, hi]
set_option maxHeartbeats 8000000 in
theorem known (p : Pr) (S : List (List Tm)) (j : Nat) (hj : j ≤ S.length) (hS : S.length ≤ 3000) (hF : S.flatten.length ≤ 6000) : Ev Try.prog X (.fn 196 [.ip (foR p S), i64 j] (knR S j) [.dead, .dead]) := by
  have hsl := sts_len S 0
  refine Ev.fnW (env := [(0, .ip (foR p S)), (1, i64 j)]) Try.func196 rfl nm_impl_folder_known rfl rfl (by kernel_rfl) (.cons rfl (.cons rfl .nil)) ?_
  refine go3 ?_
  refine WC.loopS (S := Nat × List Int) (fun u => [(0, .ip (foR p S)), (6, ints u.2), (7, i64 u.1)]) (fun u => (j ≤ u.1 ∧ u.1 ≤ S.length) ∧ u.2 = ((S.take u.1).drop j).map nv ∧ ∀ s ∈ (S.take u.1).drop j, isN s) (fun u => S.length - u.1) (j, []) (.cons rfl (.cons rfl (.cons rfl .nil))) ⟨⟨Nat.le_refl _, hj⟩, by simp, by simp⟩ ?_
  rintro ⟨i, v⟩ ⟨g1, g2, g3⟩
  dsimp only at g1 g2 g3 ⊢
  refine go3 ?_
  refine WO.cmp rfl rfl rfl rfl rfl (fun h3 => ?_) (fun h3 => ?_)
  case refine_2 =>
    have hi : i = S.length := by omega
    subst hi
    rw [List.take_length] at g2 g3
    unfold knR
    rw [if_pos g3, ← g2]
    refine go3 ?_
    exact retOV rfl rfl (encL_length _) rfl rfl rfl rfl
  have hi : i < S.length := by omega
  have hgi := sts_get (S := S) (k := 0) hi
  have hnx := fl_next hi
  have hle := fl_le S (i + 1)
  have hvl : v.length ≤ 3000 := by rw [g2, List.length_map, List.length_drop, List.length_take]; omega
  have nxt : isN (S.getD i []) → (j ≤ i + 1 ∧ i + 1 ≤ S.length) ∧ v ++ [((S.getD i []).getD 0 zt).n] = ((S.take (i + 1)).drop j).map nv ∧ ∀ s ∈ (S.take (i + 1)).drop j, isN s := fun h => by
    rw [tk_next g1.1 hi, List.map_append, g2]
    refine ⟨⟨by omega, by omega⟩, rfl, fun s hs => ?_⟩
    rcases List.mem_append.1 hs with h1 | h1
    · exact g3 s h1
    · simp only [List.mem_singleton] at h1; subst h1; exact h
  obtain ⟨b, hb⟩ : ∃ b, b = (S.take i).flatten.length := ⟨_, rfl⟩
  rw [Nat.zero_add, ← hb] at hgi
  rw [← hb] at hnx
  have hi2 : i < (sts S 0).length := by omega
  refine go3 ?_
  refine WO.ixN (f := eI) 0 rfl rfl rfl hi2 rfl ?_
  rw [hgi]
  refine go3 ?_
  by_cases hn : i + 1 < S.length
  · have hgn := sts_get (S := S) (k := 0) hn
    rw [Nat.zero_add, hnx] at hgn
    have hn2 : i + 1 < (sts S 0).length := by omega
    refine go3 ?_
    refine WO.ixN (f := eI) (i := i + 1) 0 rfl rfl rfl hn2 rfl ?_
    rw [hgn]
    by_cases hs1 : (S.getD i []).length = 1
    · have hbl : b < S.flatten.length := by omega
      have hf : S.flatten.getD b zt = (S.getD i []).getD 0 zt := by rw [hb]; exact fl_get hi (by omega)
      refine go3 ?_
      refine WO.ixN (f := tm) (i := b) zt rfl rfl rfl hbl rfl ?_
      rw [hf]
      by_cases h0 : ((S.getD i []).getD 0 zt).op = 0
      · have hin : isN (S.getD i []) := ⟨hs1, h0⟩
        refine go3 ?_
        refine WO.ixN (f := tm) (i := b) zt rfl rfl rfl hbl rfl ?_
        rw [hf]
        refine go3 ?_
        refine WO.bsA (us := [i64 ((S.getD i []).getD 0 zt).n]) (cs := [i64 ((S.getD i []).getD 0 zt).n]) rfl rfl rfl rfl rfl (by kernel_rfl) rfl ?_
        refine WO.hard (r := 73) (p := []) (x := .ow 2 1 1 [i64 ((S.getD i []).getD 0 zt).n]) (y := .im 1 [i64 ((S.getD i []).getD 0 zt).n]) rfl rfl rfl ?_
        refine WO.apVI rfl rfl rfl (encL_length _) rfl rfl rfl (by unfold maxLen; omega) (by omega) rfl ?_
        rw [num_app]
        refine WO.cln 6 ?_
        refine go3 ?_
        rw [show (i : Int) + 1 = ((i + 1 : Nat) : Int) by omega]
        exact lpK.mk (i + 1, v ++ [((S.getD i []).getD 0 zt).n]) (.cons rfl (.cons rfl (.cons rfl .nil))) (nxt hin) (show S.length - (i + 1) < S.length - i by omega)
      · rw [kn_no g1.1 hi (fun h => h0 h.2)]
        refine go3 ?_
        exact retPPq rfl rfl rfl rfl rfl rfl rfl
    · rw [kn_no g1.1 hi (fun h => hs1 h.1)]
      refine go3 ?_
      exact retPPq rfl rfl rfl rfl rfl rfl rfl
  · have he : S.flatten.length = b + (S.getD i []).length := by rw [← hnx, show i + 1 = S.length by omega, List.take_length]
    by_cases hs1 : (S.getD i []).length = 1
    · have hbl : b < S.flatten.length := by omega
      have hf : S.flatten.getD b zt = (S.getD i []).getD 0 zt := by rw [hb]; exact fl_get hi (by omega)
      refine go3 ?_
      refine WO.ixN (f := tm) (i := b) zt rfl rfl rfl hbl rfl ?_
      rw [hf]
      by_cases h0 : ((S.getD i []).getD 0 zt).op = 0
      · have hin : isN (S.getD i []) := ⟨hs1, h0⟩
        refine go3 ?_
        refine WO.ixN (f := tm) (i := b) zt rfl rfl rfl hbl rfl ?_
        rw [hf]
        refine go3 ?_
        refine WO.bsA (us := [i64 ((S.getD i []).getD 0 zt).n]) (cs := [i64 ((S.getD i []).getD 0 zt).n]) rfl rfl rfl rfl rfl (by kernel_rfl) rfl ?_
        refine WO.hard (r := 73) (p := []) (x := .ow 2 1 1 [i64 ((S.getD i []).getD 0 zt).n]) (y := .im 1 [i64 ((S.getD i []).getD 0 zt).n]) rfl rfl rfl ?_
        refine WO.apVI rfl rfl rfl (encL_length _) rfl rfl rfl (by unfold maxLen; omega) (by omega) rfl ?_
        rw [num_app]
        refine WO.cln 6 ?_
        refine go3 ?_
        rw [show (i : Int) + 1 = ((i + 1 : Nat) : Int) by omega]
        exact lpK.mk (i + 1, v ++ [((S.getD i []).getD 0 zt).n]) (.cons rfl (.cons rfl (.cons rfl .nil))) (nxt hin) (show S.length - (i + 1) < S.length - i by omega)
      · rw [kn_no g1.1 hi (fun h => h0 h.2)]
        refine go3 ?_
        exact retPPq rfl rfl rfl rfl rfl rfl rfl
    · rw [kn_no g1.1 hi (fun h => hs1 h.1)]
      refine go3 ?_
      exact retPPq rfl rfl rfl rfl rfl rfl rfl
end Go.Eng.C

/- Part of the pure side: StmtS. -/
import Derived.Test.YtbjmhdoagjmmcaaPCoreg
import Derived.Test.YtbjmhdoagjmmcaaPCoreg5
import Derived.Test.YtbjmhdoagjmmcaaPCoreg7
import Derived.Test.YtbjmhdoagjmmcaaPCoreg8
import Derived.Test.YtbjmhdoagjmmcaaTerm
import Derived.Test.YtbjmhdoagjmmcaaFTermS
set_option linter.unusedVariables false
set_option linter.unusedSimpArgs false
namespace Go.Proofs.Ytbjmhdoagjmmcaa.Pure
open Go.RowKit Go.Proofs.Ytbjmhdoagjmmcaa.PCore Go.Proofs.YtbjmhdoagjmmcaaW.PrintWords Go.Proofs.YtbjmhdoagjmmcaaW.PrintLast Go.Proofs.YtbjmhdoagjmmcaaW.PrintMore Go.Proofs.Ytbjmhdoagjmmcaa.Bs

theorem rdSt_at (l : List S42) (i : Nat) (h : i < l.length) : rd_T42 l (i : Int) = l[i] := by
  simp only [rd_T42, Int.toNat_natCast, List.getD_eq_getElem?_getD, List.getElem?_eq_getElem h, Option.getD_some]
theorem rdSl_at (l : List S64) (i : Nat) (h : i < l.length) : rd_T64 l (i : Int) = l[i] := by
  simp only [rd_T64, Int.toNat_natCast, List.getD_eq_getElem?_getD, List.getElem?_eq_getElem h, Option.getD_some]
def stL (s : S64) : S42 := ⟨s.f0, s.f1, s.f2.map tmL, s.f3.map tmL⟩
def okSt (s : S64) : Prop := s.f2.length ≤ 1048576 ∧ s.f3.length ≤ 1048576
theorem szStmt_ex (a b : Int) (l2 l3 : List S102) (n : Int) (h0 : 0 ≤ n) (h1 : n ≤ 1048576) (hl2 : l2.length ≤ 9223372036854775807) (hl3 : l3.length ≤ 9223372036854775807) :
    ∃ r, laws_szStmt.f a b l2 l3 n = some r ∧ (r < 0 ∨ 0 ≤ r ∧ r ≤ n ∧ l2.length ≤ 1048576 ∧ l3.length ≤ 1048576) := by
  simp only [laws_szStmt.f, szTermS_eq l2 n h0 h1 hl2, Option.bind_some]
  by_cases c : n - (l2.length : Int) < 0
  · simp only [if_pos c, if_pos (show (-1 : Int) < 0 by decide)]
    exact ⟨_, rfl, .inl (by decide)⟩
  simp only [if_neg c, szTermS_eq l3 (n - (l2.length : Int)) (by omega) (by omega) hl3, Option.bind_some]
  by_cases c3 : n - (l2.length : Int) - (l3.length : Int) < 0
  · simp only [if_pos c3, if_pos (show (-1 : Int) < 0 by decide)]
    exact ⟨_, rfl, .inl (by decide)⟩
  · simp only [if_neg c3]
    exact ⟨_, rfl, .inr ⟨by omega, by omega, by omega, by omega⟩⟩
theorem szStmtS_l (l : List S64) (hl : l.length ≤ 1048576) (hq : ∀ s ∈ l, s.f2.length ≤ 9223372036854775807 ∧ s.f3.length ≤ 9223372036854775807) (d : Nat) : ∀ (i : Nat) (n : Int), i + d = l.length → 0 ≤ n → n ≤ 1048576 → ∃ r, Ev (fun k => laws_szStmtS.l0 k l n (i : Int)) r ∧ (r < 0 ∨ 0 ≤ r ∧ r ≤ n ∧ ∀ s ∈ l.drop i, okSt s) := by
  induction d with
  | zero =>
    intro i n hi h0 h1
    refine ⟨n, Ev.step (fun k => by rw [laws_szStmtS.l0]) ?_, .inr ⟨h0, by omega, ?_⟩⟩
    · simp only [if_neg (show ¬ (i : Int) < (l.length : Int) by omega)]
      exact Ev.now _
    · rw [List.drop_eq_nil_of_le (by omega)]; simp
  | succ d ih =>
    intro i n hi h0 h1
    have hil : i < l.length := by omega
    have hm : l[i] ∈ l := List.getElem_mem _
    obtain ⟨t, et, ht⟩ := szStmt_ex l[i].f0 l[i].f1 l[i].f2 l[i].f3 n h0 h1 (hq _ hm).1 (hq _ hm).2
    by_cases c : t < 0
    · refine ⟨-1, Ev.step (fun k => by rw [laws_szStmtS.l0]) ?_, .inl (by decide)⟩
      simp only [if_pos (show (i : Int) < (l.length : Int) by omega), if_pos (show 0 ≤ (i : Int) by omega), rdSl_at l i hil, et, Option.bind_some, if_pos c]
      exact Ev.now _
    · have ht' : 0 ≤ t ∧ t ≤ n ∧ l[i].f2.length ≤ 1048576 ∧ l[i].f3.length ≤ 1048576 := by
        rcases ht with h | h
        · exact absurd h c
        · exact h
      obtain ⟨r, er, hr⟩ := ih (i + 1) t (by omega) ht'.1 (by omega)
      refine ⟨r, Ev.step (fun k => by rw [laws_szStmtS.l0]) ?_, ?_⟩
      · simp only [if_pos (show (i : Int) < (l.length : Int) by omega), if_pos (show 0 ≤ (i : Int) by omega), rdSl_at l i hil, et, Option.bind_some, if_neg c, wrap_succ (show i < 9223372036854775807 by omega)]
        exact er
      · rcases hr with h | ⟨h2, h3, h4⟩
        · exact .inl h
        · refine .inr ⟨h2, by omega, fun s hs => ?_⟩
          rw [List.drop_eq_getElem_cons hil, List.mem_cons] at hs
          rcases hs with rfl | hs
          · exact ht'.2.2
          · exact h4 s hs
theorem szStmtS_ex (l : List S64) (n : Int) (h0 : 0 ≤ n) (h1 : n ≤ 1048576) (hl : l.length ≤ 9223372036854775807) (hq : ∀ s ∈ l, s.f2.length ≤ 9223372036854775807 ∧ s.f3.length ≤ 9223372036854775807) :
    ∃ r, Ev (fun k => laws_szStmtS.f k l n) r ∧ (r < 0 ∨ 0 ≤ r ∧ r ≤ n ∧ l.length ≤ 1048576 ∧ ∀ s ∈ l, okSt s) := by
  simp only [laws_szStmtS.f, wrap_id (show -9223372036854775808 ≤ n - (l.length : Int) by omega) (show n - (l.length : Int) ≤ 9223372036854775807 by omega)]
  by_cases c : n - (l.length : Int) < 0
  · simp only [if_pos c]
    exact ⟨-1, Ev.now _, .inl (by decide)⟩
  · simp only [if_neg c]
    obtain ⟨r, er, hr⟩ := szStmtS_l l (by omega) hq l.length 0 (n - (l.length : Int)) (by omega) (by omega) (by omega)
    refine ⟨r, er, ?_⟩
    rcases hr with h | ⟨h2, h3, h4⟩
    · exact .inl h
    · exact .inr ⟨h2, by omega, by omega, by simpa using h4⟩
theorem toStmt_ev (s : S64) (h : okSt s) : Ev (fun k => laws_toStmt.f k s.f0 s.f1 s.f2 s.f3) (s.f0, s.f1, s.f2.map tmL, s.f3.map tmL) := by
  simp only [laws_toStmt.f]
  refine Ev.bind (toTermS_ev _ h.1) ?_
  refine Ev.bind (toTermS_ev _ h.2) ?_
  exact Ev.now _
theorem toStmtS_l (l : List S64) (hl : l.length ≤ 1048576) (hq : ∀ s ∈ l, okSt s) (d : Nat) : ∀ (i : Nat) (x : List S42), i + d = l.length → x.length = l.length → (∀ j, j < i → x[j]? = (l.map stL)[j]?) → Ev (fun k => laws_toStmtS.l0 k l x (i : Int)) (l.map stL) := by
  induction d with
  | zero =>
    intro i x hi hx ht
    refine Ev.step (fun k => by rw [laws_toStmtS.l0]) ?_
    simp only [if_neg (show ¬ (i : Int) < (l.length : Int) by omega)]
    obtain rfl : x = l.map stL := ext_at (by simpa using hx) (fun j hj => ht j (by simp at hj; omega))
    exact Ev.now _
  | succ d ih =>
    intro i x hi hx ht
    have hil : i < l.length := by omega
    refine Ev.step (fun k => by rw [laws_toStmtS.l0]) ?_
    simp only [if_pos (show (i : Int) < (l.length : Int) by omega), if_pos (show 0 ≤ (i : Int) by omega), rdSl_at l i hil]
    refine Ev.bind (toStmt_ev _ (hq _ (List.getElem_mem hil))) ?_
    simp only [if_pos (show (i : Int) < (x.length : Int) by omega), wrap_succ (show i < 9223372036854775807 by omega), Int.toNat_natCast]
    refine ih (i + 1) _ (by omega) (by simpa using hx) (fun j hj => ?_)
    rw [List.getElem?_set]
    by_cases e : i = j
    · subst e
      rw [if_pos rfl, if_pos (by omega), List.getElem?_map, List.getElem?_eq_getElem hil]
      rfl
    · rw [if_neg e]; exact ht j (by omega)
theorem toStmtS_ev (l : List S64) (hl : l.length ≤ 1048576) (hq : ∀ s ∈ l, okSt s) : Ev (fun k => laws_toStmtS.f k l) (l.map stL) := by
  simp only [laws_toStmtS.f, if_pos (show 0 ≤ (l.length : Int) by omega), Int.toNat_natCast, if_pos (show l.length ≤ 4398046511104 by omega)]
  exact toStmtS_l l hl hq l.length 0 _ (by omega) (by simp) (fun j hj => by omega)
theorem eqStmt_same (a b : Int) (l m : List S100) (hl : l.length ≤ 1048576) (hm : m.length ≤ 1048576) : Ev (fun k => laws_eqStmt.f k a b l m a b l m) true := by
  simp only [laws_eqStmt.f, if_true]
  refine Ev.bind (eqTermS_same l (by omega)) ?_
  simp only [if_true]
  refine Ev.bind (eqTermS_same m (by omega)) ?_
  simp only [if_true]
  exact Ev.now _
theorem eqStmtS_l (x : List S42) (hx : x.length ≤ 1048576) (hq : ∀ s ∈ x, s.f2.length ≤ 1048576 ∧ s.f3.length ≤ 1048576) (d : Nat) : ∀ (i : Nat), i + d = x.length → Ev (fun k => laws_eqStmtS.l0 k x x (i : Int)) true := by
  induction d with
  | zero =>
    intro i hi
    refine Ev.step (fun k => by rw [laws_eqStmtS.l0]) ?_
    simp only [if_neg (show ¬ (i : Int) < (x.length : Int) by omega)]
    exact Ev.now _
  | succ d ih =>
    intro i hi
    have hil : i < x.length := by omega
    have hm := hq _ (List.getElem_mem hil)
    refine Ev.step (fun k => by rw [laws_eqStmtS.l0]) ?_
    simp only [if_pos (show (i : Int) < (x.length : Int) by omega), if_pos (show 0 ≤ (i : Int) by omega), rdSt_at x i hil]
    refine Ev.bind (eqStmt_same _ _ _ _ hm.1 hm.2) ?_
    simp only [if_true, wrap_succ (show i < 9223372036854775807 by omega)]
    exact ih (i + 1) (by omega)
theorem eqStmtS_same (x : List S42) (hx : x.length ≤ 1048576) (hq : ∀ s ∈ x, s.f2.length ≤ 1048576 ∧ s.f3.length ≤ 1048576) : Ev (fun k => laws_eqStmtS.f k x x) true := by
  simp only [laws_eqStmtS.f, if_true]
  exact eqStmtS_l x hx hq x.length 0 (by omega)
theorem stL_ok {l : List S64} (hq : ∀ s ∈ l, okSt s) : ∀ s ∈ l.map stL, s.f2.length ≤ 1048576 ∧ s.f3.length ≤ 1048576 := by
  intro s hs
  obtain ⟨t, ht, rfl⟩ := List.mem_map.1 hs
  have := hq t ht
  simpa [stL, okSt] using this

end Go.Proofs.Ytbjmhdoagjmmcaa.Pure

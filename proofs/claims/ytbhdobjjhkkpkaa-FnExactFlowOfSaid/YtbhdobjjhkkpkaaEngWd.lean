/- Contracts of functions, by the engine: may it trap? -/
import Derived.Test.YtbhdobjjhkkpkaaEngPa
import Derived.Test.YtbhdobjjhkkpkaaEngV1
import Derived.Test.YtbhdobjjhkkpkaaEngXm
import Derived.Test.YtbhdobjjhkkpkaaEngB4
namespace Go.Eng.C
open Go Go.Eng Go.RowKit Go.Proofs
set_option linter.unusedVariables false
set_option linter.unusedSimpArgs false
set_option maxRecDepth 10000
variable {X : FuncId → List AV → AV → List AV → Prop}
theorem nm_spec_l9Known : (Try.f183.name == "runtime.NumGoroutine") = false := by decide
theorem nm_spec_l9May : (Try.f182.name == "runtime.NumGoroutine") = false := by decide
theorem nm_impl_oneBelow : (Try.f187.name == "runtime.NumGoroutine") = false := by decide
theorem nm_impl_expTraps : (Try.f186.name == "runtime.NumGoroutine") = false := by decide
theorem bl_of {r q : Bool} (h : r = q) : AV.sc (.bool q) = bl r := by rw [h]
set_option maxHeartbeats 8000000 in
theorem l9Known (y : List Tm) (b : Int) (nt : Bool) {r : Bool} (hr : r = true ↔ Known y b nt) : Ev Try.prog X (.fn 183 [.im y.length (encL tm y), i64 b, bl nt] (bl r) [.dead, .dead, .dead]) := by
  refine Ev.fnW (env := [(0, .im y.length (encL tm y)), (1, i64 b), (2, bl nt)]) Try.func183 rfl nm_spec_l9Known rfl rfl (by kernel_rfl) (.cons rfl (.cons rfl (.cons rfl .nil))) ?_
  by_cases h1 : y.length = 1
  · obtain ⟨t, rfl⟩ := List.length_eq_one_iff.1 h1
    refine go3 ?_
    refine WO.ixN (f := tm) (xs := [t]) (i := 0) zt rfl rfl rfl (by simp) rfl ?_
    by_cases h2 : ([t].getD 0 zt).op = 0
    · refine go3 ?_
      refine WO.ixN (f := tm) (xs := [t]) (i := 0) zt rfl rfl rfl (by simp) rfl ?_
      by_cases h3 : ([t].getD 0 zt).n < b
      · cases nt
        · refine go3 ?_
          exact retV rfl (bl_of (hr.2 ⟨rfl, h2, h3, by simp⟩)) rfl rfl
        · refine go3 ?_
          refine WO.ixN (f := tm) (xs := [t]) (i := 0) zt rfl rfl rfl (by simp) rfl ?_
          by_cases h4 : ([t].getD 0 zt).n = 0
          · refine go3 ?_
            exact retV rfl (bl_of (show r = false by rw [Bool.eq_false_iff]; intro h; exact (hr.1 h).2.2.2 ⟨rfl, h4⟩)) rfl rfl
          · refine go3 ?_
            exact retV rfl (bl_of (hr.2 ⟨rfl, h2, h3, fun h => h4 h.2⟩)) rfl rfl
      · refine go3 ?_
        exact retV rfl (bl_of (by rw [Bool.eq_false_iff]; intro h; exact h3 (hr.1 h).2.2.1)) rfl rfl
    · refine go3 ?_
      exact retV rfl (bl_of (by rw [Bool.eq_false_iff]; intro h; exact h2 (hr.1 h).2.1)) rfl rfl
  · refine go3 ?_
    exact retV rfl (bl_of (by rw [Bool.eq_false_iff]; intro h; exact h1 (hr.1 h).1)) rfl rfl
set_option maxHeartbeats 8000000 in
theorem oneBelow (y : List Tm) (b : Int) {r : Bool} (hr : r = true ↔ Known y b false) : Ev Try.prog X (.fn 187 [.im y.length (encL tm y), i64 b] (bl r) [.dead, .dead]) := by
  refine Ev.fnW (env := [(0, .im y.length (encL tm y)), (1, i64 b)]) Try.func187 rfl nm_impl_oneBelow rfl rfl (by kernel_rfl) (.cons rfl (.cons rfl .nil)) ?_
  by_cases h1 : y.length = 1
  · obtain ⟨t, rfl⟩ := List.length_eq_one_iff.1 h1
    refine go3 ?_
    refine WO.ixN (f := tm) (xs := [t]) (i := 0) zt rfl rfl rfl (by simp) rfl ?_
    by_cases h2 : ([t].getD 0 zt).op = 0
    · refine go3 ?_
      refine WO.ixN (f := tm) (xs := [t]) (i := 0) zt rfl rfl rfl (by simp) rfl ?_
      by_cases h3 : ([t].getD 0 zt).n < b
      · refine go3 ?_
        exact retV rfl (bl_of (hr.2 ⟨rfl, h2, h3, by simp⟩)) rfl rfl
      · refine go3 ?_
        exact retV rfl (bl_of (by rw [Bool.eq_false_iff]; intro h; exact h3 (hr.1 h).2.2.1)) rfl rfl
    · refine go3 ?_
      exact retV rfl (bl_of (by rw [Bool.eq_false_iff]; intro h; exact h2 (hr.1 h).2.1)) rfl rfl
  · refine go3 ?_
    exact retV rfl (bl_of (by rw [Bool.eq_false_iff]; intro h; exact h1 (hr.1 h).1)) rfl rfl
/-- Behind the places told so far: no trap. -/
def NoT (p : Pr) (e : List Tm) (i : Nat) : Prop := ∀ j, j + 1 < i → ¬ trapAt p (e.getD j zt) (e.getD (j + 1) zt)
theorem NoT.next {p : Pr} {e : List Tm} {i : Nat} (h : NoT p e i) (hi : 0 < i → ¬ trapAt p (e.getD (i - 1) zt) (e.getD i zt)) : NoT p e (i + 1) := by
  intro j hj
  by_cases hc : j + 1 < i
  · exact h j hc
  · have h1 := hi (by omega)
    rw [show i - 1 = j by omega] at h1
    rwa [show j + 1 = i by omega]
theorem NoT.no {p : Pr} {e : List Tm} (h : NoT p e e.length) : ¬ MayT p e := fun ⟨i, h1, h2⟩ => h i h1 h2
theorem take_sub {e pre m : List Tm} {i : Nat} (h : e.take (i + 1) = pre ++ m) (hi : i < e.length) : (e.drop pre.length).take (i + 1 - pre.length) = m := by
  have : (e.take (i + 1)).drop pre.length = m := by rw [h, List.drop_left]
  rw [← this, List.drop_take]
set_option maxHeartbeats 16000000 in
theorem l9May (p : Pr) (e : List Tm) (w1 : 1 ≤ p.w) (w8 : p.w ≤ 8) (he : reckOk p e) {r : Bool} (hr : r = true ↔ MayT p e) : Ev Try.prog X (.fn 182 [.ag (prR p), .im e.length (encL tm e)] (bl r) [.dead, .dead]) := by
  have hl : e.length ≤ 3000 := by have := he.1; simp only [expOk, Bool.and_eq_true, decide_eq_true_eq] at this; exact this.1
  have hs := sizeW_bd w8
  refine Ev.fnW (env := [(0, .ag (prR p)), (1, .im e.length (encL tm e))]) Try.func182 rfl nm_spec_l9May rfl rfl (by kernel_rfl) (.cons rfl (.cons rfl .nil)) ?_
  refine go3 ?_
  refine WC.loopS (S := Nat) (fun i => [(1, .im e.length (encL tm e)), (2, .op (prR p)), (5, i64 i)]) (fun i => i ≤ e.length ∧ NoT p e i) (fun i => e.length - i) 0 (.cons rfl (.cons rfl (.cons rfl .nil))) ⟨Nat.zero_le _, fun j hj => by omega⟩ ?_
  rintro i ⟨g1, g2⟩
  refine go3 ?_
  refine WO.cmp rfl rfl rfl rfl rfl (fun h3 => ?_) (fun h3 => ?_)
  · have hi : i < e.length := by omega
    obtain ⟨pre, ks, hm, hbk, hx, hxl, hkt, hkl, hk3, hok, hkn⟩ := sub_at he.1 hi
    obtain ⟨t, ht⟩ : ∃ t, t = e.getD i zt := ⟨_, rfl⟩
    have hte : t ∈ e := by rw [ht]; simp [List.getD_eq_getElem?_getD, hi]
    rw [← ht] at hm hx hxl hkl
    have hpl : pre.length ≤ i := by
      have := congrArg List.length hm
      simp only [List.length_append, List.length_take, List.length_singleton] at this; omega
    have hsub := take_sub hm hi
    have nx : ¬ (0 < i ∧ trapAt p (e.getD (i - 1) zt) t) → i + 1 ≤ e.length ∧ NoT p e (i + 1) := fun h => ⟨hi, g2.next (fun h0 h' => h ⟨h0, by rw [ht]; exact h'⟩)⟩
    have yes : 0 < i → trapAt p (e.getD (i - 1) zt) t → r = true := fun h0 h => hr.2 ⟨i - 1, by omega, by rw [show i - 1 + 1 = i by omega, ← ht]; exact h⟩
    refine go3 ?_
    refine WO.call rfl rfl rfl (l2First e i pre.length hl hi hbk) rfl rfl ?_
    refine go3 ?_
    refine WO.slI (f := tm) (i := pre.length) (j := (i : Int) + 1) rfl rfl rfl rfl (by omega) (by omega) (by omega) rfl ?_
    rw [show ((i : Int) + 1).toNat - ((pre.length : Int)).toNat = i + 1 - pre.length by omega, show ((pre.length : Int)).toNat = pre.length by omega, hsub]
    refine WO.call rfl rfl rfl (specPartsOf (ks.flatten ++ [t]) ks (by omega) (.ok hx hxl hkt hkl hk3)) rfl rfl ?_
    refine WO.hard (r := 20) (p := []) (x := rows ks) (y := .im ks.length (encL (eR tm) ks)) rfl rfl (by simp only [setN, Eng.hard, rows, hard_rows]) ?_
    refine go3 ?_
    refine WO.ixN (f := tm) zt rfl rfl rfl hi rfl ?_
    rw [← ht]
    by_cases h2 : t.op = 2
    · have hk1 : ks.length = 1 := by rw [h2] at hkl; have : tks 2 = 1 := rfl; omega
      obtain ⟨i0, hkk⟩ := hkn (by omega)
      rw [hk1] at hkk
      have hn := (he.2 t hte).2.2 h2
      have hn0 : 0 ≤ t.n := by rw [ht]; exact hok.2.1
      refine go3 ?_
      refine WC.regionDd ⟨[[], [0], [0, 1], [], [3], [], [], [5, 6], [5, 6, 7], [5, 6, 7, 8], [3, 4, 5, 6, 7, 8, 9], [3, 4, 5, 6, 7, 8, 9, 10], [0, 1, 2, 3, 4, 5, 6, 7, 8, 9, 10, 11], [0, 1, 2, 3, 4, 5, 6, 7, 8, 9, 10, 11, 12]], [0, 1, 2, 3, 4, 5, 6, 7, 8, 9, 10, 11, 13], [], [28, 29, 30, 31, 32, 33, 34, 35, 36, 37, 38, 39, 41], [0, 1, 2, 3, 4, 5, 6, 7, 8, 9, 10, 11, 12, 13], [([31, 32, 33, 34, 35, 36, 37, 38, 39], [31, 32, 33, 34, 35, 36, 37, 38, 39], false), ([31, 32, 33, 34, 35, 36, 37, 38, 39], [31, 32, 33, 34, 35, 36, 37, 38, 39], false), ([31, 32, 33, 34, 35, 36, 37, 38, 39], [31, 32, 33, 34, 35, 36, 37, 38, 39], false), ([28, 29, 30, 33, 34, 35, 36, 37], [28, 29, 30, 33, 34, 35, 36, 37], false), ([28, 29, 30, 33, 34, 35, 36, 37], [28, 29, 30, 33, 34, 35, 36, 37], false), ([28, 29, 30, 31, 32, 34], [28, 29, 30, 31, 32, 34], false), ([28, 29, 30, 31, 32, 33], [28, 29, 30, 31, 32, 33], false), ([28, 29, 30, 31, 32], [28, 29, 30, 31, 32], false), ([28, 29, 30, 31, 32], [28, 29, 30, 31, 32], false), ([28, 29, 30, 31, 32], [28, 29, 30, 31, 32], false), ([28, 29, 30], [28, 29, 30], false), ([28, 29, 30], [28, 29, 30], false), ([], [], false), ([], [], false)]⟩ (by kernel_rfl) ?_
      refine go3 ?_
      refine WD.q rfl rfl rfl rfl rfl (QE.ixN (f := eR tm) (i := 0) [] rfl rfl (by omega)) rfl rfl rfl ?_
      refine go3 ?_
      refine WD.q rfl rfl rfl rfl rfl (QE.ixN (f := tm) zt rfl rfl hi) rfl rfl rfl ?_
      rw [← ht]
      refine go3 ?_
      refine WD.q rfl rfl rfl rfl rfl (QE.ixI (f := eI) 0 rfl rfl hn0 hn) rfl rfl rfl ?_
      refine go3 ?_
      refine WO.callB rfl rfl rfl (l9Known (ks.getD 0 []) (p.arrs.getD t.n.toNat 0) false) rfl (fun hq => ?_) (fun hq => ?_)
      · have hq' := (hkk _ _).1 hq
        have nx' := nx (fun ⟨_, h⟩ => by rcases h with h | h
                                         · omega
                                         · exact h.2 ⟨hq'.1, hq'.2.1⟩)
        refine go3 ?_
        exact lpK.mk (i + 1) (.cons rfl (.cons rfl (.cons rfl .nil))) nx' (show e.length - (i + 1) < e.length - i by omega)
      · have hy := yes i0 (.inr ⟨h2, fun h => hq ((hkk _ _).2 ⟨h.1, h.2, by simp⟩)⟩)
        refine go3 ?_
        exact retV rfl (bl_of hy) rfl rfl
    · by_cases h8 : t.op = 8 ∨ t.op = 9
      · have hk2 : ks.length = 2 := by have : tks t.op = 2 := by (rcases h8 with h | h <;> rw [h] <;> rfl)
                                       omega
        obtain ⟨i0, hkk⟩ := hkn (by omega)
        rw [hk2] at hkk
        have hprev : e.getD (i - 1) zt ∈ e := by simp [List.getD_eq_getElem?_getD, show i - 1 < e.length by omega]
        have hpn := (he.2 _ hprev).1
        have h88 := h8
        rcases h88 with h | h
        all_goals
          refine go3 ?_
          refine WC.regionDd ⟨[[], [0], [0, 1], [], [3], [0, 1, 2, 3, 4], [0, 1, 2, 3, 4, 5]], [0, 1, 2, 3, 4, 6], [], [45, 46, 47, 48, 49, 51], [0, 1, 2, 3, 4, 5, 6], [([48, 49], [48, 49], false), ([48, 49], [48, 49], false), ([48, 49], [48, 49], false), ([45, 46, 47], [45, 46, 47], false), ([45, 46, 47], [45, 46, 47], false), ([], [], false), ([], [], false)]⟩ (by kernel_rfl) ?_
          refine go3 ?_
          refine WD.q rfl rfl rfl rfl rfl (QE.ixN (f := eR tm) (i := 1) [] rfl rfl (by omega)) rfl rfl rfl ?_
          refine go3 ?_
          refine WD.call rfl rfl rfl rfl rfl rfl rfl (l3Size p (by omega) w8) rfl rfl rfl ?_
          refine go3 ?_
          refine WO.callB rfl rfl rfl (l9Known (ks.getD 1 []) (sizeW p.w) true) rfl (fun hq => ?_) (fun hq => ?_)
          · have hq' := (hkk _ _).1 hq
            have nx' := nx (fun ⟨_, h⟩ => by rcases h with h | h
                                             · rcases h.2 with h | h
                                               · exact h hq'.1
                                               · exact hq'.2.2 ⟨rfl, h⟩
                                             · omega)
            refine go3 ?_
            exact lpK.mk (i + 1) (.cons rfl (.cons rfl (.cons rfl .nil))) nx' (show e.length - (i + 1) < e.length - i by omega)
          · have hy := yes i0 (.inl ⟨h8, by
              by_cases hc : (e.getD (i - 1) zt).op = 0
              · right
                by_cases hc2 : (e.getD (i - 1) zt).n = 0
                · exact hc2
                · exact absurd ((hkk _ _).2 ⟨hc, hpn hc, fun h => hc2 h.2⟩) hq
              · exact .inl hc⟩)
            refine go3 ?_
            exact retV rfl (bl_of hy) rfl rfl
      · have nx' := nx (fun ⟨_, h⟩ => by rcases h with h | h
                                         · exact h8 h.1
                                         · exact h2 h.1)
        refine go3 ?_
        exact lpK.mk (i + 1) (.cons rfl (.cons rfl (.cons rfl .nil))) nx' (show e.length - (i + 1) < e.length - i by omega)
  · have : i = e.length := by omega
    subst this
    refine go3 ?_
    exact retV rfl (bl_of (by rw [Bool.eq_false_iff]; intro h; exact g2.no (hr.1 h))) rfl rfl
set_option maxHeartbeats 16000000 in
theorem expTraps (p : Pr) (e : List Tm) (he : reckOk p e) {r : Bool} (hr : r = true ↔ MayT p e) : Ev Try.prog X (.fn 186 [.ip (prR p), .im e.length (encL tm e)] (bl r) [.dead, .dead]) := by
  have hl : e.length ≤ 3000 := by have := he.1; simp only [expOk, Bool.and_eq_true, decide_eq_true_eq] at this; exact this.1
  refine Ev.fnW (env := [(0, .ip (prR p)), (1, .im e.length (encL tm e))]) Try.func186 rfl nm_impl_expTraps rfl rfl (by kernel_rfl) (.cons rfl (.cons rfl .nil)) ?_
  refine go3 ?_
  refine WC.loopS (S := Nat) (fun i => [(0, .ip (prR p)), (1, .im e.length (encL tm e)), (8, .im e.length (encL tm e)), (9, i64 e.length), (10, i64 i)]) (fun i => i ≤ e.length ∧ NoT p e i) (fun i => e.length - i) 0 (.cons rfl (.cons rfl (.cons rfl (.cons rfl (.cons rfl .nil))))) ⟨Nat.zero_le _, fun j hj => by omega⟩ ?_
  rintro i ⟨g1, g2⟩
  refine go3 ?_
  refine WO.cmp rfl rfl rfl rfl rfl (fun h3 => ?_) (fun h3 => ?_)
  · have hi : i < e.length := by omega
    obtain ⟨pre, ks, hm, hbk, hx, hxl, hkt, hkl, hk3, hok, hkn⟩ := sub_at he.1 hi
    obtain ⟨t, ht⟩ : ∃ t, t = e.getD i zt := ⟨_, rfl⟩
    have hte : t ∈ e := by rw [ht]; simp [List.getD_eq_getElem?_getD, hi]
    rw [← ht] at hkl
    obtain ⟨q, hq⟩ : ∃ q, q = e.getD (i - 1) zt := ⟨_, rfl⟩
    have nx : ¬ (0 < i ∧ trapAt p q t) → i + 1 ≤ e.length ∧ NoT p e (i + 1) := fun h => ⟨hi, g2.next (fun h0 h' => h ⟨h0, by rw [ht, hq]; exact h'⟩)⟩
    have yes : 0 < i → trapAt p q t → r = true := fun h0 h => hr.2 ⟨i - 1, by omega, by rw [show i - 1 + 1 = i by omega, ← ht, ← hq]; exact h⟩
    refine go3 ?_
    refine WO.ixN (f := tm) zt rfl rfl rfl hi rfl ?_
    rw [← ht]
    by_cases h2 : t.op = 2
    · have hk1 : ks.length = 1 := by rw [h2] at hkl; have : tks 2 = 1 := rfl; omega
      obtain ⟨i0, hkk⟩ := hkn (by omega)
      have hn := (he.2 t hte).2.2 h2
      have hn0 : 0 ≤ t.n := by rw [ht]; exact hok.2.1
      have e1 : (i : Int) - 1 = ((i - 1 : Nat) : Int) := by omega
      have hone : (e.drop (i - 1)).take (i - (i - 1)) = [q] := by
        rw [show i - (i - 1) = 1 by omega, hq, drop_getD (show i - 1 < e.length by omega) zt]; rfl
      have hkq : Known [q] (p.arrs.getD t.n.toNat 0) false ↔ q.op = 0 ∧ q.n < p.arrs.getD t.n.toNat 0 := by simp [Known]
      refine go3 ?_
      refine WC.regionDd ⟨[[], [], [1], [], [0, 1, 2, 3], [], [5], [5, 6], [5, 6, 7], [], [9], [5, 6, 7, 8, 9, 10], [5, 6, 7, 8, 9, 10, 11], [0, 1, 2, 3, 4, 5, 6, 7, 8, 9, 10, 11, 12], [0, 1, 2, 3, 4, 5, 6, 7, 8, 9, 10, 11, 12, 13]], [0, 1, 2, 3, 4, 5, 6, 7, 8, 9, 10, 11, 12, 14], [], [35, 36, 37, 38, 39, 40, 41, 42, 43, 44, 45, 46, 47, 49], [0, 1, 2, 3, 4, 5, 6, 7, 8, 9, 10, 11, 12, 13, 14], [([36, 37, 38, 40, 41, 42, 43, 44, 45, 46, 47], [36, 37, 38, 40, 41, 42, 43, 44, 45, 46, 47], false), ([35, 38, 40, 41, 42, 43, 44, 45, 46, 47], [35, 38, 40, 41, 42, 43, 44, 45, 46, 47], false), ([35, 38, 40, 41, 42, 43, 44, 45, 46, 47], [35, 38, 40, 41, 42, 43, 44, 45, 46, 47], false), ([35, 36, 37, 40, 41, 42, 43, 44, 45, 46, 47], [35, 36, 37, 40, 41, 42, 43, 44, 45, 46, 47], false), ([40, 41, 42, 43, 44, 45, 46, 47], [40, 41, 42, 43, 44, 45, 46, 47], false), ([35, 36, 37, 38, 39, 44, 45], [35, 36, 37, 38, 39, 44, 45], false), ([35, 36, 37, 38, 39, 44, 45], [35, 36, 37, 38, 39, 44, 45], false), ([35, 36, 37, 38, 39, 44, 45], [35, 36, 37, 38, 39, 44, 45], false), ([35, 36, 37, 38, 39, 44, 45], [35, 36, 37, 38, 39, 44, 45], false), ([35, 36, 37, 38, 39, 40, 41, 42, 43], [35, 36, 37, 38, 39, 40, 41, 42, 43], false), ([35, 36, 37, 38, 39, 40, 41, 42, 43], [35, 36, 37, 38, 39, 40, 41, 42, 43], false), ([35, 36, 37, 38, 39], [35, 36, 37, 38, 39], false), ([35, 36, 37, 38, 39], [35, 36, 37, 38, 39], false), ([], [], false), ([], [], false)]⟩ (by kernel_rfl) ?_
      refine go3 ?_
      refine WD.q rfl rfl rfl rfl rfl (QE.slI (f := tm) (i := (i : Int) - 1) (j := i) rfl rfl rfl (by omega) (by omega) (by omega)) rfl rfl rfl ?_
      rw [show ((i : Int)).toNat - ((i : Int) - 1).toNat = i - (i - 1) by omega, show ((i : Int) - 1).toNat = i - 1 by omega, hone]
      refine go3 ?_
      refine WD.q rfl rfl rfl rfl rfl (QE.ixI (f := eI) 0 rfl rfl hn0 hn) rfl rfl rfl ?_
      refine go3 ?_
      refine WO.callB rfl rfl rfl (oneBelow [q] (p.arrs.getD t.n.toNat 0)) rfl (fun hb => ?_) (fun hb => ?_)
      · have hb' := hkq.1 hb
        have nx' := nx (fun ⟨_, h⟩ => by rcases h with h | h
                                         · omega
                                         · exact h.2 hb')
        refine go3 ?_
        exact lpK.mk (i + 1) (.cons rfl (.cons rfl (.cons rfl (.cons rfl (.cons rfl .nil))))) nx' (show e.length - (i + 1) < e.length - i by omega)
      · have hy := yes i0 (.inr ⟨h2, fun h => hb (hkq.2 h)⟩)
        refine go3 ?_
        exact retV rfl (bl_of hy) rfl rfl
    · by_cases h8 : t.op = 8 ∨ t.op = 9
      · have hk2 : ks.length = 2 := by have : tks t.op = 2 := by (rcases h8 with h | h <;> rw [h] <;> rfl)
                                       omega
        obtain ⟨i0, hkk⟩ := hkn (by omega)
        have e1 : (i : Int) - 1 = ((i - 1 : Nat) : Int) := by omega
        have h88 := h8
        rcases h88 with h | h
        all_goals
          refine go3 ?_
          rw [e1]
          refine WO.ixN (f := tm) zt rfl rfl rfl (show i - 1 < e.length by omega) rfl ?_
          rw [← hq]
          by_cases q0 : q.op = 0
          · by_cases q1 : q.n = 0
            · have hy := yes i0 (.inl ⟨h8, .inr q1⟩)
              refine go3 ?_
              exact retV rfl (bl_of hy) rfl rfl
            · have nx' := nx (fun ⟨_, h⟩ => by rcases h with h | h
                                               · rcases h.2 with h | h
                                                 · exact h q0
                                                 · exact q1 h
                                               · omega)
              refine go3 ?_
              exact lpK.mk (i + 1) (.cons rfl (.cons rfl (.cons rfl (.cons rfl (.cons rfl .nil))))) nx' (show e.length - (i + 1) < e.length - i by omega)
          · have hy := yes i0 (.inl ⟨h8, .inl q0⟩)
            refine go3 ?_
            exact retV rfl (bl_of hy) rfl rfl
      · have nx' := nx (fun ⟨_, h⟩ => by rcases h with h | h
                                         · exact h8 h.1
                                         · exact h2 h.1)
        refine go3 ?_
        exact lpK.mk (i + 1) (.cons rfl (.cons rfl (.cons rfl (.cons rfl (.cons rfl .nil))))) nx' (show e.length - (i + 1) < e.length - i by omega)
  · have : i = e.length := by omega
    subst this
    refine go3 ?_
    exact retV rfl (bl_of (by rw [Bool.eq_false_iff]; intro h; exact g2.no (hr.1 h))) rfl rfl
end Go.Eng.C

/- Contracts of functions, by the engine: flows, of the reference: labels, what is around, a statement. -/
import Derived.Test.YtbhdobjjhkkpkaaEngFd
import Derived.Test.YtbhdobjjhkkpkaaEngXg
namespace Go.Eng.C
open Go Go.Eng Go.RowKit Go.Proofs
set_option linter.unusedVariables false
set_option linter.unusedSimpArgs false
set_option maxRecDepth 10000
variable {X : FuncId → List AV → AV → List AV → Prop}
theorem nm_spec_l9Unite : (Try.f152.name == "runtime.NumGoroutine") = false := by decide
theorem nm_spec_l9Label : (Try.f154.name == "runtime.NumGoroutine") = false := by decide
theorem nm_spec_l9Around : (Try.f153.name == "runtime.NumGoroutine") = false := by decide
theorem nm_spec_l9Stmt : (Try.f129.name == "runtime.NumGoroutine") = false := by decide
/-- What is united so far. -/
def unU (a b : Int) : Nat → Int
  | 0 => 0
  | k + 1 => unU a b k + if a / 2 ^ k % 2 = 1 ∨ b / 2 ^ k % 2 = 1 then 2 ^ k else 0
theorem unU_or {a b : Int} (ha : L8 a) (hb : L8 b) : unU a b 4 = orI a b := by
  have h : ∀ x y : Fin 8, unU x.val y.val 4 = orI x.val y.val := by decide +kernel
  obtain ⟨x, rfl⟩ := ha.fin; obtain ⟨y, rfl⟩ := hb.fin
  exact h x y
theorem unU_bd (a b : Int) : ∀ k : Nat, k ≤ 4 → 0 ≤ unU a b k ∧ unU a b k ≤ 16 * (k : Int) := by
  intro k
  induction k with
  | zero => intro _; simp [unU]
  | succ k ih =>
    intro hk
    have h := ih (by omega)
    have h2 : (1 : Int) ≤ 2 ^ k ∧ (2 : Int) ^ k ≤ 16 := by
      have : k = 0 ∨ k = 1 ∨ k = 2 ∨ k = 3 := by omega
      rcases this with h | h | h | h <;> subst h <;> decide
    simp only [unU]
    split <;> omega
set_option maxHeartbeats 4000000 in
theorem l9Unite (a b : Int) (ha : L8 a) (hb : L8 b) : Ev Try.prog X (.fn 152 [i64 a, i64 b] (i64 (orI a b)) [.dead, .dead]) := by
  have he := unU_or ha hb
  unfold L8 at ha hb
  refine Ev.fnW (env := [(0, i64 a), (1, i64 b)]) Try.func152 rfl nm_spec_l9Unite rfl rfl (by kernel_rfl) (.cons rfl (.cons rfl .nil)) ?_
  refine go3 ?_
  refine WC.loopS (S := Nat) (fun k => [(0, i64 a), (1, i64 b), (5, i64 (unU a b k)), (6, i64 (2 ^ k))]) (fun k => k ≤ 4) (fun k => 4 - k) 0 (.cons rfl (.cons rfl (.cons rfl (.cons rfl .nil)))) (Nat.zero_le _) ?_
  intro k g1
  have hbd := unU_bd a b k g1
  have h2 : (1 : Int) ≤ 2 ^ k ∧ (2 : Int) ^ k ≤ 16 ∧ ((2 : Int) ^ k ≤ 8 ↔ k < 4) := by
    have : k = 0 ∨ k = 1 ∨ k = 2 ∨ k = 3 ∨ k = 4 := by omega
    rcases this with h | h | h | h | h <;> subst h <;> decide
  have e1 : (2 : Int) ^ (k + 1) = 2 ^ k * 2 := Int.pow_succ 2 k
  have e2 : unU a b (k + 1) = unU a b k + if a / 2 ^ k % 2 = 1 ∨ b / 2 ^ k % 2 = 1 then 2 ^ k else 0 := rfl
  generalize (2 : Int) ^ k = u at *
  by_cases hk : k < 4
  · have hu := h2.2.2.2 hk
    refine go3 ?_
    by_cases b1 : a / u % 2 = 1
    · rw [if_pos (.inl b1)] at e2
      refine WO.q rfl (QE.cmpT rfl rfl rfl b1) rfl rfl ?_
      refine go3 ?_
      rw [← e1, ← e2]
      exact lpK.mk (k + 1) (.cons rfl (.cons rfl (.cons rfl (.cons rfl .nil)))) (by omega) (show 4 - (k + 1) < 4 - k by omega)
    · refine WO.q rfl (QE.cmpF rfl rfl rfl b1) rfl rfl ?_
      refine go3 ?_
      by_cases b2 : b / u % 2 = 1
      · rw [if_pos (.inr b2)] at e2
        refine WO.q rfl (QE.cmpT rfl rfl rfl b2) rfl rfl ?_
        refine go3 ?_
        rw [← e1, ← e2]
        exact lpK.mk (k + 1) (.cons rfl (.cons rfl (.cons rfl (.cons rfl .nil)))) (by omega) (show 4 - (k + 1) < 4 - k by omega)
      · rw [if_neg (fun h => h.elim b1 b2), Int.add_zero] at e2
        refine WO.q rfl (QE.cmpF rfl rfl rfl b2) rfl rfl ?_
        refine go3 ?_
        rw [← e1, ← e2]
        exact lpK.mk (k + 1) (.cons rfl (.cons rfl (.cons rfl (.cons rfl .nil)))) (by omega) (show 4 - (k + 1) < 4 - k by omega)
  · have : k = 4 := by omega
    subst this
    have hu : 8 < u := by have := h2.2.2; omega
    rw [he]
    refine go3 ?_
    exact retV rfl rfl rfl rfl
set_option maxHeartbeats 4000000 in
theorem l9Label (p : Pr) (f : Fl) (e : List Tm) (hf : FlOk p f) (he : e.length ≤ 3000) (hn : NmF f e) : Ev Try.prog X (.fn 154 [.ag (flR f), .im e.length (encL tm e)] (i64 (lab f e)) [.dead, .dead]) := by
  refine Ev.fnW (env := [(0, .ag (flR f)), (1, .im e.length (encL tm e))]) Try.func154 rfl nm_spec_l9Label rfl rfl (by kernel_rfl) (.cons rfl (.cons rfl .nil)) ?_
  refine go3 ?_
  refine WC.loopS (S := Nat × Int) (fun s => [(1, .im e.length (encL tm e)), (2, .op (flR f)), (5, i64 s.2), (6, i64 s.1)]) (fun s => s.1 ≤ e.length ∧ L8 s.2 ∧ labL f (e.drop s.1) s.2 = lab f e) (fun s => e.length - s.1) (0, 0) (.cons rfl (.cons rfl (.cons rfl (.cons rfl .nil)))) ⟨Nat.zero_le _, L8_0, rfl⟩ ?_
  rintro ⟨k, m⟩ ⟨g1, g8, g2⟩
  dsimp only at g1 g8 g2 ⊢
  refine go3 ?_
  refine WO.cmp rfl rfl rfl rfl rfl (fun h3 => ?_) (fun h3 => ?_)
  · have hk : k < e.length := by omega
    have hm : e.getD k zt ∈ e := by simp [List.getD_eq_getElem?_getD, hk]
    obtain ⟨n0, n1, n2⟩ := hn _ hm
    rw [labL_drop hk] at g2
    obtain ⟨t, ht⟩ : ∃ t, e.getD k zt = t := ⟨_, rfl⟩
    rw [ht] at n0 n1 n2 g2
    refine go3 ?_
    refine WO.ixN (f := tm) zt rfl rfl rfl hk rfl ?_
    rw [ht]
    refine go3 ?_
    by_cases h1 : t.op = 1
    · have hnn := n0 (.inl h1)
      have hnl := n1 h1
      rw [if_pos h1] at g2
      have v8 := getD_8 hf.v t.n.toNat
      clear n0 n1 n2
      refine go3 ?_
      refine WC.regionDd ⟨[[], [], [1], [], [], [3, 4], [3, 4, 5], [3, 4, 5, 6], [1, 2, 3, 4, 5, 6, 7], [1, 2, 3, 4, 5, 6, 7, 8], [0, 1, 2, 3, 4, 5, 6, 7, 8, 9], [0, 1, 2, 3, 4, 5, 6, 7, 8, 9, 10]], [0, 1, 2, 3, 4, 5, 6, 7, 8, 9], [], [20, 21, 22, 23, 24, 25, 26, 27, 28, 29], [0, 1, 2, 3, 4, 5, 6, 7, 8, 9, 10, 11], [([21, 22, 23, 24, 25, 26, 27, 28, 29], [21, 22, 23, 24, 25, 26, 27, 28, 29], false), ([20, 23, 24, 25, 26, 27], [20, 23, 24, 25, 26, 27], false), ([20, 23, 24, 25, 26, 27], [20, 23, 24, 25, 26, 27], false), ([20, 21, 22, 24], [20, 21, 22, 24], false), ([20, 21, 22, 23], [20, 21, 22, 23], false), ([20, 21, 22], [20, 21, 22], false), ([20, 21, 22], [20, 21, 22], false), ([20, 21, 22], [20, 21, 22], false), ([20], [20], false), ([20], [20], false), ([], [], false), ([], [], false)]⟩ (by kernel_rfl) ?_
      refine go3 ?_
      refine WD.q rfl rfl rfl rfl rfl (QE.ixN (f := tm) zt rfl rfl hk) rfl rfl rfl ?_
      rw [ht]
      refine go3 ?_
      refine WD.q rfl rfl rfl rfl rfl (QE.ixI (f := eI) 0 rfl rfl hnn hnl) rfl rfl rfl ?_
      refine go3 ?_
      refine WO.call rfl rfl rfl (l9Unite m _ g8 v8) rfl rfl ?_
      refine go3 ?_
      exact lpK.mk (k + 1, orI m (f.vars.getD t.n.toNat 0)) (.cons rfl (.cons rfl (.cons rfl (.cons rfl .nil)))) ⟨hk, orI_8 g8 v8, g2⟩ (show e.length - (k + 1) < e.length - k by omega)
    · by_cases h2 : t.op = 2
      · have hnn := n0 (.inr h2)
        have hnl := n2 h2
        rw [if_neg h1, if_pos h2] at g2
        have v8 := getD_8 hf.a t.n.toNat
        clear n0 n1 n2
        refine go3 ?_
        refine WC.regionDd ⟨[[], [], [1], [], [], [3, 4], [3, 4, 5], [3, 4, 5, 6], [1, 2, 3, 4, 5, 6, 7], [1, 2, 3, 4, 5, 6, 7, 8], [0, 1, 2, 3, 4, 5, 6, 7, 8, 9], [0, 1, 2, 3, 4, 5, 6, 7, 8, 9, 10]], [0, 1, 2, 3, 4, 5, 6, 7, 8, 9], [], [33, 34, 35, 36, 37, 38, 39, 40, 41, 42], [0, 1, 2, 3, 4, 5, 6, 7, 8, 9, 10, 11], [([34, 35, 36, 37, 38, 39, 40, 41, 42], [34, 35, 36, 37, 38, 39, 40, 41, 42], false), ([33, 36, 37, 38, 39, 40], [33, 36, 37, 38, 39, 40], false), ([33, 36, 37, 38, 39, 40], [33, 36, 37, 38, 39, 40], false), ([33, 34, 35, 37], [33, 34, 35, 37], false), ([33, 34, 35, 36], [33, 34, 35, 36], false), ([33, 34, 35], [33, 34, 35], false), ([33, 34, 35], [33, 34, 35], false), ([33, 34, 35], [33, 34, 35], false), ([33], [33], false), ([33], [33], false), ([], [], false), ([], [], false)]⟩ (by kernel_rfl) ?_
        refine go3 ?_
        refine WD.q rfl rfl rfl rfl rfl (QE.ixN (f := tm) zt rfl rfl hk) rfl rfl rfl ?_
        rw [ht]
        refine go3 ?_
        refine WD.q rfl rfl rfl rfl rfl (QE.ixI (f := eI) 0 rfl rfl hnn hnl) rfl rfl rfl ?_
        refine go3 ?_
        refine WO.call rfl rfl rfl (l9Unite m _ g8 v8) rfl rfl ?_
        refine go3 ?_
        exact lpK.mk (k + 1, orI m (f.arrs.getD t.n.toNat 0)) (.cons rfl (.cons rfl (.cons rfl (.cons rfl .nil)))) ⟨hk, orI_8 g8 v8, g2⟩ (show e.length - (k + 1) < e.length - k by omega)
      · rw [if_neg h1, if_neg h2] at g2
        clear n0 n1 n2
        refine go3 ?_
        exact lpK.mk (k + 1, m) (.cons rfl (.cons rfl (.cons rfl (.cons rfl .nil)))) ⟨hk, g8, g2⟩ (show e.length - (k + 1) < e.length - k by omega)
  · have : k = e.length := by omega
    subst this
    rw [List.drop_length] at g2
    simp only [labL] at g2
    subst g2
    refine go3 ?_
    exact retV rfl rfl rfl rfl
set_option maxHeartbeats 4000000 in
theorem l9Around (p : Pr) (f : Fl) (hst : ∀ s ∈ p.body, stOk p s) (hf : FlOk p f) (hl : p.body.length ≤ 40) (at_ : Nat) (ha : at_ ≤ p.body.length) : Ev Try.prog X (.fn 153 [.im p.body.length (encL stR p.body), .ag (flR f), i64 at_] (i64 (ctxL f ((arnd p.body at_ at_).map fun i => p.body.getD i zst) 0)) [.dead, .dead, .dead]) := by
  obtain ⟨S, hS⟩ : ∃ S : Nat → St, S = fun i => p.body.getD i zst := ⟨_, rfl⟩
  rw [← hS]
  refine Ev.fnW (env := [(0, .im p.body.length (encL stR p.body)), (1, .ag (flR f)), (2, i64 at_)]) Try.func153 rfl nm_spec_l9Around rfl rfl (by kernel_rfl) (.cons rfl (.cons rfl (.cons rfl .nil))) ?_
  refine go3 ?_
  refine WC.loopS (S := Nat) (fun i => [(0, .im p.body.length (encL stR p.body)), (2, i64 at_), (4, .op (flR f)), (7, i64 (ctxL f ((arnd p.body i at_).map S) 0)), (8, i64 i)]) (fun i => i ≤ at_) (fun i => at_ - i) 0 (.cons rfl (.cons rfl (.cons rfl (.cons rfl (.cons rfl .nil))))) (Nat.zero_le _) ?_
  intro i g1
  have m8 := ctxL_8 hf ((arnd p.body i at_).map S) 0 L8_0
  have es := arnd_succ p.body i at_
  refine go3 ?_
  refine WO.cmp rfl rfl rfl rfl rfl (fun h3 => ?_) (fun h3 => ?_)
  · have hi : i < p.body.length := by omega
    have hj := hst (p.body.getD i zst) (by simp [List.getD_eq_getElem?_getD, hi])
    obtain ⟨n1, n2⟩ := nmF hf hj.mays.2.1
    have l8 := lab_8 hf (p.body.getD i zst).ex
    have cl := l9Label (X := X) p f (p.body.getD i zst).ex hf n2 n1
    have hop : opA p.body i = (p.body.getD i zst).op := rfl
    have e3 := ctxL_snoc f ((arnd p.body i at_).map S) (p.body.getD i zst) 0
    refine go3 ?_
    refine WO.ixN (f := stR) zst rfl rfl rfl hi rfl ?_
    refine go3 ?_
    by_cases h2 : (p.body.getD i zst).op = 2
    · refine WO.q rfl (QE.cmpT rfl rfl rfl h2) rfl rfl ?_
      refine go3 ?_
      refine WO.call rfl rfl rfl (l3End p.body (by omega) i hi) rfl rfl ?_
      refine go3 ?_
      by_cases h4 : (at_ : Int) < endI (E p.body i)
      · rw [if_pos ⟨h2, h4⟩] at es
        refine WO.q rfl (QE.cmpT rfl rfl rfl h4) rfl rfl ?_
        refine go3 ?_
        refine WC.regionDd ⟨[[], [], [], [], [2, 3], [2, 3, 4], [2, 3, 4, 5], [1, 2, 3, 4, 5, 6], [0, 1, 2, 3, 4, 5, 6, 7], [0, 1, 2, 3, 4, 5, 6, 7, 8]], [0, 1, 2, 3, 4, 5, 6, 7], [], [31, 32, 33, 34, 35, 36, 37, 38], [0, 1, 2, 3, 4, 5, 6, 7, 8, 9], [([32, 33, 34, 35, 36, 37, 38], [32, 33, 34, 35, 36, 37, 38], false), ([31, 33, 34, 35, 36, 37], [31, 33, 34, 35, 36, 37], false), ([31, 32, 34], [31, 32, 34], false), ([31, 32, 33], [31, 32, 33], false), ([31, 32], [31, 32], false), ([31, 32], [31, 32], false), ([31, 32], [31, 32], false), ([31], [31], false), ([], [], false), ([], [], false)]⟩ (by kernel_rfl) ?_
        refine go3 ?_
        refine WD.q rfl rfl rfl rfl rfl (QE.ixN (f := stR) zst rfl rfl hi) rfl rfl rfl ?_
        refine go3 ?_
        refine WD.q rfl rfl rfl rfl rfl (QE.call rfl rfl cl) rfl rfl rfl ?_
        refine go3 ?_
        refine WO.call rfl rfl rfl (l9Unite _ _ m8 l8) rfl rfl ?_
        refine go3 ?_
        exact lpK.mk (i + 1) (.cons rfl (.cons rfl (.cons rfl (.cons (by rw [es, List.map_append]; exact congrArg i64 (by rw [← e3, hS]; rfl)) (.cons rfl .nil))))) (by omega) (show at_ - (i + 1) < at_ - i by omega)
      · rw [if_neg (fun h => h4 h.2), List.append_nil] at es
        refine WO.q rfl (QE.cmpF rfl rfl rfl h4) rfl rfl ?_
        refine go3 ?_
        exact lpK.mk (i + 1) (.cons rfl (.cons rfl (.cons rfl (.cons (by rw [es]; rfl) (.cons rfl .nil))))) (by omega) (show at_ - (i + 1) < at_ - i by omega)
    · rw [if_neg (fun h => h2 h.1), List.append_nil] at es
      refine WO.q rfl (QE.cmpF rfl rfl rfl h2) rfl rfl ?_
      refine go3 ?_
      exact lpK.mk (i + 1) (.cons rfl (.cons rfl (.cons rfl (.cons (by rw [es]; rfl) (.cons rfl .nil))))) (by omega) (show at_ - (i + 1) < at_ - i by omega)
  · have : i = at_ := by omega
    subst this
    refine go3 ?_
    exact retV rfl rfl rfl rfl
theorem l9May0 (p : Pr) : Ev Try.prog X (.fn 182 [.ag (prR p), .im 0 []] (bl false) [.dead, .dead]) := by
  refine Ev.fnW (env := [(0, .ag (prR p)), (1, .im 0 [])]) Try.func182 rfl nm_spec_l9May rfl rfl (by kernel_rfl) (.cons rfl (.cons rfl .nil)) ?_
  refine go3 ?_
  refine WC.loopS (S := Nat) (fun s => [(1, .im 0 []), (5, i64 0)]) (fun s => True) (fun s => 0) 0 (.cons rfl (.cons rfl .nil)) trivial ?_
  intro s _
  refine go3 ?_
  exact retV rfl rfl rfl rfl
theorem l9MayS (p : Pr) (e : List Tm) (w1 : 1 ≤ p.w) (w8 : p.w ≤ 8) (he : e.length = 0 ∨ mayOk p e) {r : Bool} (hr : r = true ↔ MayT p e) : Ev Try.prog X (.fn 182 [.ag (prR p), .im e.length (encL tm e)] (bl r) [.dead, .dead]) := by
  rcases he with h | h
  · have := List.length_eq_zero_iff.1 h
    subst this
    have : r = false := blF hr (mayT_nil p)
    subst this
    exact l9May0 p
  · exact l9May p e w1 w8 h.2.1 hr
set_option maxHeartbeats 4000000 in
theorem l9Stmt (p : Pr) (s : St) (w1 : 1 ≤ p.w) (w8 : p.w ≤ 8) (hs : stOk p s) {r : Bool} (hr : r = true ↔ stT p s) : Ev Try.prog X (.fn 129 [.ag (prR p), .ag (stR s)] (bl r) [.dead, .dead]) := by
  obtain ⟨m1, m2, m3⟩ := hs.mays
  unfold stT at hr
  refine Ev.fnW (env := [(0, .ag (prR p)), (1, .ag (stR s))]) Try.func129 rfl nm_spec_l9Stmt rfl rfl (by kernel_rfl) (.cons rfl (.cons rfl .nil)) ?_
  refine go3 ?_
  refine WC.regionDd ⟨[[], [], [1], [0, 1, 2], [0, 1, 2, 3], [0, 1, 2, 3, 4], [0, 1, 2, 3, 4], [0, 1, 2, 3, 4, 6], [0, 1, 2, 3, 4, 5, 6, 7], [0, 1, 2, 3, 4, 5, 6, 7, 8], [0, 1, 2, 3, 4, 5, 6, 7, 8, 9], [0, 1, 2, 3, 4, 5, 6, 7, 8, 9, 10], [0, 1, 2, 3, 4, 5, 6, 7, 8, 9, 10, 11], [0, 1, 2, 3, 4, 5, 6, 7, 8, 9, 10, 11, 12], [0, 1, 2, 3, 4, 5, 6, 7, 8, 9, 10, 11, 12, 13], [0, 1, 2, 3, 4, 5, 6, 7, 8, 9, 10, 11, 12, 13, 14], [0, 1, 2, 3, 4, 5, 6, 7, 8, 9, 10, 11, 12, 13, 14, 15], [0, 1, 2, 3, 4, 5, 6, 7, 8, 9, 10, 11, 12, 13, 14], [0, 1, 2, 3, 4, 5, 6, 7, 8, 9, 10, 11, 12, 13, 14, 17], [0, 1, 2, 3, 4, 5, 6, 7, 8, 9, 10, 11, 12, 13, 14], [0, 1, 2, 3, 4, 5, 6, 7, 8, 9, 10, 11, 12, 13, 14, 19], [0, 1, 2, 3, 4, 5, 6, 7, 8, 9, 10, 11, 12, 13, 14, 17, 18, 19, 20], [0, 1, 2, 3, 4, 5, 6, 7, 8, 9, 10, 11, 12, 13, 14, 17, 18, 19, 20, 21], [0, 1, 2, 3, 4, 5, 6, 7, 8, 9, 10, 11, 12, 13, 14, 15, 16, 17, 18, 19, 20, 21, 22], [0, 1, 2, 3, 4, 5, 6, 7, 8, 9, 10, 11, 12, 13, 14, 15, 16, 17, 18, 19, 20, 21, 22, 23], [0, 1, 2, 3, 4, 5, 6, 7, 8, 9, 10, 11, 12, 13, 14, 15, 16, 17, 18, 19, 20, 21, 22, 23, 24], [0, 1, 2, 3, 4, 5, 6, 7, 8, 9, 10, 11, 12, 13, 14, 15, 16, 17, 18, 19, 20, 21, 22, 23, 24, 25], [0, 1, 2, 3, 4, 5, 6, 7, 8, 9, 10, 11, 12, 13, 14, 15, 16, 17, 18, 19, 20, 21, 22, 23, 24, 25, 26]], [0, 1, 2, 4, 5, 6, 7, 9, 10, 11, 12, 13, 14, 15, 16, 17, 18, 19, 20, 21, 22, 24, 25, 26], [], [5, 6, 7, 9, 10, 11, 12, 14, 15, 16, 17, 18, 19, 20, 21, 22, 23, 24, 25, 26, 27, 29, 30, 31], [0, 1, 2, 3, 4, 5, 6, 7, 8, 9, 10, 11, 12, 13, 14, 15, 16, 17, 18, 19, 20, 21, 22, 23, 24, 25, 26, 27], [([6, 7], [6, 7], false), ([5], [5], false), ([5], [5], false), ([], [], false), ([], [], false), ([11, 12], [11, 12], false), ([10], [10], false), ([10], [10], false), ([], [], false), ([], [], false), ([], [], false), ([], [], false), ([], [], false), ([], [], false), ([], [], false), ([22, 23, 24, 25, 26, 27], [22, 23, 24, 25, 26, 27], false), ([22, 23, 24, 25, 26, 27], [22, 23, 24, 25, 26, 27], false), ([20, 21, 24, 25], [20, 21, 24, 25], false), ([20, 21, 24, 25], [20, 21, 24, 25], false), ([20, 21, 22, 23], [20, 21, 22, 23], false), ([20, 21, 22, 23], [20, 21, 22, 23], false), ([20, 21], [20, 21], false), ([20, 21], [20, 21], false), ([], [], false), ([], [], false), ([], [], false), ([], [], false), ([], [], false)]⟩ (by kernel_rfl) ?_
  refine go3 ?_
  by_cases h1 : MayT p s.pl
  · refine WO.call rfl rfl rfl (l9MayS p s.pl w1 w8 m1 (r := true) ⟨fun _ => h1, fun _ => rfl⟩) rfl rfl ?_
    refine go3 ?_
    exact retV rfl (bl_of (hr.2 (.inl h1))) rfl rfl
  · refine WO.call rfl rfl rfl (l9MayS p s.pl w1 w8 m1 (r := false) ⟨fun h => by simp at h, fun h => absurd h h1⟩) rfl rfl ?_
    refine go3 ?_
    by_cases h2 : MayT p s.ex
    · refine WO.call rfl rfl rfl (l9MayS p s.ex w1 w8 m2 (r := true) ⟨fun _ => h2, fun _ => rfl⟩) rfl rfl ?_
      refine go3 ?_
      exact retV rfl (bl_of (hr.2 (.inr (.inl h2)))) rfl rfl
    · refine WO.call rfl rfl rfl (l9MayS p s.ex w1 w8 m2 (r := false) ⟨fun h => by simp at h, fun h => absurd h h2⟩) rfl rfl ?_
      refine go3 ?_
      by_cases h3 : s.op = 1
      · obtain ⟨n0, n1⟩ := m3 h3
        refine WD.q rfl rfl rfl rfl rfl (QE.cmpT rfl rfl rfl h3) rfl rfl rfl ?_
        refine go3 ?_
        refine WD.q rfl rfl rfl rfl rfl (QE.ixI (f := eI) 0 rfl rfl n0 n1) rfl rfl rfl ?_
        refine go3 ?_
        by_cases h4 : Known s.pl (p.arrs.getD s.n.toNat 0) false
        · refine WO.call rfl rfl rfl (l9Known s.pl _ false (r := true) ⟨fun _ => h4, fun _ => rfl⟩) rfl rfl ?_
          refine go3 ?_
          exact retV rfl (bl_of (show r = false from blF hr (fun h => h.elim h1 fun h => h.elim h2 fun h => h.2 h4))) rfl rfl
        · refine WO.call rfl rfl rfl (l9Known s.pl _ false (r := false) ⟨fun h => by simp at h, fun h => absurd h h4⟩) rfl rfl ?_
          refine go3 ?_
          exact retV rfl (bl_of (hr.2 (.inr (.inr ⟨h3, h4⟩)))) rfl rfl
      · refine WD.q rfl rfl rfl rfl rfl (QE.cmpF rfl rfl rfl h3) rfl rfl rfl ?_
        refine go3 ?_
        exact retV rfl (bl_of (show r = false from blF hr (fun h => h.elim h1 fun h => h.elim h2 fun h => h3 h.1))) rfl rfl
end Go.Eng.C

/- Contracts of functions, by the engine: flows, of the program: labels, sums, one statement. -/
import Derived.Test.YtbhdobjjhkkpkaaEngPh
import Derived.Test.YtbhdobjjhkkpkaaEngRa
import Derived.Test.YtbhdobjjhkkpkaaEngWd
namespace Go.Eng.C
open Go Go.Eng Go.RowKit Go.Proofs
set_option linter.unusedVariables false
set_option linter.unusedSimpArgs false
set_option maxRecDepth 10000
variable {X : FuncId → List AV → AV → List AV → Prop}
theorem nm_impl_Flow_label : (Try.f157.name == "runtime.NumGoroutine") = false := by decide
theorem nm_impl_Flow_sum : (Try.f87.name == "runtime.NumGoroutine") = false := by decide
theorem nm_impl_Flow_round : (Try.f88.name == "runtime.NumGoroutine") = false := by decide
theorem nm_impl_stmtTraps : (Try.f133.name == "runtime.NumGoroutine") = false := by decide
/-- A flow's cells: owned, and only read. -/
def flO (f : Fl) : List AV := [ints f.vars, ints f.arrs, i64 f.esc, i64 f.lk]
def flR (f : Fl) : List AV := [.im f.vars.length (encL eI f.vars), .im f.arrs.length (encL eI f.arrs), i64 f.esc, i64 f.lk]
theorem hardL_fl (f : Fl) : hardL (flO f) = flR f := by
  simp only [flO, flR, ints, hardL, Eng.hard, hardL_pl (encL_pl (f := eI) _)]
/-- What is named in an expression has a label. -/
def NmF (f : Fl) (e : List Tm) : Prop := ∀ t ∈ e, (t.op = 1 ∨ t.op = 2 → 0 ≤ t.n) ∧ (t.op = 1 → t.n < (f.vars.length : Int)) ∧ (t.op = 2 → t.n < (f.arrs.length : Int))
theorem labL_drop {f : Fl} {e : List Tm} {k : Nat} (h : k < e.length) (m : Int) : labL f (e.drop k) m = labL f (e.drop (k + 1)) (if (e.getD k zt).op = 1 then orI m (f.vars.getD (e.getD k zt).n.toNat 0) else if (e.getD k zt).op = 2 then orI m (f.arrs.getD (e.getD k zt).n.toNat 0) else m) := by
  rw [drop_getD h zt]; rfl
set_option maxHeartbeats 4000000 in
theorem flabel (p : Pr) (f : Fl) (e : List Tm) (hf : FlOk p f) (he : e.length ≤ 3000) (hn : NmF f e) : Ev Try.prog X (.fn 157 [.ip (flR f), .im e.length (encL tm e)] (i64 (lab f e)) [.dead, .dead]) := by
  refine Ev.fnW (env := [(0, .ip (flR f)), (1, .im e.length (encL tm e))]) Try.func157 rfl nm_impl_Flow_label rfl rfl (by kernel_rfl) (.cons rfl (.cons rfl .nil)) ?_
  refine go3 ?_
  refine WC.loopS (S := Nat × Int) (fun s => [(0, .ip (flR f)), (5, i64 s.2), (8, .im e.length (encL tm e)), (9, i64 e.length), (10, i64 s.1)]) (fun s => s.1 ≤ e.length ∧ labL f (e.drop s.1) s.2 = lab f e) (fun s => e.length - s.1) (0, 0) (.cons rfl (.cons rfl (.cons rfl (.cons rfl (.cons rfl .nil))))) ⟨Nat.zero_le _, rfl⟩ ?_
  rintro ⟨k, m⟩ ⟨g1, g2⟩
  dsimp only at g1 g2 ⊢
  refine go3 ?_
  refine WO.cmp rfl rfl rfl rfl rfl (fun h3 => ?_) (fun h3 => ?_)
  · have hk : k < e.length := by omega
    have hm : e.getD k zt ∈ e := by simp [List.getD_eq_getElem?_getD, hk]
    obtain ⟨n0, n1, n2⟩ := hn _ hm
    rw [labL_drop hk] at g2
    refine go3 ?_
    refine WO.ixN (f := tm) zt rfl rfl rfl hk rfl ?_
    generalize e.getD k zt = t at *
    by_cases h1 : t.op = 1
    · have hnn := n0 (.inl h1)
      have hnl := n1 h1
      rw [if_pos h1] at g2
      clear n0 n1 n2
      refine go3 ?_
      refine WC.regionDd ⟨[[], [], [1], [1, 2], [1, 2, 3], [], [5], [1, 2, 3, 4, 5, 6], [1, 2, 3, 4, 5, 6, 7], [0, 1, 2, 3, 4, 5, 6, 7, 8], [0, 1, 2, 3, 4, 5, 6, 7, 8, 9]], [0, 1, 2, 3, 4, 5, 6, 7, 8, 9], [], [18, 19, 20, 21, 22, 23, 24, 25, 26, 27], [0, 1, 2, 3, 4, 5, 6, 7, 8, 9, 10], [([19, 20, 21, 22, 23, 24, 25, 26], [19, 20, 21, 22, 23, 24, 25, 26], false), ([18, 23, 24], [18, 23, 24], false), ([18, 23, 24], [18, 23, 24], false), ([18, 23, 24], [18, 23, 24], false), ([18, 23, 24], [18, 23, 24], false), ([18, 19, 20, 21, 22], [18, 19, 20, 21, 22], false), ([18, 19, 20, 21, 22], [18, 19, 20, 21, 22], false), ([18], [18], false), ([18], [18], false), ([], [], false), ([], [], false)]⟩ (by kernel_rfl) ?_
      refine go3 ?_
      refine WD.q rfl rfl rfl rfl rfl (QE.ixI (f := eI) 0 rfl rfl hnn hnl) rfl rfl rfl ?_
      refine go3 ?_
      refine WD.q rfl rfl rfl rfl rfl (QE.binG (k := .i64) (v := .int .i64 (orI m (f.vars.getD t.n.toNat 0))) rfl rfl rfl rfl) rfl rfl rfl ?_
      refine go3 ?_
      exact lpK.mk (k + 1, orI m (f.vars.getD t.n.toNat 0)) (.cons rfl (.cons rfl (.cons rfl (.cons rfl (.cons rfl .nil))))) ⟨hk, g2⟩ (show e.length - (k + 1) < e.length - k by omega)
    · by_cases h2 : t.op = 2
      · have hnn := n0 (.inr h2)
        have hnl := n2 h2
        rw [if_neg h1, if_pos h2] at g2
        clear n0 n1 n2
        refine go3 ?_
        refine WC.regionDd ⟨[[], [], [1], [1, 2], [1, 2, 3], [], [5], [1, 2, 3, 4, 5, 6], [1, 2, 3, 4, 5, 6, 7], [0, 1, 2, 3, 4, 5, 6, 7, 8], [0, 1, 2, 3, 4, 5, 6, 7, 8, 9]], [0, 1, 2, 3, 4, 5, 6, 7, 8, 9], [], [30, 31, 32, 33, 34, 35, 36, 37, 38, 39], [0, 1, 2, 3, 4, 5, 6, 7, 8, 9, 10], [([31, 32, 33, 34, 35, 36, 37, 38], [31, 32, 33, 34, 35, 36, 37, 38], false), ([30, 35, 36], [30, 35, 36], false), ([30, 35, 36], [30, 35, 36], false), ([30, 35, 36], [30, 35, 36], false), ([30, 35, 36], [30, 35, 36], false), ([30, 31, 32, 33, 34], [30, 31, 32, 33, 34], false), ([30, 31, 32, 33, 34], [30, 31, 32, 33, 34], false), ([30], [30], false), ([30], [30], false), ([], [], false), ([], [], false)]⟩ (by kernel_rfl) ?_
        refine go3 ?_
        refine WD.q rfl rfl rfl rfl rfl (QE.ixI (f := eI) 0 rfl rfl hnn hnl) rfl rfl rfl ?_
        refine go3 ?_
        refine WD.q rfl rfl rfl rfl rfl (QE.binG (k := .i64) (v := .int .i64 (orI m (f.arrs.getD t.n.toNat 0))) rfl rfl rfl rfl) rfl rfl rfl ?_
        refine go3 ?_
        exact lpK.mk (k + 1, orI m (f.arrs.getD t.n.toNat 0)) (.cons rfl (.cons rfl (.cons rfl (.cons rfl (.cons rfl .nil))))) ⟨hk, g2⟩ (show e.length - (k + 1) < e.length - k by omega)
      · rw [if_neg h1, if_neg h2] at g2
        clear n0 n1 n2
        refine go3 ?_
        exact lpK.mk (k + 1, m) (.cons rfl (.cons rfl (.cons rfl (.cons rfl (.cons rfl .nil))))) ⟨hk, g2⟩ (show e.length - (k + 1) < e.length - k by omega)
  · have : k = e.length := by omega
    subst this
    rw [List.drop_length] at g2
    simp only [labL] at g2
    subst g2
    refine go3 ?_
    exact retV rfl rfl rfl rfl
theorem smL_drop {l : List Int} {k : Nat} (h : k < l.length) : smL (l.drop k) = l.getD k 0 + smL (l.drop (k + 1)) := by rw [drop_getD h 0]; rfl
theorem sm_bd {l : List Int} (h : ∀ x ∈ l, L8 x) (k : Nat) : 0 ≤ smL (l.drop k) ∧ smL (l.drop k) ≤ 7 * l.length := by
  have := wtL_le (l := l.drop k) fun x hx => h x (List.mem_of_mem_drop hx)
  simp only [List.length_drop] at this; omega
set_option maxHeartbeats 4000000 in
theorem fsum (p : Pr) (f : Fl) (hf : FlOk p f) (h1 : f.vars.length ≤ 1000) (h2 : f.arrs.length ≤ 1000) : Ev Try.prog X (.fn 87 [.ip (flR f)] (i64 (smF f)) [.dead]) := by
  have he := hf.e; have hl := hf.l
  unfold L8 at he hl
  refine Ev.fnW (env := [(0, .ip (flR f))]) Try.func87 rfl nm_impl_Flow_sum rfl rfl (by kernel_rfl) (.cons rfl .nil) ?_
  refine go3 ?_
  refine WC.regionDd ⟨[[], [0], [0, 1], [0, 1, 2], [], [4], [4, 5], [4, 5, 6], [0, 1, 2, 3, 4, 5, 6, 7], [0, 1, 2, 3, 4, 5, 6, 7, 8]], [0, 1, 2, 3, 4, 5, 6, 7, 8], [], [8, 9, 10, 11, 12, 13, 14, 15, 16], [0, 1, 2, 3, 4, 5, 6, 7, 8, 9], [([12, 13, 14, 15], [12, 13, 14, 15], false), ([12, 13, 14, 15], [12, 13, 14, 15], false), ([12, 13, 14, 15], [12, 13, 14, 15], false), ([12, 13, 14, 15], [12, 13, 14, 15], false), ([8, 9, 10, 11], [8, 9, 10, 11], false), ([8, 9, 10, 11], [8, 9, 10, 11], false), ([8, 9, 10, 11], [8, 9, 10, 11], false), ([8, 9, 10, 11], [8, 9, 10, 11], false), ([], [], false), ([], [], false)]⟩ (by kernel_rfl) ?_
  refine go3 ?_
  refine WC.loopS (S := Nat × Int) (fun s => [(0, .ip (flR f)), (3, i64 s.2), (20, .im f.vars.length (encL eI f.vars)), (21, i64 f.vars.length), (22, i64 s.1)]) (fun s => s.1 ≤ f.vars.length ∧ s.2 + smL (f.vars.drop s.1) = f.esc + f.lk + smL f.vars) (fun s => f.vars.length - s.1) (0, f.esc + f.lk) (.cons rfl (.cons rfl (.cons rfl (.cons rfl (.cons rfl .nil))))) ⟨Nat.zero_le _, rfl⟩ ?_
  rintro ⟨k, m⟩ ⟨g1, g2⟩
  dsimp only at g1 g2 ⊢
  have b1 := sm_bd hf.v k
  have b0 := sm_bd hf.v 0
  rw [List.drop_zero] at b0
  refine go3 ?_
  refine WO.cmp rfl rfl rfl rfl rfl (fun h3 => ?_) (fun h3 => ?_)
  · have hk : k < f.vars.length := by omega
    have b2 := sm_bd hf.v (k + 1)
    have h8 := getD_8 hf.v k
    rw [smL_drop hk] at g2 b1
    refine go3 ?_
    refine WO.ixN (f := eI) 0 rfl rfl rfl hk rfl ?_
    unfold L8 at h8
    generalize f.vars.getD k 0 = x at *
    refine go3 ?_
    exact lpK.mk (k + 1, m + x) (.cons rfl (.cons rfl (.cons rfl (.cons rfl (.cons rfl .nil))))) ⟨hk, by dsimp only; omega⟩ (show f.vars.length - (k + 1) < f.vars.length - k by omega)
  · have : k = f.vars.length := by omega
    subst this
    rw [List.drop_length] at g2
    simp only [smL, Int.add_zero] at g2
    subst g2
    clear b1
    refine go3 ?_
    refine WC.loopS (S := Nat × Int) (fun s => [(3, i64 s.2), (33, .im f.arrs.length (encL eI f.arrs)), (34, i64 f.arrs.length), (35, i64 s.1)]) (fun s => s.1 ≤ f.arrs.length ∧ s.2 + smL (f.arrs.drop s.1) = smF f) (fun s => f.arrs.length - s.1) (0, f.esc + f.lk + smL f.vars) (.cons rfl (.cons rfl (.cons rfl (.cons rfl .nil)))) ⟨Nat.zero_le _, rfl⟩ ?_
    rintro ⟨k, m⟩ ⟨g1, g2⟩
    dsimp only at g1 g2 ⊢
    have b1 := sm_bd hf.a k
    have c0 := sm_bd hf.a 0
    rw [List.drop_zero] at c0
    have e2 : smF f = f.esc + f.lk + smL f.vars + smL f.arrs := rfl
    refine go3 ?_
    refine WO.cmp rfl rfl rfl rfl rfl (fun h3 => ?_) (fun h3 => ?_)
    · have hk : k < f.arrs.length := by omega
      have b2 := sm_bd hf.a (k + 1)
      have h8 := getD_8 hf.a k
      rw [smL_drop hk] at g2 b1
      refine go3 ?_
      refine WO.ixN (f := eI) 0 rfl rfl rfl hk rfl ?_
      unfold L8 at h8
      generalize f.arrs.getD k 0 = x at *
      refine go3 ?_
      exact lpK.mk (k + 1, m + x) (.cons rfl (.cons rfl (.cons rfl (.cons rfl .nil)))) ⟨hk, by dsimp only; omega⟩ (show f.arrs.length - (k + 1) < f.arrs.length - k by omega)
    · have : k = f.arrs.length := by omega
      subst this
      rw [List.drop_length] at g2
      simp only [smL, Int.add_zero] at g2
      subst g2
      refine go3 ?_
      exact retV rfl rfl rfl rfl
theorem expTraps0 (p : Pr) : Ev Try.prog X (.fn 186 [.ip (prR p), .im 0 []] (bl false) [.dead, .dead]) := by
  refine Ev.fnW (env := [(0, .ip (prR p)), (1, .im 0 [])]) Try.func186 rfl nm_impl_expTraps rfl rfl (by kernel_rfl) (.cons rfl (.cons rfl .nil)) ?_
  refine go3 ?_
  refine WC.loopS (S := Nat) (fun s => [(8, .im 0 []), (9, i64 0), (10, i64 0)]) (fun s => True) (fun s => 0) 0 (.cons rfl (.cons rfl (.cons rfl .nil))) trivial ?_
  intro s _
  refine go3 ?_
  exact retV rfl rfl rfl rfl
theorem expTrapsS (p : Pr) (e : List Tm) (he : e.length = 0 ∨ mayOk p e) {r : Bool} (hr : r = true ↔ MayT p e) : Ev Try.prog X (.fn 186 [.ip (prR p), .im e.length (encL tm e)] (bl r) [.dead, .dead]) := by
  rcases he with h | h
  · have := List.length_eq_zero_iff.1 h
    subst this
    have : r = false := blF hr (mayT_nil p)
    subst this
    exact expTraps0 p
  · exact expTraps p e h.2.1 hr
/-- What an expression in a right statement is. -/
theorem stOk.mays {p : Pr} {s : St} (h : stOk p s) : (s.pl.length = 0 ∨ mayOk p s.pl) ∧ (s.ex.length = 0 ∨ mayOk p s.ex) ∧ (s.op = 1 → 0 ≤ s.n ∧ s.n < (p.arrs.length : Int)) := by
  rcases h with h | h | h | h | h | h
  · exact ⟨.inl h.2.1, .inr h.2.2.1, by omega⟩
  · exact ⟨.inr h.2.1, .inr h.2.2.1, by omega⟩
  · exact ⟨.inl h.2.1, .inr h.2.2.1, by omega⟩
  · exact ⟨.inl h.2.1, .inl h.2.2.1, by omega⟩
  · exact ⟨.inl h.2.1, .inl h.2.2.1, by omega⟩
  · exact ⟨.inl h.2.1, .inl h.2.2.1, by omega⟩
set_option maxHeartbeats 4000000 in
theorem stmtTraps (p : Pr) (s : St) (rest : List AV) (hs : stOk p s) {r : Bool} (hr : r = true ↔ stT p s) : Ev Try.prog X (.fn 133 [.ip (prR p), .ip (stR s ++ rest)] (bl r) [.dead, .dead]) := by
  obtain ⟨m1, m2, m3⟩ := hs.mays
  unfold stT at hr
  refine Ev.fnW (env := [(0, .ip (prR p)), (1, .ip (stR s ++ rest))]) Try.func133 rfl nm_impl_stmtTraps rfl rfl (by kernel_rfl) (.cons rfl (.cons rfl .nil)) ?_
  refine go3 ?_
  refine WC.regionDd ⟨[[], [], [1], [1, 2], [1, 2, 3], [0, 1, 2, 3, 4], [0, 1, 2, 3, 4, 5], [0, 1, 2, 3, 4, 5, 6], [0, 1, 2, 3, 4, 5, 6], [0, 1, 2, 3, 4, 5, 6, 8], [0, 1, 2, 3, 4, 5, 6, 8, 9], [0, 1, 2, 3, 4, 5, 6, 8, 9, 10], [0, 1, 2, 3, 4, 5, 6, 7, 8, 9, 10, 11], [0, 1, 2, 3, 4, 5, 6, 7, 8, 9, 10, 11, 12], [0, 1, 2, 3, 4, 5, 6, 7, 8, 9, 10, 11, 12, 13], [0, 1, 2, 3, 4, 5, 6, 7, 8, 9, 10, 11, 12, 13, 14], [0, 1, 2, 3, 4, 5, 6, 7, 8, 9, 10, 11, 12, 13, 14, 15], [0, 1, 2, 3, 4, 5, 6, 7, 8, 9, 10, 11, 12, 13, 14, 15, 16], [0, 1, 2, 3, 4, 5, 6, 7, 8, 9, 10, 11, 12, 13, 14, 15, 16, 17], [0, 1, 2, 3, 4, 5, 6, 7, 8, 9, 10, 11, 12, 13, 14, 15, 16, 17, 18], [0, 1, 2, 3, 4, 5, 6, 7, 8, 9, 10, 11, 12, 13, 14, 15, 16, 17, 18, 19], [0, 1, 2, 3, 4, 5, 6, 7, 8, 9, 10, 11, 12, 13, 14, 15, 16, 17, 18, 19, 20], [0, 1, 2, 3, 4, 5, 6, 7, 8, 9, 10, 11, 12, 13, 14, 15, 16, 17, 18, 19, 20, 21], [0, 1, 2, 3, 4, 5, 6, 7, 8, 9, 10, 11, 12, 13, 14, 15, 16, 17, 18, 19, 20, 21, 22], [0, 1, 2, 3, 4, 5, 6, 7, 8, 9, 10, 11, 12, 13, 14, 15, 16, 17, 18, 19, 20, 21, 22, 23], [0, 1, 2, 3, 4, 5, 6, 7, 8, 9, 10, 11, 12, 13, 14, 15, 16, 17, 18, 19, 20], [0, 1, 2, 3, 4, 5, 6, 7, 8, 9, 10, 11, 12, 13, 14, 15, 16, 17, 18, 19, 20, 25], [0, 1, 2, 3, 4, 5, 6, 7, 8, 9, 10, 11, 12, 13, 14, 15, 16, 17, 18, 19, 20, 25, 26], [0, 1, 2, 3, 4, 5, 6, 7, 8, 9, 10, 11, 12, 13, 14, 15, 16, 17, 18, 19, 20, 25, 26, 27], [0, 1, 2, 3, 4, 5, 6, 7, 8, 9, 10, 11, 12, 13, 14, 15, 16, 17, 18, 19, 20], [0, 1, 2, 3, 4, 5, 6, 7, 8, 9, 10, 11, 12, 13, 14, 15, 16, 17, 18, 19, 20, 29], [0, 1, 2, 3, 4, 5, 6, 7, 8, 9, 10, 11, 12, 13, 14, 15, 16, 17, 18, 19, 20, 29, 30], [0, 1, 2, 3, 4, 5, 6, 7, 8, 9, 10, 11, 12, 13, 14, 15, 16, 17, 18, 19, 20, 29, 30, 31], [0, 1, 2, 3, 4, 5, 6, 7, 8, 9, 10, 11, 12, 13, 14, 15, 16, 17, 18, 19, 20, 25, 26, 27, 28, 29, 30, 31, 32], [0, 1, 2, 3, 4, 5, 6, 7, 8, 9, 10, 11, 12, 13, 14, 15, 16, 17, 18, 19, 20, 25, 26, 27, 28, 29, 30, 31, 32, 33], [0, 1, 2, 3, 4, 5, 6, 7, 8, 9, 10, 11, 12, 13, 14, 15, 16, 17, 18, 19, 20, 21, 22, 23, 24, 25, 26, 27, 28, 29, 30, 31, 32, 33, 34], [0, 1, 2, 3, 4, 5, 6, 7, 8, 9, 10, 11, 12, 13, 14, 15, 16, 17, 18, 19, 20, 21, 22, 23, 24, 25, 26, 27, 28, 29, 30, 31, 32, 33, 34, 35], [0, 1, 2, 3, 4, 5, 6, 7, 8, 9, 10, 11, 12, 13, 14, 15, 16, 17, 18, 19, 20, 21, 22, 23, 24, 25, 26, 27, 28, 29, 30, 31, 32, 33, 34, 35, 36], [0, 1, 2, 3, 4, 5, 6, 7, 8, 9, 10, 11, 12, 13, 14, 15, 16, 17, 18, 19, 20, 21, 22, 23, 24, 25, 26, 27, 28, 29, 30, 31, 32, 33, 34, 35, 36, 37], [0, 1, 2, 3, 4, 5, 6, 7, 8, 9, 10, 11, 12, 13, 14, 15, 16, 17, 18, 19, 20, 21, 22, 23, 24, 25, 26, 27, 28, 29, 30, 31, 32, 33, 34, 35, 36, 37, 38]], [0, 1, 2, 3, 4, 6, 7, 8, 9, 10, 11, 13, 14, 15, 16, 17, 18, 19, 20, 21, 22, 23, 24, 25, 26, 27, 28, 29, 30, 31, 32, 33, 34, 36, 37, 38], [], [5, 6, 7, 8, 9, 11, 12, 13, 14, 15, 16, 18, 19, 20, 21, 22, 23, 24, 25, 26, 27, 28, 29, 30, 31, 32, 33, 34, 35, 36, 37, 38, 39, 41, 42, 43], [0, 1, 2, 3, 4, 5, 6, 7, 8, 9, 10, 11, 12, 13, 14, 15, 16, 17, 18, 19, 20, 21, 22, 23, 24, 25, 26, 27, 28, 29, 30, 31, 32, 33, 34, 35, 36, 37, 38, 39], [([6, 7, 8, 9], [6, 7, 8, 9], false), ([5], [5], false), ([5], [5], false), ([5], [5], false), ([5], [5], false), ([], [], false), ([], [], false), ([13, 14, 15, 16], [13, 14, 15, 16], false), ([12], [12], false), ([12], [12], false), ([12], [12], false), ([12], [12], false), ([], [], false), ([], [], false), ([], [], false), ([], [], false), ([], [], false), ([], [], false), ([], [], false), ([], [], false), ([], [], false), ([30, 31, 32, 33, 34, 35, 36, 37, 38, 39], [30, 31, 32, 33, 34, 35, 36, 37, 38, 39], false), ([30, 31, 32, 33, 34, 35, 36, 37, 38, 39], [30, 31, 32, 33, 34, 35, 36, 37, 38, 39], false), ([30, 31, 32, 33, 34, 35, 36, 37, 38, 39], [30, 31, 32, 33, 34, 35, 36, 37, 38, 39], false), ([30, 31, 32, 33, 34, 35, 36, 37, 38, 39], [30, 31, 32, 33, 34, 35, 36, 37, 38, 39], false), ([26, 27, 28, 29, 34, 35, 36, 37], [26, 27, 28, 29, 34, 35, 36, 37], false), ([26, 27, 28, 29, 34, 35, 36, 37], [26, 27, 28, 29, 34, 35, 36, 37], false), ([26, 27, 28, 29, 34, 35, 36, 37], [26, 27, 28, 29, 34, 35, 36, 37], false), ([26, 27, 28, 29, 34, 35, 36, 37], [26, 27, 28, 29, 34, 35, 36, 37], false), ([26, 27, 28, 29, 30, 31, 32, 33], [26, 27, 28, 29, 30, 31, 32, 33], false), ([26, 27, 28, 29, 30, 31, 32, 33], [26, 27, 28, 29, 30, 31, 32, 33], false), ([26, 27, 28, 29, 30, 31, 32, 33], [26, 27, 28, 29, 30, 31, 32, 33], false), ([26, 27, 28, 29, 30, 31, 32, 33], [26, 27, 28, 29, 30, 31, 32, 33], false), ([26, 27, 28, 29], [26, 27, 28, 29], false), ([26, 27, 28, 29], [26, 27, 28, 29], false), ([], [], false), ([], [], false), ([], [], false), ([], [], false), ([], [], false)]⟩ (by kernel_rfl) ?_
  refine go3 ?_
  by_cases h1 : MayT p s.pl
  · refine WO.call rfl rfl rfl (expTrapsS p s.pl m1 (r := true) (by simp [h1])) rfl rfl ?_
    refine go3 ?_
    exact retV rfl (bl_of (hr.2 (.inl h1))) rfl rfl
  · refine WO.call rfl rfl rfl (expTrapsS p s.pl m1 (r := false) (by simp [h1])) rfl rfl ?_
    refine go3 ?_
    by_cases h2 : MayT p s.ex
    · refine WO.call rfl rfl rfl (expTrapsS p s.ex m2 (r := true) (by simp [h2])) rfl rfl ?_
      refine go3 ?_
      exact retV rfl (bl_of (hr.2 (.inr (.inl h2)))) rfl rfl
    · refine WO.call rfl rfl rfl (expTrapsS p s.ex m2 (r := false) (by simp [h2])) rfl rfl ?_
      refine go3 ?_
      by_cases h3 : s.op = 1
      · obtain ⟨n0, n1⟩ := m3 h3
        refine WD.q rfl rfl rfl rfl rfl (QE.cmpT rfl rfl rfl h3) rfl rfl rfl ?_
        refine go3 ?_
        refine WD.q rfl rfl rfl rfl rfl (QE.ixI (f := eI) 0 rfl rfl n0 n1) rfl rfl rfl ?_
        refine go3 ?_
        by_cases h4 : Known s.pl (p.arrs.getD s.n.toNat 0) false
        · refine WO.call rfl rfl rfl (oneBelow s.pl _ (r := true) ⟨fun _ => h4, fun _ => rfl⟩) rfl rfl ?_
          refine go3 ?_
          exact retV rfl (bl_of (show r = false from blF hr (fun h => h.elim h1 fun h => h.elim h2 fun h => h.2 h4))) rfl rfl
        · refine WO.call rfl rfl rfl (oneBelow s.pl _ (r := false) ⟨fun h => by simp at h, fun h => absurd h h4⟩) rfl rfl ?_
          refine go3 ?_
          exact retV rfl (bl_of (hr.2 (.inr (.inr ⟨h3, h4⟩)))) rfl rfl
      · refine WD.q rfl rfl rfl rfl rfl (QE.cmpF rfl rfl rfl h3) rfl rfl rfl ?_
        refine go3 ?_
        exact retV rfl (bl_of (show r = false from blF hr (fun h => h.elim h1 fun h => h.elim h2 fun h => h3 h.1))) rfl rfl
end Go.Eng.C

/- MayTrap of the program and of the reference answer alike, for every Prog and expression, and the arguments are left as they were; no condition. -/
import Derived.Test.YtakmkdlkipfnhaaPCoreg20
import Derived.Test.YtakmkdlkipfnhaaPCoreg21
import Derived.Test.YtakmkdlkipfnhaaPCoreg22
import Derived.Test.YtakmkdlkipfnhaaTerm
import Derived.Test.YtakmkdlkipfnhaaFA
set_option linter.unusedVariables false
set_option linter.unusedSimpArgs false
namespace Go.Proofs.Ytakmkdlkipfnhaa.Pure
open Go.RowKit Go.Proofs.Ytakmkdlkipfnhaa.PCore Go.Proofs.YtakmkdlkipfnhaaW.PrintWords Go.Proofs.YtakmkdlkipfnhaaW.PrintLast Go.Proofs.YtakmkdlkipfnhaaW.PrintMore Go.Proofs.Ytakmkdlkipfnhaa.Bs

theorem take_rev (x : List S74) (i : Nat) (h : i < x.length) : ((x.take (i + 1)).map tmI).reverse = tmI (rd_T74 x (i : Int)) :: ((x.take i).map tmI).reverse := by
  rw [rdTm_at x i h, List.take_succ_eq_append_getElem h, List.map_append, List.reverse_append]; rfl
/-- In a right expression each place has its begin. -/
theorem first_ex (x : List S74) (h : expOk (x.map tmI) = true) {i : Nat} (hi : i < x.length) : ∃ r : Nat, bk ((x.take (i + 1)).map tmI).reverse 1 = some r := by
  obtain ⟨st, a, ho, he⟩ := exp_at h (i := i) (by simpa using hi)
  rw [List.map_take, he, bk_begin ho.1]
  exact ⟨_, rfl⟩
theorem expOk_len {x : List S74} (h : expOk (x.map tmI) = true) : x.length ≤ 3000 := by
  simp only [expOk, Bool.and_eq_true, decide_eq_true_eq, List.length_map] at h
  exact h.1
theorem expOk_pos {x : List S74} (h : expOk (x.map tmI) = true) : 0 < x.length := by
  obtain ⟨a, _, h2, _⟩ := exp_tree h
  have := a.flat_pos
  rw [h2, List.length_map] at this; exact this

def unI (t : Tm) : S74 := ⟨t.op, t.n⟩
theorem unI_map (x : List S74) : (x.map tmI).map unI = x := by
  rw [List.map_map]
  conv => rhs; rw [← List.map_id x]
  rfl
theorem tmI_map (x : List Tm) : (x.map unI).map tmI = x := by
  rw [List.map_map]
  conv => rhs; rw [← List.map_id x]
  rfl
/-- These Terms are one tree. -/
def IsTr (s : List S74) : Prop := ∃ a : Tr, a.Ok ∧ a.flat = s.map tmI
theorem IsTr.pos {s : List S74} (h : IsTr s) : 0 < s.length := by
  obtain ⟨a, _, h2⟩ := h
  have := a.flat_pos
  rw [h2, List.length_map] at this; exact this
theorem IsTr.ok {s : List S74} (h : IsTr s) (hl : s.length ≤ 3000) : expOk (s.map tmI) = true := by
  obtain ⟨a, h1, h2⟩ := h
  rw [← h2]; exact tree_exp h1 (by rw [h2, List.length_map]; exact hl)
theorem kids_ok {a : Tr} (h : a.Ok) : ∀ k ∈ a.kids, ∃ b : Tr, b.Ok ∧ b.flat = k := by
  intro k hk
  cases a with
  | t0 t => simp [Tr.kids] at hk
  | t1 t a => simp only [Tr.kids, List.mem_singleton] at hk; subst hk; exact ⟨a, h.2.2, rfl⟩
  | t2 t a b =>
    simp only [Tr.kids, List.mem_cons, List.not_mem_nil, or_false] at hk
    rcases hk with rfl | rfl
    · exact ⟨a, h.2.2.1, rfl⟩
    · exact ⟨b, h.2.2.2, rfl⟩
  | t3 t a b c =>
    simp only [Tr.kids, List.mem_cons, List.not_mem_nil, or_false] at hk
    rcases hk with rfl | rfl | rfl
    · exact ⟨a, h.2.2.1, rfl⟩
    · exact ⟨b, h.2.2.2.1, rfl⟩
    · exact ⟨c, h.2.2.2.2, rfl⟩
/-- A right expression: its parts, and its last Term. -/
theorem parts_ex {x : List S74} (h : expOk (x.map tmI) = true) : ∃ (ks : List (List S74)) (t : S74), x = ks.flatten ++ [t] ∧ (∀ s ∈ ks, IsTr s) ∧ (ks.length : Int) = tks t.f0 ∧ ks.length ≤ 3 ∧ IsTr x := by
  obtain ⟨a, ho, hf, _⟩ := exp_tree h
  have hk := Tr.kids_len ho
  have hr := tks_range a.last.op
  refine ⟨a.kids.map (List.map unI), unI a.last, ?_, ?_, ?_, ?_, ⟨a, ho, hf⟩⟩
  · rw [← unI_map x, ← hf, Tr.flat_kids, List.map_append, List.map_flatten]; rfl
  · intro s hs
    obtain ⟨k, hk, rfl⟩ := List.mem_map.1 hs
    obtain ⟨b, h1, h2⟩ := kids_ok ho k hk
    exact ⟨b, h1, by rw [tmI_map]; exact h2⟩
  · rw [List.length_map]; exact hk
  · rw [List.length_map]; omega
/-- From the end of a part back to its begin. -/
theorem seg_bk {p s r : List S74} (h : IsTr s) : bk (((p ++ s ++ r).take (p.length + s.length)).map tmI).reverse 1 = some p.length := by
  obtain ⟨a, h1, h2⟩ := h
  rw [show (p ++ s ++ r).take (p.length + s.length) = p ++ s by rw [← List.length_append]; exact List.take_left, List.map_append, ← h2, bk_begin h1, List.length_map]
theorem ks_split (ks : List (List S74)) (i : Nat) (h : i < ks.length) : ks.flatten = (ks.take i).flatten ++ ks[i] ++ (ks.drop (i + 1)).flatten := by
  conv => lhs; rw [← List.take_append_drop i ks]
  rw [List.flatten_append, List.drop_eq_getElem_cons h, List.flatten_cons, List.append_assoc]
theorem ks_take (ks : List (List S74)) (i : Nat) (h : i < ks.length) : (ks.take (i + 1)).flatten = (ks.take i).flatten ++ ks[i] := by
  rw [List.take_succ_eq_append_getElem h, List.flatten_append, List.flatten_cons, List.flatten_nil, List.append_nil]
theorem last_rd (y : List S74) (t : S74) : rd_T74 (y ++ [t]) (y.length : Int) = t := by
  rw [rdTm_at _ _ (by simp)]; simp

theorem l2First_l (x : List S74) (hx : x.length ≤ 3000) (r : Nat) (i : Nat) : ∀ n : Int, i < x.length → n ≤ 4 * ((x.length : Int) - i) → -4 * ((x.length : Int) - i) ≤ n → bk ((x.take (i + 1)).map tmI).reverse n = some r → Ev (fun k => spec_l2First.l0 k x n (i : Int)) (r : Int) := by
  induction i with
  | zero =>
    intro n hi h1 h2 hb
    refine Ev.step (fun k => by rw [spec_l2First.l0]) ?_
    rw [take_rev x 0 hi, bk] at hb
    have hr := tks_range (rd_T74 x ((0 : Nat) : Int)).f0
    have et : (tmI (rd_T74 x ((0 : Nat) : Int))).op = (rd_T74 x ((0 : Nat) : Int)).f0 := rfl
    rw [et] at hb
    have hw : wrap64 (wrap64 (n - 1) + tks (rd_T74 x ((0 : Nat) : Int)).f0) = n - 1 + tks (rd_T74 x ((0 : Nat) : Int)).f0 := by rw [wrap_id (x := n - 1) (by omega) (by omega), wrap_id (by omega) (by omega)]
    simp only [if_pos (show ((0 : Nat) : Int) ≥ 0 by omega), if_pos (show 0 ≤ ((0 : Nat) : Int) by omega), if_pos (show ((0 : Nat) : Int) < (x.length : Int) by omega), specTakesOf_eq, Option.bind_some, hw]
    by_cases c : n - 1 + tks (rd_T74 x ((0 : Nat) : Int)).f0 = 0
    · rw [if_pos c] at hb
      simp only [if_pos c]
      simp at hb
      subst hb; exact Ev.now _
    · rw [if_neg c] at hb
      simp [bk] at hb
  | succ i ih =>
    intro n hi h1 h2 hb
    refine Ev.step (fun k => by rw [spec_l2First.l0]) ?_
    rw [take_rev x (i + 1) hi, bk] at hb
    have hr := tks_range (rd_T74 x ((i + 1 : Nat) : Int)).f0
    have et : (tmI (rd_T74 x ((i + 1 : Nat) : Int))).op = (rd_T74 x ((i + 1 : Nat) : Int)).f0 := rfl
    rw [et] at hb
    have hw : wrap64 (wrap64 (n - 1) + tks (rd_T74 x ((i + 1 : Nat) : Int)).f0) = n - 1 + tks (rd_T74 x ((i + 1 : Nat) : Int)).f0 := by rw [wrap_id (x := n - 1) (by omega) (by omega), wrap_id (by omega) (by omega)]
    simp only [if_pos (show ((i + 1 : Nat) : Int) ≥ 0 by omega), if_pos (show 0 ≤ ((i + 1 : Nat) : Int) by omega), if_pos (show ((i + 1 : Nat) : Int) < (x.length : Int) by omega), specTakesOf_eq, Option.bind_some, hw, wrap_pred (show i < 9223372036854775807 by omega)]
    by_cases c : n - 1 + tks (rd_T74 x ((i + 1 : Nat) : Int)).f0 = 0
    · rw [if_pos c] at hb
      simp only [if_pos c]
      have hr' : r = i + 1 := by
        have := Option.some.inj hb
        rw [← this]; simp; omega
      subst hr'; exact Ev.now _
    · rw [if_neg c] at hb
      simp only [if_neg c]
      exact ih _ (by omega) (by omega) (by omega) hb
theorem l2First_ev (x : List S74) (hx : x.length ≤ 3000) {r i : Nat} (hi : i < x.length) (hb : bk ((x.take (i + 1)).map tmI).reverse 1 = some r) : Ev (fun k => spec_l2First.f k x (i : Int)) (r : Int) := by
  simp only [spec_l2First.f]
  exact l2First_l x hx r i 1 hi (by omega) (by omega) hb

theorem l2Copy_eq (l : List S74) (h : l.length ≤ 1048576) : spec_l2Copy.f l = some l := by
  simp only [spec_l2Copy.f, Option.bind_some, List.length_nil, List.nil_append]
  rw [if_pos (by omega)]
theorem specParts_l (ks : List (List S74)) (t : S74) (hk : ∀ s ∈ ks, IsTr s) (hl : (ks.flatten ++ [t]).length ≤ 3000) (h3 : ks.length ≤ 3) (i : Nat) : ∀ (y z : Int), i ≤ ks.length → y = (((ks.take i).flatten.length : Nat) : Int) - 1 → z = (i : Int) → Ev (fun k => spec_PartsOf.l0 k (ks.flatten ++ [t]) (ks.drop i) y z) ks := by
  induction i with
  | zero =>
    intro y z hi hy hz
    refine Ev.step (fun k => by rw [spec_PartsOf.l0]) ?_
    simp only [if_neg (show ¬ z > 0 by omega)]
    exact Ev.now _
  | succ i ih =>
    intro y z hi hy hz
    have hs := hk ks[i] (List.getElem_mem _)
    have hp := hs.pos
    have e1 := ks_split ks i hi
    have e2 := ks_take ks i hi
    have hb := seg_bk (p := (ks.take i).flatten) (r := (ks.drop (i + 1)).flatten ++ [t]) hs
    have e3 : ks.flatten ++ [t] = (ks.take i).flatten ++ ks[i] ++ ((ks.drop (i + 1)).flatten ++ [t]) := by rw [e1]; simp
    have hlen : (ks.take i).flatten.length + ks[i].length ≤ (ks.flatten ++ [t]).length := by rw [e3]; simp
    rw [← e3] at hb
    have hN : (ks.take (i + 1)).flatten.length = (ks.take i).flatten.length + ks[i].length := by rw [e2, List.length_append]
    have hdrop : ((ks.flatten ++ [t]).take ((ks.take i).flatten.length + ks[i].length)).drop (ks.take i).flatten.length = ks[i] := by
      rw [e3, ← List.length_append, List.take_left, List.drop_left]
    rw [hN] at hy
    have hsl : ks[i].length ≤ 1048576 := by omega
    have hcons : ks.drop i = ks[i] :: ks.drop (i + 1) := List.drop_eq_getElem_cons hi
    have hdl : (ks.drop (i + 1)).length ≤ 3 := by rw [List.length_drop]; omega
    have ih' := ih (wrap64 ((((ks.take i).flatten.length : Nat) : Int) - 1)) (wrap64 (z - 1)) (by omega) (by rw [wrap_id (by omega) (by omega)]) (by rw [wrap_id (by omega) (by omega)]; omega)
    rw [hcons] at ih'
    generalize hx : ks.flatten ++ [t] = x at *
    generalize hP : (ks.take i).flatten.length = P at *
    have hown := l2Copy_eq ks[i] hsl
    generalize hS : ks[i] = s at *
    have hy' : y = ((P + s.length - 1 : Nat) : Int) := by omega
    have hw : wrap64 (y + 1) = ((P + s.length : Nat) : Int) := by rw [wrap_id (by omega) (by omega)]; omega
    refine Ev.step (fun k => by rw [spec_PartsOf.l0]) ?_
    simp only [if_pos (show z > 0 by omega), hw]
    rw [hy']
    refine Ev.bind (l2First_ev x hl (i := P + s.length - 1) (r := P) (by omega) (by rw [show P + s.length - 1 + 1 = P + s.length by omega]; exact hb)) ?_
    simp only [if_pos (show 0 ≤ (P : Int) by omega), if_pos (show (P : Int) ≤ ((P + s.length : Nat) : Int) by omega), if_pos (show ((P + s.length : Nat) : Int) ≤ (x.length : Int) by omega), Int.toNat_natCast, hdrop, hown, Option.bind_some, List.length_singleton, if_pos (show 1 + (ks.drop (i + 1)).length < 5864062014805 by omega), List.singleton_append]
    exact ih'
theorem specParts_ok (ks : List (List S74)) (t : S74) (h : expOk ((ks.flatten ++ [t]).map tmI) = true) (hk : ∀ s ∈ ks, IsTr s) (ht : (ks.length : Int) = tks t.f0) (h3 : ks.length ≤ 3) : Ev (fun k => spec_PartsOf.f k (ks.flatten ++ [t])) ks := by
  have hl := expOk_len h
  have hlen : (ks.flatten ++ [t]).length = ks.flatten.length + 1 := by simp
  have hw : wrap64 (((ks.flatten ++ [t]).length : Int) - 1) = ((ks.flatten.length : Nat) : Int) := by rw [hlen]; exact wrap_pred (by omega)
  simp only [spec_PartsOf.f, Option.bind_some]
  refine Ev.bind (specExpOk_ev _ (by omega)) ?_
  simp only [if_pos h, hw, if_pos (show 0 ≤ ((ks.flatten.length : Nat) : Int) by omega), if_pos (show ((ks.flatten.length : Nat) : Int) < ((ks.flatten ++ [t]).length : Int) by omega), last_rd, specTakesOf_eq, Option.bind_some, ← ht]
  have hl0 := specParts_l ks t hk hl h3 ks.length (wrap64 (((ks.flatten ++ [t]).length : Int) - 2)) (ks.length : Int) (Nat.le_refl _) (by rw [wrap_id (by omega) (by omega), List.take_length]; omega) rfl
  rw [List.drop_length] at hl0
  exact hl0
theorem specParts_no (x : List S74) (hx : x.length ≤ 1048576) (h : ¬ expOk (x.map tmI) = true) : Ev (fun k => spec_PartsOf.f k x) [] := by
  simp only [spec_PartsOf.f, Option.bind_some]
  refine Ev.bind (specExpOk_ev _ hx) ?_
  simp only [if_neg h]
  exact Ev.now _

theorem seg_ex {x : List S74} (h : expOk (x.map tmI) = true) {i : Nat} (hi : i < x.length) : ∃ P s R : List S74, x = P ++ s ++ R ∧ IsTr s ∧ P.length + s.length = i + 1 := by
  obtain ⟨r, a, ho, e⟩ := exp_at h (i := i) (by simpa using hi)
  have e' : (x.take (i + 1)).map tmI = flats r ++ a.flat := by rw [List.map_take]; exact e
  refine ⟨(x.take (i + 1)).take (flats r).length, (x.take (i + 1)).drop (flats r).length, x.drop (i + 1), ?_, ⟨a, ho.1, ?_⟩, ?_⟩
  · rw [List.take_append_drop, List.take_append_drop]
  · rw [List.map_drop, e', List.drop_left]
  · rw [← List.length_append, List.take_append_drop, List.length_take]; omega
theorem tree_last {q : List S74} {u : S74} (h : IsTr (q ++ [u])) (hl : (q ++ [u]).length ≤ 3000) (h0 : u.f0 = 0) : q = [] := by
  obtain ⟨ks, t, e, _, hk, _, _⟩ := parts_ex (h.ok hl)
  obtain ⟨e1, e2⟩ := List.append_inj' e rfl
  obtain rfl : u = t := List.singleton_inj.1 e2
  rw [h0] at hk
  have : ks.length = 0 := by have : tks 0 = 0 := by decide
                             omega
  rw [List.length_eq_zero_iff] at this
  subst this; exact e1
def kn (u : S74) (n : Int) : Bool := (u.f0 == 0) && decide (u.f1 < n)
theorem rdTm_one (u : S74) : rd_T74 [u] 0 = u := by
  have := last_rd [] u
  simpa using this
theorem known_eq {q : List S74} {u : S74} (h : IsTr (q ++ [u])) (hl : (q ++ [u]).length ≤ 3000) (n : Int) (z : Bool) : spec_l9Known.f (q ++ [u]) n z = some (kn u n && !(z && u.f1 == 0)) := by
  by_cases e : q = []
  · subst e
    simp only [List.nil_append, spec_l9Known.f, List.length_singleton, rdTm_one, kn]
    rw [if_pos (by omega), if_pos (by omega)]
    by_cases c1 : u.f0 = 0
    · by_cases c2 : u.f1 < n
      · cases z <;> simp [c1, c2]
      · simp [c1, c2]
    · simp [c1]
  · have h1 : ¬ (((q ++ [u]).length : Nat) : Int) = 1 := by
      have := List.length_pos_iff.2 e
      simp; omega
    have h2 : ¬ u.f0 = 0 := fun h0 => e (tree_last h hl h0)
    simp only [spec_l9Known.f, if_neg h1, kn, beq_eq_false_iff_ne.2 h2, Bool.false_and]
theorem mid_drop {x P s R : List S74} (e : x = P ++ s ++ R) {m : Nat} (hl : P.length + s.length = m) : (x.take m).drop P.length = s := by
  subst hl
  rw [e, ← List.length_append, List.take_left, List.drop_left]
/-- What stands ahead of a Term that takes some: its last part's last Term. -/
theorem kid_ex {x : List S74} (h : expOk (x.map tmI) = true) {i : Nat} (hi : i < x.length) : ∃ (P R : List S74) (ks : List (List S74)), x = P ++ (ks.flatten ++ [rd_T74 x (i : Int)]) ++ R ∧ P.length + (ks.flatten ++ [rd_T74 x (i : Int)]).length = i + 1 ∧ IsTr (ks.flatten ++ [rd_T74 x (i : Int)]) ∧ (∀ s ∈ ks, IsTr s) ∧ (ks.length : Int) = tks (rd_T74 x (i : Int)).f0 ∧ ks.length ≤ 3 := by
  obtain ⟨P, s, R, e, hs, hl⟩ := seg_ex h hi
  have h3 := expOk_len h
  have hsl : s.length ≤ 3000 := by rw [e] at h3; simp at h3; omega
  obtain ⟨ks, t, es, hk, ht, hk3, _⟩ := parts_ex (hs.ok hsl)
  have et : rd_T74 x (i : Int) = t := by
    rw [rdTm_at x i hi]
    have e4 : x = (P ++ ks.flatten) ++ ([t] ++ R) := by rw [e, es]; simp
    have e5 : (P ++ ks.flatten).length = i := by rw [es] at hl; simp at hl; simp; omega
    have e6 : x[i]? = some t := by rw [e4, List.getElem?_append_right (by omega), e5]; simp
    rw [List.getElem?_eq_getElem hi] at e6
    exact Option.some.inj e6
  subst et
  subst es
  exact ⟨P, R, ks, e, hl, hs, hk, ht, hk3⟩
theorem kid_prev {x P R : List S74} {ks : List (List S74)} {i : Nat} (hi : i < x.length) (e : x = P ++ (ks.flatten ++ [rd_T74 x (i : Int)]) ++ R) (hl : P.length + (ks.flatten ++ [rd_T74 x (i : Int)]).length = i + 1) {q : List S74} {j : Nat} (hj : j + 1 = ks.length) (hk : IsTr (ks[j]'(by omega))) : 1 ≤ i ∧ ∃ q, ks[j]'(by omega) = q ++ [rd_T74 x ((i - 1 : Nat) : Int)] := by
  have hp := hk.pos
  have e0 : ks.flatten = (ks.take j).flatten ++ ks[j]'(by omega) := by
    have := ks_split ks j (by omega)
    rw [List.drop_of_length_le (show ks.length ≤ j + 1 by omega)] at this
    simpa using this
  have e1 : ks[j]'(by omega) = (ks[j]'(by omega)).dropLast ++ [(ks[j]'(by omega)).getLast (List.ne_nil_of_length_pos hp)] := (List.dropLast_concat_getLast _).symm
  generalize ks[j]'(by omega) = s at *
  generalize s.getLast (List.ne_nil_of_length_pos hp) = u at *
  have hlen : s.length = s.dropLast.length + 1 := by
    have h9 := congrArg List.length e1
    rw [List.length_append, List.length_singleton] at h9
    exact h9
  have hfl : ks.flatten.length = (ks.take j).flatten.length + s.length := by rw [e0, List.length_append]
  simp only [List.length_append, List.length_singleton] at hl
  refine ⟨by omega, s.dropLast, ?_⟩
  have e4 : x = (P ++ (ks.take j).flatten ++ s.dropLast) ++ ([u] ++ ([rd_T74 x (i : Int)] ++ R)) := by
    conv => lhs; rw [e, e0]
    conv => lhs; rw [show (ks.take j).flatten ++ s = (ks.take j).flatten ++ (s.dropLast ++ [u]) by rw [← e1]]
    simp
  have e5 : (P ++ (ks.take j).flatten ++ s.dropLast).length = i - 1 := by simp only [List.length_append]; omega
  have e6 : x[i - 1]? = some u := by rw [e4, List.getElem?_append_right (by omega), e5]; simp
  rw [rdTm_at x (i - 1) (by omega)]
  rw [List.getElem?_eq_getElem (by omega)] at e6
  rw [Option.some.inj e6]
  exact e1
/-- The Term at a place may trap. -/
def trapAt (c : List Int) (x : List S74) (i : Nat) : Bool :=
  if (rd_T74 x (i : Int)).f0 = 2 then !(kn (rd_T74 x ((i - 1 : Nat) : Int)) (rd c (rd_T74 x (i : Int)).f1))
  else if (rd_T74 x (i : Int)).f0 = 8 ∨ (rd_T74 x (i : Int)).f0 = 9 then !((rd_T74 x ((i - 1 : Nat) : Int)).f0 == 0 && !((rd_T74 x ((i - 1 : Nat) : Int)).f1 == 0))
  else false
def trapR (c : List Int) (x : List S74) (i d : Nat) : Bool := (List.range' i d).any (trapAt c x)
theorem trapR_succ (c : List Int) (x : List S74) (i d : Nat) : trapR c x i (d + 1) = (trapAt c x i || trapR c x (i + 1) d) := by
  simp [trapR, List.range'_succ]
theorem tks2 : tks 2 = 1 := by decide
theorem tks8 : tks 8 = 2 := by decide
theorem tks9 : tks 9 = 2 := by decide
theorem specMay_l (n : Nat) (hn : n ≤ 8) (a b : List S106) (t : Int) (c : List Int) (y : List S114) (hc : c.length ≤ 2) (x : List S74) (h : expOk (x.map tmI) = true) (vr : Int) (hnm : x.all (nmOk (((2 ^ n : Nat) : Int) - 1) vr (c.length : Int)) = true) (h0 : ∀ e ∈ x, 0 ≤ e.f1) (d : Nat) : ∀ i : Nat, i + d = x.length → Ev (fun k => spec_l9May.l0 k x (i : Int) (n : Int) a b t c y) (trapR c x i d) := by
  have hx := expOk_len h
  induction d with
  | zero =>
    intro i hi
    refine Ev.step (fun k => by rw [spec_l9May.l0]) ?_
    simp only [if_neg (show ¬ (i : Int) < (x.length : Int) by omega)]
    exact Ev.now _
  | succ d ih =>
    intro i hi
    have hil : i < x.length := by omega
    have ih' := ih (i + 1) (by omega)
    obtain ⟨P, R, ks, e, hl, hs, hk, ht, hk3⟩ := kid_ex h hil
    have hm0 := h0 _ (List.getElem_mem hil)
    have hmn := List.all_eq_true.1 hnm _ (List.getElem_mem hil)
    rw [← rdTm_at x i hil] at hm0 hmn
    have hsl : (ks.flatten ++ [rd_T74 x (i : Int)]).length ≤ 3000 := by omega
    have hb := seg_bk (p := P) (r := R) hs
    rw [← e, hl] at hb
    have hdrop : (x.take (i + 1)).drop P.length = ks.flatten ++ [rd_T74 x (i : Int)] := mid_drop e hl
    have hparts := specParts_ok ks (rd_T74 x (i : Int)) (hs.ok hsl) hk ht hk3
    refine Ev.step (fun k => by rw [spec_l9May.l0]) ?_
    rw [trapR_succ]
    simp only [if_pos (show (i : Int) < (x.length : Int) by omega), wrap_succ (show i < 9223372036854775807 by omega)]
    refine Ev.bind (l2First_ev x hx hil hb) ?_
    simp only [if_pos (show 0 ≤ (P.length : Int) by omega), if_pos (show (P.length : Int) ≤ ((i + 1 : Nat) : Int) by omega), if_pos (show ((i + 1 : Nat) : Int) ≤ (x.length : Int) by omega), Int.toNat_natCast, hdrop]
    refine Ev.bind hparts ?_
    simp only [if_pos (show 0 ≤ (i : Int) by omega)]
    have nxt : Ev (fun k => spec_l9May.j1 k x (i : Int) ks false (n : Int) a b t c y) (trapR c x (i + 1) d) := by
      refine Ev.step (fun k => by rw [spec_l9May.j1]) ?_
      simp only [Bool.false_eq_true, if_false, wrap_succ (show i < 9223372036854775807 by omega)]
      exact ih'
    have dv : tks (rd_T74 x (i : Int)).f0 = 2 → Ev (fun k => spec_l9May.j1 k x (i : Int) ks true (n : Int) a b t c y) (!((rd_T74 x ((i - 1 : Nat) : Int)).f0 == 0 && !((rd_T74 x ((i - 1 : Nat) : Int)).f1 == 0)) || trapR c x (i + 1) d) := by
      intro h2
      rw [h2] at ht
      have hk2 : ks.length = 2 := by omega
      have hk1 := hk (ks[1]'(by omega)) (List.getElem_mem _)
      obtain ⟨hi1, q, eq⟩ := kid_prev hil e hl (q := []) (j := 1) (by omega) hk1
      have hrd : rd_L8 ks 1 = q ++ [rd_T74 x ((i - 1 : Nat) : Int)] := by
        rw [← eq]
        show ks.getD (1 : Int).toNat _ = _
        rw [List.getD_eq_getElem?_getD, show (1 : Int).toNat = 1 from rfl, List.getElem?_eq_getElem (by omega), Option.getD_some]
      rw [eq] at hk1
      have hkl : (q ++ [rd_T74 x ((i - 1 : Nat) : Int)]).length ≤ 3000 := by
        rw [← eq]
        have := ks_split ks 1 (by omega)
        have h7 := congrArg List.length this
        simp only [List.length_append] at h7
        simp only [List.length_append, List.length_singleton] at hsl
        omega
      have hm1 := List.all_eq_true.1 hnm _ (List.getElem_mem (show i - 1 < x.length by omega))
      rw [← rdTm_at x (i - 1) (by omega)] at hm1
      refine Ev.step (fun k => by rw [spec_l9May.j1]) ?_
      simp only [if_true, hk2, if_pos (show (1 : Int) < ((2 : Nat) : Int) by decide), hrd, wrap_succ (show i < 9223372036854775807 by omega)]
      refine Ev.bind (l3Size_ev n hn a b t c y) ?_
      simp only [known_eq hk1 hkl, Option.bind_some]
      have ekn : (kn (rd_T74 x ((i - 1 : Nat) : Int)) ((2 ^ n : Nat) : Int) && !(true && (rd_T74 x ((i - 1 : Nat) : Int)).f1 == 0)) = ((rd_T74 x ((i - 1 : Nat) : Int)).f0 == 0 && !((rd_T74 x ((i - 1 : Nat) : Int)).f1 == 0)) := by
        by_cases c0 : (rd_T74 x ((i - 1 : Nat) : Int)).f0 = 0
        · rw [nmOk, if_pos c0, decide_eq_true_eq] at hm1
          rw [kn, decide_eq_true (show (rd_T74 x ((i - 1 : Nat) : Int)).f1 < ((2 ^ n : Nat) : Int) by omega), Bool.and_true, Bool.true_and]
        · rw [kn, beq_eq_false_iff_ne.2 c0]; simp
      simp only [ekn]
      cases (rd_T74 x ((i - 1 : Nat) : Int)).f0 == 0 && !((rd_T74 x ((i - 1 : Nat) : Int)).f1 == 0)
      · simp only [Bool.false_eq_true, if_false, Bool.not_false, Bool.true_or]
        exact Ev.now _
      · simp only [if_true, Bool.not_true, Bool.false_or]
        exact ih'
    by_cases c2 : (rd_T74 x (i : Int)).f0 = 2
    · rw [c2, tks2] at ht
      have hk1 : ks.length = 1 := by omega
      have hk0 := hk (ks[0]'(by omega)) (List.getElem_mem _)
      obtain ⟨hi1, q, eq⟩ := kid_prev hil e hl (q := []) (j := 0) (by omega) hk0
      have hrd : rd_L8 ks 0 = q ++ [rd_T74 x ((i - 1 : Nat) : Int)] := by
        rw [← eq]
        show ks.getD (0 : Int).toNat _ = _
        rw [List.getD_eq_getElem?_getD, show (0 : Int).toNat = 0 from rfl, List.getElem?_eq_getElem (by omega), Option.getD_some]
      rw [eq] at hk0
      have hkl : (q ++ [rd_T74 x ((i - 1 : Nat) : Int)]).length ≤ 3000 := by
        rw [← eq]
        have := ks_split ks 0 (by omega)
        have h7 := congrArg List.length this
        simp only [List.length_append] at h7
        simp only [List.length_append, List.length_singleton] at hsl
        omega
      rw [nmOk, if_neg (show ¬ (rd_T74 x (i : Int)).f0 = 0 by omega), if_neg (show ¬ (rd_T74 x (i : Int)).f0 = 1 by omega), if_pos c2, decide_eq_true_eq] at hmn
      simp only [if_pos c2, hk1, if_pos (show (0 : Int) < ((1 : Nat) : Int) by decide), if_pos hm0, if_pos hmn, hrd]
      rw [trapAt, if_pos c2]
      simp only [known_eq hk0 hkl, Bool.false_and, Bool.not_false, Bool.and_true, Option.bind_some]
      cases kn (rd_T74 x ((i - 1 : Nat) : Int)) (rd c (rd_T74 x (i : Int)).f1)
      · simp only [Bool.false_eq_true, if_false, Bool.not_false, Bool.true_or]
        exact Ev.now _
      · simp only [if_true, Bool.not_true, Bool.false_or]
        exact ih'
    · rw [trapAt, if_neg c2]
      simp only [if_neg c2]
      by_cases c8 : (rd_T74 x (i : Int)).f0 = 8
      · rw [if_pos (Or.inl c8)]
        simp only [if_pos c8, beq_iff_eq.2 c8]
        exact dv (by rw [c8]; exact tks8)
      · simp only [if_neg c8]
        by_cases c9 : (rd_T74 x (i : Int)).f0 = 9
        · rw [if_pos (Or.inr c9)]
          simp only [beq_iff_eq.2 c9]
          exact dv (by rw [c9]; exact tks9)
        · rw [if_neg (by omega), Bool.false_or]
          simp only [beq_eq_false_iff_ne.2 c9]
          exact nxt
theorem oneBelow_eq (u : S74) (n : Int) : impl_oneBelow.f [u] n = some (kn u n) := by
  simp only [impl_oneBelow.f, List.length_singleton, rdTm_one, kn]
  rw [if_pos (by omega), if_pos (by omega)]
  by_cases c1 : u.f0 = 0
  · rw [if_pos c1, beq_iff_eq.2 c1, Bool.true_and]
  · rw [if_neg c1, beq_eq_false_iff_ne.2 c1, Bool.false_and]
theorem implMay_l (w : Int) (a b : List S106) (t : Int) (c : List Int) (y : List S114) (hc : c.length ≤ 2) (x : List S74) (h : expOk (x.map tmI) = true) (g vr : Int) (hnm : x.all (nmOk g vr (c.length : Int)) = true) (h0 : ∀ e ∈ x, 0 ≤ e.f1) (d : Nat) : ∀ i : Nat, i + d = x.length → Ev (fun k => impl_expTraps.l0 k [(⟨w, a, b, t, c, y⟩ : S36)] x x (x.length : Int) (i : Int)) (trapR c x i d) := by
  have hx := expOk_len h
  induction d with
  | zero =>
    intro i hi
    refine Ev.step (fun k => by rw [impl_expTraps.l0]) ?_
    simp only [if_neg (show ¬ (i : Int) < (x.length : Int) by omega)]
    exact Ev.now _
  | succ d ih =>
    intro i hi
    have hil : i < x.length := by omega
    have ih' := ih (i + 1) (by omega)
    obtain ⟨P, R, ks, e, hl, hs, hk, ht, hk3⟩ := kid_ex h hil
    have hm0 := h0 _ (List.getElem_mem hil)
    have hmn := List.all_eq_true.1 hnm _ (List.getElem_mem hil)
    rw [← rdTm_at x i hil] at hm0 hmn
    have i1 : 1 ≤ tks (rd_T74 x (i : Int)).f0 → 1 ≤ i := by
      intro h1
      have hk1 := hk (ks[ks.length - 1]'(by omega)) (List.getElem_mem _)
      exact (kid_prev hil e hl (q := []) (j := ks.length - 1) (by omega) hk1).1
    refine Ev.step (fun k => by rw [impl_expTraps.l0]) ?_
    rw [trapR_succ]
    simp only [if_pos (show (i : Int) < (x.length : Int) by omega), if_pos (show 0 ≤ (i : Int) by omega)]
    have dv : 1 ≤ i → Ev (fun k => impl_expTraps.j1 k [(⟨w, a, b, t, c, y⟩ : S36)] x (i : Int) x (x.length : Int) (i : Int) (rd_T74 x (i : Int)).f0 true (rd_T74 x (i : Int)).f0 (rd_T74 x (i : Int)).f1) (!((rd_T74 x ((i - 1 : Nat) : Int)).f0 == 0 && !((rd_T74 x ((i - 1 : Nat) : Int)).f1 == 0)) || trapR c x (i + 1) d) := by
      intro h1
      refine Ev.step (fun k => by rw [impl_expTraps.j1]) ?_
      rw [show wrap64 ((i : Int) - 1) = ((i - 1 : Nat) : Int) by rw [wrap_id (by omega) (by omega)]; omega]
      simp only [if_true, if_pos (show 0 ≤ ((i - 1 : Nat) : Int) by omega), if_pos (show ((i - 1 : Nat) : Int) < (x.length : Int) by omega), wrap_succ (show i < 9223372036854775807 by omega)]
      by_cases e0 : (rd_T74 x ((i - 1 : Nat) : Int)).f0 = 0
      · by_cases e1 : (rd_T74 x ((i - 1 : Nat) : Int)).f1 = 0
        · simp only [if_pos e0, if_pos e1, beq_iff_eq.2 e1, Bool.not_true, Bool.and_false, Bool.not_false, Bool.true_or]
          exact Ev.now _
        · simp only [if_pos e0, if_neg e1, beq_iff_eq.2 e0, beq_eq_false_iff_ne.2 e1, Bool.not_false, Bool.and_true, Bool.not_true, Bool.false_or]
          exact ih'
      · simp only [if_neg e0, beq_eq_false_iff_ne.2 e0, Bool.false_and, Bool.not_false, Bool.true_or]
        exact Ev.now _
    have no : ¬ ((rd_T74 x (i : Int)).f0 = 8 ∨ (rd_T74 x (i : Int)).f0 = 9) → Ev (fun k => impl_expTraps.j1 k [(⟨w, a, b, t, c, y⟩ : S36)] x (i : Int) x (x.length : Int) (i : Int) (rd_T74 x (i : Int)).f0 false (rd_T74 x (i : Int)).f0 (rd_T74 x (i : Int)).f1) (trapAt c x i || trapR c x (i + 1) d) := by
      intro h89
      refine Ev.step (fun k => by rw [impl_expTraps.j1]) ?_
      simp only [Bool.false_eq_true, if_false, rdPg, wrap_succ (show i < 9223372036854775807 by omega)]
      by_cases c2 : (rd_T74 x (i : Int)).f0 = 2
      · have h1 : 1 ≤ i := i1 (by rw [c2, tks2]; omega)
        rw [nmOk, if_neg (show ¬ (rd_T74 x (i : Int)).f0 = 0 by omega), if_neg (show ¬ (rd_T74 x (i : Int)).f0 = 1 by omega), if_pos c2, decide_eq_true_eq] at hmn
        rw [show wrap64 ((i : Int) - 1) = ((i - 1 : Nat) : Int) by rw [wrap_id (by omega) (by omega)]; omega]
        have hsl : (x.take i).drop (i - 1) = [rd_T74 x ((i - 1 : Nat) : Int)] := by
          rw [rdTm_at x (i - 1) (by omega)]
          have h7 : x.take i = x.take (i - 1) ++ [x[i - 1]] := by
            conv => lhs; rw [show i = (i - 1) + 1 by omega]
            exact List.take_succ_eq_append_getElem (by omega)
          rw [h7, List.drop_left' (by simp; omega)]
        simp only [if_pos c2, if_pos (show 0 ≤ ((i - 1 : Nat) : Int) by omega), if_pos (show ((i - 1 : Nat) : Int) ≤ (i : Int) by omega), if_pos (show (i : Int) ≤ (x.length : Int) by omega), if_pos hm0, if_pos hmn, Int.toNat_natCast, hsl, oneBelow_eq, Option.bind_some]
        rw [trapAt, if_pos c2]
        cases kn (rd_T74 x ((i - 1 : Nat) : Int)) (rd c (rd_T74 x (i : Int)).f1)
        · simp only [Bool.false_eq_true, if_false, Bool.not_false, Bool.true_or]
          exact Ev.now _
        · simp only [if_true, Bool.not_true, Bool.false_or]
          exact ih'
      · simp only [if_neg c2]
        rw [trapAt, if_neg c2, if_neg h89, Bool.false_or]
        exact ih'
    by_cases c8 : (rd_T74 x (i : Int)).f0 = 8
    · simp only [if_pos c8]
      rw [show ((rd_T74 x (i : Int)).f0 == 8) = true from beq_iff_eq.2 c8, trapAt, if_neg (show ¬ (rd_T74 x (i : Int)).f0 = 2 by omega), if_pos (Or.inl c8)]
      exact dv (i1 (by rw [c8, tks8]; omega))
    · simp only [if_neg c8]
      by_cases c9 : (rd_T74 x (i : Int)).f0 = 9
      · rw [show ((rd_T74 x (i : Int)).f0 == 9) = true from beq_iff_eq.2 c9, trapAt, if_neg (show ¬ (rd_T74 x (i : Int)).f0 = 2 by omega), if_pos (Or.inr c9)]
        exact dv (i1 (by rw [c9, tks9]; omega))
      · rw [show ((rd_T74 x (i : Int)).f0 == 9) = false from beq_eq_false_iff_ne.2 c9]
        exact no (by omega)
theorem hgt_all (l : List Tm) : ∀ (h k : Int), hgt l h = some k → ∀ t ∈ l, tmOk t := by
  induction l with
  | nil => intro h k _ t ht; cases ht
  | cons u l ih =>
    intro h k hh t ht
    rw [hgt] at hh
    by_cases c : tmOk u ∧ tks u.op ≤ h
    · rw [if_pos c] at hh
      rcases List.mem_cons.1 ht with rfl | ht
      · exact c.1
      · exact ih _ _ hh t ht
    · rw [if_neg c] at hh; cases hh
theorem expOk_n {x : List S74} (h : expOk (x.map tmI) = true) : ∀ e ∈ x, 0 ≤ e.f1 := by
  intro e he
  simp only [expOk, Bool.and_eq_true, decide_eq_true_eq] at h
  have := hgt_all _ _ _ h.2 (tmI e) (List.mem_map_of_mem he)
  exact this.2.1
theorem mayTrap_all (w : Int) (a b : List S106) (ha : a.length ≤ 1048576) (hb : b.length ≤ 1048576) (t : Int) (c : List Int) (x : List S114) (hx : x.length ≤ 1048576) (hq : ∀ s ∈ x, s.f2.length ≤ 1048576 ∧ s.f3.length ≤ 1048576) (l : List S74) (hl : l.length ≤ 1048576) :
    ∃ r : Bool, Ev (fun k => spec_MayTrap.f k w a b t c x l) r ∧ Ev (fun k => impl_MayTrap.f k w a b t c x l) r := by
  obtain ⟨r, k1, k2, k3⟩ := progOk_all w a b ha hb t c x hx hq
  cases r
  · refine ⟨false, ?_, ?_⟩
    · simp only [spec_MayTrap.f]
      refine Ev.bind k1 ?_
      simp only [Bool.false_eq_true, if_false]
      exact Ev.now _
    · simp only [impl_MayTrap.f]
      refine Ev.bind k2 ?_
      simp only [Bool.false_eq_true, if_false]
      exact Ev.now _
  obtain ⟨n, nd, v, rfl, h⟩ := k3 rfl
  obtain ⟨_, _, c2, _, _⟩ := roomOk_iff.1 h.room
  have s1 := specExp_ev h.rt c x l hl
  have s2 := implStand_ev h.rt c x l hl
  cases e : exR n a b t c l
  · rw [e] at s1 s2
    refine ⟨false, ?_, ?_⟩
    · simp only [spec_MayTrap.f]
      refine Ev.bind k1 ?_
      simp only [if_true]
      refine Ev.bind s1 ?_
      simp only [Bool.false_eq_true, if_false]
      exact Ev.now _
    · simp only [impl_MayTrap.f]
      refine Ev.bind k2 ?_
      simp only [if_true]
      refine Ev.bind s2 ?_
      simp only [Bool.false_eq_true, if_false]
      exact Ev.now _
  · rw [e] at s1 s2
    have e' := e
    simp only [exR, expR, Bool.and_eq_true] at e'
    obtain ⟨_, _, eo, en⟩ := e'
    have h0 := expOk_n eo
    refine ⟨trapR c l 0 l.length, ?_, ?_⟩
    · simp only [spec_MayTrap.f]
      refine Ev.bind k1 ?_
      simp only [if_true]
      refine Ev.bind s1 ?_
      simp only [if_true, spec_l9May.f]
      exact Ev.bind (specMay_l n h.rt.hn a b t c x c2 l eo (vrs a b t) en h0 l.length 0 (by omega)) (Ev.now _)
    · simp only [impl_MayTrap.f]
      refine Ev.bind k2 ?_
      simp only [if_true]
      refine Ev.bind s2 ?_
      simp only [if_true, impl_expTraps.f]
      exact Ev.bind (implMay_l (n : Int) a b t c x c2 l eo _ (vrs a b t) en h0 l.length 0 (by omega)) (Ev.now _)

def Want_FnExactMayTrap : Prop := ∀ (a0_0 : Int) (l0_1 : List (S128)) (l0_2 : List (S128)) (a0_3 : Int) (l0_4 : List (Int)) (l0_5 : List (S126)) (l1 : List (S122)), ((Lit.int .i64 a0_0).wf = true ∧ ((l0_1.length ≤ 9223372036854775807 ∧ ∀ u1 ∈ l0_1, ((Lit.int .i64 u1.f0).wf = true ∧ (Lit.int .i64 u1.f1).wf = true)) ∧ ((l0_2.length ≤ 9223372036854775807 ∧ ∀ u2 ∈ l0_2, ((Lit.int .i64 u2.f0).wf = true ∧ (Lit.int .i64 u2.f1).wf = true)) ∧ ((Lit.int .i64 a0_3).wf = true ∧ ((l0_4.length ≤ 9223372036854775807 ∧ ∀ u3 ∈ l0_4, (Lit.int .i64 u3).wf = true) ∧ (l0_5.length ≤ 9223372036854775807 ∧ ∀ u4 ∈ l0_5, ((Lit.int .i64 u4.f0).wf = true ∧ ((Lit.int .i64 u4.f1).wf = true ∧ ((u4.f2.length ≤ 9223372036854775807 ∧ ∀ u5 ∈ u4.f2, ((Lit.int .i64 u5.f0).wf = true ∧ (Lit.int .i64 u5.f1).wf = true)) ∧ (u4.f3.length ≤ 9223372036854775807 ∧ ∀ u6 ∈ u4.f3, ((Lit.int .i64 u6.f0).wf = true ∧ (Lit.int .i64 u6.f1).wf = true))))))))))) → (l1.length ≤ 9223372036854775807 ∧ ∀ u7 ∈ l1, ((Lit.int .i64 u7.f0).wf = true ∧ (Lit.int .i64 u7.f1).wf = true)) → ∃ k, laws_FnExactMayTrap.f k a0_0 l0_1 l0_2 a0_3 l0_4 l0_5 l1 = some true
theorem FnExactMayTrap : Want_FnExactMayTrap := by
  intro w a b t c d l ⟨_, ha, hb, _, hc, hd⟩ hl
  refine Ev.rounds ?_
  simp only [laws_FnExactMayTrap.f]
  obtain ⟨r, er, hr⟩ := szProg_ex w t a b c d 1048576 (by omega) (by omega) ha.1 hb.1 hc.1 hd.1 (fun s hs => ⟨(hd.2 s hs).2.2.1.1, (hd.2 s hs).2.2.2.1⟩)
  refine Ev.bind er ?_
  by_cases cr : r < 0
  · simp only [if_pos cr]; exact Ev.now _
  simp only [if_neg cr]
  have hr' : 0 ≤ r ∧ r ≤ 1048576 ∧ okPg a b c d := by
    rcases hr with h | h
    · exact absurd h cr
    · exact h
  have ok := hr'.2.2
  rw [szTermS_eq l r hr'.1 hr'.2.1 hl.1]
  simp only [Option.bind_some]
  by_cases cq : r - (l.length : Int) < 0
  · simp only [if_pos cq, if_pos (show (-1 : Int) < 0 by decide)]; exact Ev.now _
  simp only [if_neg cq]
  have hll : l.length ≤ 1048576 := by omega
  have e1 := toProg_ev w t a b c d ok
  have e2 := toTermS_ev l hll
  obtain ⟨v, k1, k2⟩ := mayTrap_all w (a.map inL) (b.map inL) (by simpa using ok.1) (by simpa using ok.2.1) t c (d.map stL) (by simpa using ok.2.2.2.1) (stL_ok ok.2.2.2.2) (l.map tmL) (by simpa using hll)
  refine Ev.bind e1 ?_
  refine Ev.bind e2 ?_
  refine Ev.bind k1 ?_
  refine Ev.bind e1 ?_
  refine Ev.bind e2 ?_
  refine Ev.bind k2 ?_
  simp only [bne_self_eq_false, Bool.false_eq_true, if_false]
  refine Ev.bind e1 ?_
  refine Ev.bind (eqProg_same w t a b c d ok) ?_
  simp only [if_true]
  refine Ev.bind e2 ?_
  refine Ev.bind (eqTermS_same (l.map tmL) (by simp; omega)) ?_
  simp only [if_true]
  exact Ev.now _
end Go.Proofs.Ytakmkdlkipfnhaa.Pure

/- Runs in plain Lean: a state, what a statement and nodes do to it, what stays right. No program in sight. -/
import Derived.Test.YtbhdobjjhkkpkaaEngXr
namespace Go.Eng.C
open Go Go.Eng Go.RowKit Go.Proofs
set_option linter.unusedVariables false
set_option linter.unusedSimpArgs false
theorem VFit.tl {p : Pr} {v : Vs} {t : Tm} {l : List Tm} (h : VFit p v (t :: l)) : VFit p v l := ⟨h.vs, fun x hx => h.num x (List.mem_cons_of_mem _ hx), fun x hx => h.var x (List.mem_cons_of_mem _ hx), fun x hx => h.cell x (List.mem_cons_of_mem _ hx)⟩
/-- What a term gives is a value. -/
theorem valIn {p : Pr} {v : Vs} {t : Tm} {l : List Tm} (w1 : 1 ≤ p.w) (w8 : p.w ≤ 8) (hv : VFit p v (t :: l)) (h0 : 0 ≤ tks t.op) (h1 : 0 ≤ t.n) {x : List Int} (hx : ∀ y ∈ x, inW p.w y) (hl : (x.length : Int) = tks t.op) : inW p.w (val1 p.w v t x).1 := by
  obtain ⟨hsz, hsz8⟩ := sizeW_bd w8
  have hz : inW p.w 0 := ⟨Int.le_refl 0, hsz⟩
  have g : ∀ j, j < x.length → inW p.w (x.getD j 0) := fun j hj => getD_in (q := inW p.w) hx hj
  have hop : t.op = 0 ∨ t.op = 1 ∨ t.op = 2 ∨ (t.op = 3 ∨ t.op = 4) ∨ t.op = 17 ∨ (5 ≤ t.op ∧ t.op ≤ 16) := by unfold tks at h0; omega
  rcases hop with h | h | h | h | h | h
  · simp only [val1]; rw [if_pos h]; exact ⟨h1, hv.num t (by simp) h⟩
  · simp only [val1]; rw [if_neg (by omega), if_pos h]
    have := hv.var t (by simp) h
    exact getD_in (q := inW p.w) hv.vs (by omega)
  · have hk : tks t.op = 1 := by rw [h]; rfl
    obtain ⟨c1, c2, c3, c4⟩ := hv.cell t (by simp) h h1
    simp only [val1]; rw [if_neg (by omega), if_neg (by omega), if_pos h]
    have h2 := g 0 (by omega)
    split
    · have h3 := h2.1
      exact getD_in (q := inW p.w) c4 (by omega)
    · exact hz
  · have hk : tks t.op = 1 := by rcases h with h | h <;> rw [h] <;> rfl
    simp only [val1]; rw [if_neg (by omega), if_neg (by omega), if_neg (by omega), if_pos h]
    have h2 := g 0 (by omega)
    exact tn_bd8 w8 h h2.1 h2.2
  · have hk : tks t.op = 3 := by rw [h]; rfl
    simp only [val1]; rw [if_neg (by omega), if_neg (by omega), if_neg (by omega), if_neg (by omega), if_pos h]
    dsimp only
    split
    · exact g 1 (by omega)
    · exact g 2 (by omega)
  · have hk : tks t.op = 2 := by unfold tks; rw [if_neg (by omega), if_neg (by omega), if_pos h]
    simp only [val1]; rw [if_neg (by omega), if_neg (by omega), if_neg (by omega), if_neg (by omega), if_neg (by omega)]
    split
    · exact hz
    · have h2 := g 0 (by omega)
      have h3 := g 1 (by omega)
      exact jn_bd8 w8 w1 h.1 h.2 h2.1 h2.2 h3.1 h3.2
theorem rpIn {p : Pr} {v : Vs} (w1 : 1 ≤ p.w) (w8 : p.w ≤ 8) : ∀ (l : List Tm) (s : List Int), VFit p v l → hgt l s.length = some 1 → (∀ x ∈ s, inW p.w x) → inW p.w (rp p.w v l s).1
  | [], s, hv, hh, hs => by
    simp only [hgt, Option.some.injEq] at hh
    exact getD_in (q := inW p.w) hs (by omega)
  | t :: l, s, hv, hh, hs => by
    simp only [hgt] at hh
    split at hh
    case isFalse => cases hh
    rename_i htk
    obtain ⟨⟨t0, t1, t2, t3⟩, htk⟩ := htk
    have htr := tks_range t.op
    simp only [rp]
    have hlen : ((s.drop (s.length - (tks t.op).toNat)).length : Int) = tks t.op := by simp; omega
    have hin := valIn w1 w8 hv t0 t1 (x := s.drop (s.length - (tks t.op).toNat)) (fun y hy => hs y (List.mem_of_mem_drop hy)) hlen
    refine rpIn w1 w8 l _ hv.tl ?_ (fun x hx => ?_)
    · rw [← hh]; congr 1; simp; omega
    · rcases List.mem_append.1 hx with h | h
      · exact hs x (List.mem_of_mem_take h)
      · simp only [List.mem_singleton] at h; subst h; exact hin
/-- What goes wrong: nothing, 1 or 2. -/
theorem rp_tr (w : Int) (v : Vs) : ∀ (l : List Tm) (s : List Int), (rp w v l s).2 = 0 ∨ (rp w v l s).2 = 1 ∨ (rp w v l s).2 = 2
  | [], s => by simp [rp]
  | t :: l, s => by
    have ih := rp_tr w v l (s.take (s.length - (tks t.op).toNat) ++ [(val1 w v t (s.drop (s.length - (tks t.op).toNat))).1])
    have h1 : ∀ x, (val1 w v t x).2 = 0 ∨ (val1 w v t x).2 = 1 ∨ (val1 w v t x).2 = 2 := by
      intro x; unfold val1; repeat' split
      all_goals simp
    have h2 := h1 (s.drop (s.length - (tks t.op).toNat))
    simp only [rp]
    split
    · exact h2
    · exact ih
theorem rkIn {p : Pr} {v : Vs} {e : List Tm} (w1 : 1 ≤ p.w) (w8 : p.w ≤ 8) (he : reckOk p e) (hv : EOk p v) : inW p.w (rk p.w v e []).1 ∧ ((rk p.w v e []).2 = 0 ∨ (rk p.w v e []).2 = 1 ∨ (rk p.w v e []).2 = 2) := by
  have hf := hv.fit he
  obtain ⟨hsz, hsz8⟩ := sizeW_bd w8
  have he1 := he.1
  simp only [expOk, Bool.and_eq_true, decide_eq_true_eq] at he1
  have h1 := rpIn w1 w8 e [] hf he1.2 (fun x hx => by simp at hx)
  have h2 := rp_tr p.w v e []
  rw [rk_rp]
  split
  · exact ⟨⟨Int.le_refl 0, hsz⟩, h2⟩
  · exact ⟨h1, .inl rfl⟩
/-- A run under way: values and cells, what was put out. -/
structure Mc where
  v : Vs
  o : List Int
abbrev Rn := Mc × Int × Int
def setV (v : Vs) (n : Nat) (x : Int) : Vs := ⟨v.vars.set n x, v.cells⟩
def setC (v : Vs) (n i : Nat) (x : Int) : Vs := ⟨v.vars, v.cells.set n ((v.cells.getD n []).set i x)⟩
/-- So many times, up to the first that does not end well. -/
def times (f : Mc → Rn) : Nat → Mc → Rn
  | 0, s => (s, 0, 0)
  | k + 1, s => if (f s).2.1 ≠ 0 then f s else times f k (f s).1
def putN (p : Pr) (t : St) (s : Mc) : Rn :=
  if (rk p.w s.v t.pl []).2 ≠ 0 then (s, 2, (rk p.w s.v t.pl []).2)
  else if (rk p.w s.v t.ex []).2 ≠ 0 then (s, 2, (rk p.w s.v t.ex []).2)
  else if ((s.v.cells.getD t.n.toNat []).length : Int) ≤ (rk p.w s.v t.pl []).1 then (s, 2, 2)
  else (⟨setC s.v t.n.toNat (rk p.w s.v t.pl []).1.toNat (rk p.w s.v t.ex []).1, s.o⟩, 0, 0)
/-- What a statement does, with what is within it and behind its middle. -/
def stpN (p : Pr) (t : St) (fb fo : Mc → Rn) (ct : Int) (s : Mc) : Rn :=
  if t.op = 1 then putN p t s
  else if t.op = 7 then (s, 1, t.n)
  else if t.op = 5 then times fb t.n.toNat s
  else if t.op = 8 then if (fb s).2.1 = 1 ∧ (fb s).2.2 = ct then fo (fb s).1 else fb s
  else if (rk p.w s.v t.ex []).2 ≠ 0 then (s, 2, (rk p.w s.v t.ex []).2)
  else if t.op = 0 then (⟨setV s.v t.n.toNat (rk p.w s.v t.ex []).1, s.o⟩, 0, 0)
  else if t.op = 6 then (⟨s.v, s.o ++ [(rk p.w s.v t.ex []).1]⟩, 0, 0)
  else if (rk p.w s.v t.ex []).1 ≠ 0 then fb s else fo s
/-- What is caught by the middle of what begins at a place. -/
def catN (p : Pr) (a : Nat) : Int := nA p.body (midI (E p.body a)).toNat
def runN (p : Pr) : Ns → Mc → Rn
  | .nil => fun s => (s, 0, 0)
  | .cons a b o r => fun s => if (stpN p (p.body.getD a zst) (runN p b) (runN p o) (catN p a) s).2.1 ≠ 0 then stpN p (p.body.getD a zst) (runN p b) (runN p o) (catN p a) s else runN p r (stpN p (p.body.getD a zst) (runN p b) (runN p o) (catN p a) s).1
/-- A state that is right. -/
structure MOk (p : Pr) (s : Mc) : Prop where
  v : EOk p s.v
  o : ∀ x ∈ s.o, inW p.w x
/-- What comes of a state that is right, with no more than so many put out. -/
structure Good (p : Pr) (s : Mc) (m : Int) (q : Rn) : Prop where
  k : MOk p q.1
  l : (q.1.o.length : Int) ≤ s.o.length + m
  e : q.2.1 = 0 ∨ q.2.1 = 1 ∨ q.2.1 = 2
  c : q.2.1 = 0 → q.2.2 = 0
theorem Good.mono {p : Pr} {s : Mc} {m m' : Int} {q : Rn} (h : Good p s m q) (hm : m ≤ m') : Good p s m' q := ⟨h.k, by have := h.l; omega, h.e, h.c⟩
theorem Good.same {p : Pr} {s : Mc} (h : MOk p s) (e c : Int) (he : e = 0 ∨ e = 1 ∨ e = 2) (hc : e = 0 → c = 0) : Good p s 0 (s, e, c) := ⟨h, by simp, he, hc⟩
theorem Good.then {p : Pr} {s : Mc} {m m' : Int} {q q' : Rn} (h : Good p s m q) (h' : Good p q.1 m' q') : Good p s (m + m') q' := ⟨h'.k, by have := h.l; have := h'.l; omega, h'.e, h'.c⟩
theorem times_good {p : Pr} {f : Mc → Rn} {m : Int} (h0 : 0 ≤ m) (hf : ∀ s, MOk p s → Good p s m (f s)) : ∀ (k : Nat) (s : Mc), MOk p s → Good p s (k * m) (times f k s)
  | 0, s, hs => by
    simp only [times]
    exact (Good.same hs 0 0 (.inl rfl) (fun _ => rfl)).mono (by simp)
  | k + 1, s, hs => by
    have h1 := hf s hs
    have hk : 0 ≤ (k : Int) * m := Int.mul_nonneg (by omega) h0
    have e : (((k + 1 : Nat) : Int)) * m = m + k * m := by rw [Int.natCast_add, Int.add_mul]; omega
    simp only [times]
    rw [e]
    split
    · exact h1.mono (by omega)
    · exact h1.then (times_good h0 hf k _ h1.k)
theorem mem_set {α : Type} {l : List α} {i : Nat} {x y : α} (h : y ∈ l.set i x) : y ∈ l ∨ y = x := List.mem_or_eq_of_mem_set h
theorem EOk.setV {p : Pr} {v : Vs} (h : EOk p v) (n : Nat) {x : Int} (hx : inW p.w x) : EOk p (setV v n x) := by
  refine ⟨by simpa [C.setV] using h.n, fun y hy => ?_, h.m, h.c⟩
  rcases mem_set hy with h1 | h1
  · exact h.vs y h1
  · subst h1; exact hx
theorem EOk.setC {p : Pr} {v : Vs} (h : EOk p v) (n i : Nat) {x : Int} (hx : inW p.w x) : EOk p (setC v n i x) := by
  refine ⟨h.n, h.vs, by simpa [C.setC] using h.m, fun j hj => ?_⟩
  obtain ⟨c1, c2⟩ := h.c j hj
  have hm := h.m
  simp only [C.setC]
  by_cases e : n = j
  · subst e
    have e1 : (v.cells.set n ((v.cells.getD n []).set i x)).getD n [] = (v.cells.getD n []).set i x := by
      rw [List.getD_eq_getElem?_getD, List.getElem?_set_self (by omega)]; rfl
    rw [e1]
    refine ⟨by simpa using c1, fun y hy => ?_⟩
    rcases mem_set hy with h1 | h1
    · exact c2 y h1
    · subst h1; exact hx
  · have e1 : (v.cells.set n ((v.cells.getD n []).set i x)).getD j [] = v.cells.getD j [] := by
      rw [List.getD_eq_getElem?_getD, List.getElem?_set_ne e, ← List.getD_eq_getElem?_getD]
    rw [e1]
    exact ⟨c1, c2⟩
/-- Nodes that stand in the body as they should. -/
def gdN (p : Pr) : Ns → Prop
  | .nil => True
  | .cons a b o r => (a < p.body.length ∧ opA p.body a ≠ 3 ∧ opA p.body a ≠ 4 ∧ opA p.body a ≠ 9 ∧ (opA p.body a = 8 → ∃ c : Nat, midI (E p.body a) = c ∧ c < p.body.length)) ∧ gdN p b ∧ gdN p o ∧ gdN p r
theorem Bk.gd {p : Pr} {a s : Nat} {r : Ns} (h : Bk p.body a s r) : gdN p r := by
  induction h with
  | nil => trivial
  | leaf h hs hn _ ih =>
    unfold stopA at hs; unfold nestA at hn
    exact ⟨⟨h, by omega, by omega, by omega, by omega⟩, trivial, trivial, ih⟩
  | one h hn _ _ _ _ ih1 ih2 => exact ⟨⟨h, by omega, by omega, by omega, by omega⟩, ih1, trivial, ih2⟩
  | @two a c e s b o r h hn _ _ he hE _ ih1 ih2 ih3 =>
    refine ⟨⟨h, ?_, ?_, ?_, fun _ => ⟨c, by rw [hE]; rfl, ?_⟩⟩, ih1, ih2, ih3⟩
    · rcases hn with h | h <;> omega
    · rcases hn with h | h <;> omega
    · rcases hn with h | h <;> omega
    · rcases hn with h | h <;> exact h.2.1
/-- The least that a program must be for runs. -/
structure RP (p : Pr) : Prop where
  w1 : 1 ≤ p.w
  w8 : p.w ≤ 8
  s : ∀ s ∈ p.body, stOk p s
  a : p.arrs.length ≤ 2
  an : ∀ n ∈ p.arrs, 1 ≤ n ∧ n ≤ 6
theorem PrOk.rp {p : Pr} (h : PrOk p) : RP p := ⟨h.w0, h.w8, h.s, h.r.2.2.1, h.r.2.2.2.2⟩
theorem RP.at_ {p : Pr} (h : RP p) {a : Nat} (ha : a < p.body.length) : stOk p (p.body.getD a zst) := h.s _ (by simp [List.getD_eq_getElem?_getD, ha])
theorem putN_good {p : Pr} (hp : RP p) {t : St} (ht : stOk p t) (h1 : t.op = 1) {s : Mc} (hs : MOk p s) : Good p s 0 (putN p t s) := by
  obtain ⟨m1, m2, m3, m4⟩ := (stOk1 h1).1 ht
  obtain ⟨a1, a2⟩ := rkIn hp.w1 hp.w8 m1.2.1 hs.v
  obtain ⟨b1, b2⟩ := rkIn hp.w1 hp.w8 m2.2.1 hs.v
  unfold putN
  split
  · exact Good.same hs 2 _ (by omega) (by omega)
  · split
    · exact Good.same hs 2 _ (by omega) (by omega)
    · split
      · exact Good.same hs 2 2 (by omega) (by omega)
      · exact ⟨⟨hs.v.setC _ _ b1, hs.o⟩, by simp, .inl rfl, fun _ => rfl⟩
theorem stpN_good {p : Pr} (hp : RP p) {a : Nat} (ha : a < p.body.length) (hn : opA p.body a ≠ 3 ∧ opA p.body a ≠ 4 ∧ opA p.body a ≠ 9) {fb fo : Mc → Rn} {b o : Ns} (hb0 : 0 ≤ stp p.body b) (ho0 : 0 ≤ stp p.body o) (hb : ∀ s, MOk p s → Good p s (stp p.body b) (fb s)) (ho : ∀ s, MOk p s → Good p s (stp p.body o) (fo s)) (ct : Int) (s : Mc) (hs : MOk p s) : Good p s (stp p.body (.cons a b o .nil)) (stpN p (p.body.getD a zst) fb fo ct s) := by
  have ht := hp.at_ ha
  have hop : opA p.body a = (p.body.getD a zst).op := rfl
  have hnA : nA p.body a = (p.body.getD a zst).n := rfl
  obtain ⟨M, hM⟩ : ∃ M, M = stp p.body (.cons a b o .nil) := ⟨_, rfl⟩
  rw [← hM]
  simp only [stp] at hM
  rw [hnA, hop] at hM
  rw [hop] at hn
  clear hop hnA
  generalize p.body.getD a zst = t at *
  have hop2 : t.op = 0 ∨ t.op = 1 ∨ t.op = 2 ∨ t.op = 5 ∨ t.op = 6 ∨ t.op = 7 ∨ t.op = 8 := by
    by_cases h : 0 ≤ t.op ∧ t.op ≤ 9
    · omega
    · exact absurd ht (stOkN h)
  unfold stpN
  rcases hop2 with h | h | h | h | h | h | h
  · have m := (stOk0 h).1 ht
    obtain ⟨a1, a2⟩ := rkIn hp.w1 hp.w8 m.2.1.2.1 hs.v
    rw [if_neg (by omega), if_neg (by omega), if_neg (by omega)] at hM
    rw [if_neg (by omega), if_neg (by omega), if_neg (by omega), if_neg (by omega), if_pos h]
    split
    · exact (Good.same hs 2 _ (by omega) (by omega)).mono (by omega)
    · exact ⟨⟨hs.v.setV _ a1, hs.o⟩, by simp only; omega, .inl rfl, fun _ => rfl⟩
  · rw [if_neg (by omega), if_neg (by omega), if_neg (by omega)] at hM
    rw [if_pos h]
    exact (putN_good hp ht h hs).mono (by omega)
  · have m := (stOk26 (.inl h)).1 ht
    obtain ⟨a1, a2⟩ := rkIn hp.w1 hp.w8 m.2.1.2.1 hs.v
    rw [if_pos h] at hM
    rw [if_neg (by omega), if_neg (by omega), if_neg (by omega), if_neg (by omega), if_neg (show ¬ t.op = 0 by omega), if_neg (show ¬ t.op = 6 by omega)]
    split
    · exact (Good.same hs 2 _ (by omega) (by omega)).mono (by omega)
    · split
      · exact (hb s hs).mono (by omega)
      · exact (ho s hs).mono (by omega)
  · have m := (stOk5 h).1 ht
    rw [if_neg (by omega), if_pos h] at hM
    rw [if_neg (by omega), if_neg (by omega), if_pos h]
    have h1 := times_good hb0 hb t.n.toNat s hs
    refine h1.mono ?_
    have e : ((t.n.toNat : Nat) : Int) = t.n := by omega
    rw [e, hM, Int.mul_add]
    omega
  · have m := (stOk26 (.inr h)).1 ht
    obtain ⟨a1, a2⟩ := rkIn hp.w1 hp.w8 m.2.1.2.1 hs.v
    rw [if_neg (by omega), if_neg (by omega), if_neg (by omega)] at hM
    rw [if_neg (by omega), if_neg (by omega), if_neg (by omega), if_neg (by omega), if_neg (show ¬ t.op = 0 by omega), if_pos h]
    split
    · exact (Good.same hs 2 _ (by omega) (by omega)).mono (by omega)
    · refine ⟨⟨hs.v, fun x hx => ?_⟩, by simp only [List.length_append, List.length_cons, List.length_nil]; omega, .inl rfl, fun _ => rfl⟩
      rcases List.mem_append.1 hx with h | h
      · exact hs.o x h
      · simp only [List.mem_singleton] at h; subst h; exact a1
  · rw [if_neg (by omega), if_neg (by omega), if_neg (by omega)] at hM
    rw [if_neg (by omega), if_pos h]
    exact (Good.same hs 1 _ (by omega) (by omega)).mono (by omega)
  · rw [if_neg (by omega), if_neg (by omega), if_pos h] at hM
    rw [if_neg (by omega), if_neg (by omega), if_neg (by omega), if_pos h]
    split
    · exact ((hb s hs).then (ho _ (hb s hs).k)).mono (by omega)
    · exact (hb s hs).mono (by omega)
theorem stp_cons (x : List St) (a : Nat) (b o r : Ns) : stp x (.cons a b o r) = stp x (.cons a b o .nil) + stp x r := by simp only [stp]; omega
theorem gdN.ok {p : Pr} : ∀ {r : Ns}, gdN p r → okN p.body r
  | .nil, _ => trivial
  | .cons a b o r, h => ⟨h.1.1, gdN.ok h.2.1, gdN.ok h.2.2.1, gdN.ok h.2.2.2⟩
theorem runN_good {p : Pr} (hp : RP p) : ∀ (r : Ns), gdN p r → ∀ (s : Mc), MOk p s → Good p s (stp p.body r) (runN p r s)
  | .nil, _, s, hs => by
    simp only [runN, stp]
    exact Good.same hs 0 0 (.inl rfl) (fun _ => rfl)
  | .cons a b o r, h, s, hs => by
    obtain ⟨⟨h1, h2, h3, h4, h5⟩, hb, ho, hr⟩ := h
    have hL := loop_ok hp.s
    have b0 := stp_nn hL hb.ok
    have o0 := stp_nn hL ho.ok
    have r0 := stp_nn hL hr.ok
    have q := stpN_good hp h1 ⟨h2, h3, h4⟩ b0 o0 (runN_good hp b hb) (runN_good hp o ho) (catN p a) s hs
    rw [stp_cons]
    simp only [runN]
    split
    · exact q.mono (by omega)
    · exact q.then (runN_good hp r hr _ q.k)
/-- What a run starts from is right. -/
theorem stV_ok {p : Pr} {a b : List Int} (ha : a.length = p.lows.length) (hb : b.length = p.secs.length) (t0 : 0 ≤ p.temps) (hsz : 0 < sizeW p.w) (ha2 : ∀ x ∈ a, inW p.w x) (hb2 : ∀ x ∈ b, inW p.w x) (hn : ∀ n ∈ p.arrs, 1 ≤ n ∧ n ≤ 6) : EOk p ⟨a ++ b ++ List.replicate p.temps.toNat 0, p.arrs.map fun n => List.replicate n.toNat 0⟩ := by
  have hz : inW p.w 0 := ⟨Int.le_refl 0, hsz⟩
  refine ⟨?_, fun x hx => ?_, by simp, fun i hi => ?_⟩
  · simp only [List.length_append, List.length_replicate, varsN, insN, ha, hb]; omega
  · simp only [List.mem_append, List.mem_replicate] at hx
    rcases hx with (h | h) | h
    · exact ha2 x h
    · exact hb2 x h
    · rw [h.2]; exact hz
  · have e : (p.arrs.map fun n => List.replicate n.toNat (0 : Int)).getD i [] = List.replicate (p.arrs.getD i 0).toNat 0 := by
      simp [List.getD_eq_getElem?_getD, hi]
    have hm : p.arrs.getD i 0 ∈ p.arrs := by simp [List.getD_eq_getElem?_getD, hi]
    have h1 := hn _ hm
    simp only [e]
    refine ⟨by simp only [List.length_replicate]; omega, fun x hx => ?_⟩
    rw [List.mem_replicate] at hx
    rw [hx.2]; exact hz
end Go.Eng.C

/- Flows in plain Lean: labels, one round over all statements, and that it comes to an end. No program in sight. -/
import Derived.Test.YtbhdobjjhkkpkaaEngPa
namespace Go.Eng.C
open Go Go.RowKit
set_option linter.unusedVariables false
set_option linter.unusedSimpArgs false
set_option maxRecDepth 10000
/-- A label: secrets of at most three. -/
def L8 (x : Int) : Prop := 0 ≤ x ∧ x < 8
theorem L8.fin {x : Int} (h : L8 x) : ∃ k : Fin 8, x = k.val := fin_of (n := 8) h.1 h.2
theorem orI_8 {a b : Int} (ha : L8 a) (hb : L8 b) : L8 (orI a b) := by
  have h : ∀ x y : Fin 8, 0 ≤ orI x.val y.val ∧ orI x.val y.val < 8 := by decide +kernel
  obtain ⟨x, rfl⟩ := ha.fin; obtain ⟨y, rfl⟩ := hb.fin
  exact h x y
theorem orI_comm {a b : Int} (ha : L8 a) (hb : L8 b) : orI a b = orI b a := by
  have h : ∀ x y : Fin 8, orI x.val y.val = orI y.val x.val := by decide +kernel
  obtain ⟨x, rfl⟩ := ha.fin; obtain ⟨y, rfl⟩ := hb.fin
  exact h x y
theorem orI_assoc {a b c : Int} (ha : L8 a) (hb : L8 b) (hc : L8 c) : orI (orI a b) c = orI a (orI b c) := by
  have h : ∀ x y z : Fin 8, orI (orI x.val y.val) z.val = orI x.val (orI y.val z.val) := by decide +kernel
  obtain ⟨x, rfl⟩ := ha.fin; obtain ⟨y, rfl⟩ := hb.fin; obtain ⟨z, rfl⟩ := hc.fin
  exact h x y z
theorem orI_z {a : Int} (ha : L8 a) : orI 0 a = a ∧ orI a 0 = a ∧ orI a a = a := by
  have h : ∀ x : Fin 8, orI 0 x.val = x.val ∧ orI x.val 0 = x.val ∧ orI x.val x.val = x.val := by decide +kernel
  obtain ⟨x, rfl⟩ := ha.fin
  exact h x
theorem L8_0 : L8 0 := by unfold L8; omega
/-- How many secrets are in a label. -/
def pc (x : Int) : Nat := (x % 2 + x / 2 % 2 + x / 4 % 2).toNat
theorem pc_or {a b : Int} (ha : L8 a) (hb : L8 b) : a ≤ orI a b ∧ pc a ≤ pc (orI a b) ∧ pc a ≤ 3 ∧ (orI a b = a ∨ (a < orI a b ∧ pc a < pc (orI a b))) := by
  have h : ∀ x y : Fin 8, (x.val : Int) ≤ orI x.val y.val ∧ pc x.val ≤ pc (orI x.val y.val) ∧ pc x.val ≤ 3 ∧ (orI x.val y.val = x.val ∨ ((x.val : Int) < orI x.val y.val ∧ pc x.val < pc (orI x.val y.val))) := by decide +kernel
  obtain ⟨x, rfl⟩ := ha.fin; obtain ⟨y, rfl⟩ := hb.fin
  exact h x y
structure Fl where
  vars : List Int
  arrs : List Int
  esc : Int
  lk : Int
structure FlOk (p : Pr) (f : Fl) : Prop where
  nv : (f.vars.length : Int) = varsN p
  na : f.arrs.length = p.arrs.length
  v : ∀ x ∈ f.vars, L8 x
  a : ∀ x ∈ f.arrs, L8 x
  e : L8 f.esc
  l : L8 f.lk
theorem getD_8 {l : List Int} (h : ∀ x ∈ l, L8 x) (n : Nat) : L8 (l.getD n 0) := by
  by_cases hn : n < l.length
  · refine h _ ?_
    simp [List.getD_eq_getElem?_getD, hn]
  · rw [List.getD_eq_getElem?_getD, List.getElem?_eq_none (by omega)]; exact L8_0
/-- The labels of what is named are united. -/
def labL (f : Fl) : List Tm → Int → Int
  | [], m => m
  | t :: l, m => labL f l (if t.op = 1 then orI m (f.vars.getD t.n.toNat 0) else if t.op = 2 then orI m (f.arrs.getD t.n.toNat 0) else m)
theorem labL_8 {p : Pr} {f : Fl} (h : FlOk p f) : ∀ (e : List Tm) (m : Int), L8 m → L8 (labL f e m)
  | [], m, hm => hm
  | t :: l, m, hm => by
    simp only [labL]
    refine labL_8 h l _ ?_
    split
    · exact orI_8 hm (getD_8 h.v _)
    · split
      · exact orI_8 hm (getD_8 h.a _)
      · exact hm
def lab (f : Fl) (e : List Tm) : Int := labL f e 0
theorem lab_8 {p : Pr} {f : Fl} (h : FlOk p f) (e : List Tm) : L8 (lab f e) := labL_8 h e 0 L8_0
/-- Several united, onto one. -/
def ctxL (f : Fl) : List St → Int → Int
  | [], m => m
  | s :: l, m => ctxL f l (orI m (lab f s.ex))
theorem ctxL_8 {p : Pr} {f : Fl} (h : FlOk p f) : ∀ (l : List St) (m : Int), L8 m → L8 (ctxL f l m)
  | [], m, hm => hm
  | s :: l, m, hm => by
    simp only [ctxL]
    exact ctxL_8 h l _ (orI_8 hm (lab_8 h _))
theorem ctxL_or {p : Pr} {f : Fl} (h : FlOk p f) (l : List St) : ∀ (m k : Int), L8 m → L8 k → orI m (ctxL f l k) = ctxL f l (orI m k) := by
  induction l with
  | nil => intro m k _ _; rw [ctxL, ctxL]
  | cons s l ih =>
    intro m k hm hk
    have h2 := lab_8 h s.ex
    rw [ctxL, ctxL, ih m _ hm (orI_8 hk h2), orI_assoc hm hk h2]
theorem ctxL_snoc (f : Fl) : ∀ (l : List St) (s : St) (m : Int), ctxL f (l ++ [s]) m = orI (ctxL f l m) (lab f s.ex)
  | [], s, m => by simp only [List.nil_append, ctxL]
  | t :: l, s, m => by simp only [List.cons_append, ctxL]; exact ctxL_snoc f l s _
def ctxF (f : Fl) (ifs : List St) : Int := ctxL f ifs f.esc
def ownF (f : Fl) (s : St) (c : Int) : Int := orI (orI (lab f s.ex) (lab f s.pl)) c
def setO (l : List Int) (n : Nat) (x : Int) : List Int := l.set n (orI (l.getD n 0) x)
/-- May a statement trap? -/
def stT (p : Pr) (s : St) : Prop := MayT p s.pl ∨ MayT p s.ex ∨ (s.op = 1 ∧ ¬ Known s.pl (p.arrs.getD s.n.toNat 0) false)
/-- What a statement itself wants, then what a trap of it wants. -/
def rnd1 (f : Fl) (s : St) (c w : Int) : Fl :=
  if s.op = 0 then ⟨setO f.vars s.n.toNat w, f.arrs, f.esc, f.lk⟩
  else if s.op = 1 then ⟨f.vars, setO f.arrs s.n.toNat w, f.esc, f.lk⟩
  else if s.op = 6 then ⟨f.vars, f.arrs, f.esc, orI f.lk w⟩
  else if s.op = 7 then ⟨f.vars, f.arrs, orI f.esc c, f.lk⟩
  else f
open Classical in
noncomputable def rnd2 (p : Pr) (f : Fl) (s : St) (w : Int) : Fl := if stT p s then ⟨f.vars, f.arrs, orI f.esc w, f.lk⟩ else f
def rnd3 (f : Fl) : Fl := ⟨f.vars, f.arrs, f.esc, orI f.lk f.esc⟩
noncomputable def rndF (p : Pr) (f : Fl) (s : St) (ifs : List St) : Fl :=
  rnd3 (rnd2 p (rnd1 f s (ctxF f ifs) (ownF f s (ctxF f ifs))) s (ownF f s (ctxF f ifs)))
/-- One is in the other. -/
structure LeF (f g : Fl) : Prop where
  v : f.vars.length = g.vars.length ∧ ∀ i : Nat, ∃ y, L8 y ∧ g.vars.getD i 0 = orI (f.vars.getD i 0) y
  a : f.arrs.length = g.arrs.length ∧ ∀ i : Nat, ∃ y, L8 y ∧ g.arrs.getD i 0 = orI (f.arrs.getD i 0) y
  e : ∃ y, L8 y ∧ g.esc = orI f.esc y
  l : ∃ y, L8 y ∧ g.lk = orI f.lk y
theorem LeF.refl {p : Pr} {f : Fl} (h : FlOk p f) : LeF f f :=
  ⟨⟨rfl, fun i => ⟨0, L8_0, (orI_z (getD_8 h.v i)).2.1.symm⟩⟩, ⟨rfl, fun i => ⟨0, L8_0, (orI_z (getD_8 h.a i)).2.1.symm⟩⟩, ⟨0, L8_0, (orI_z h.e).2.1.symm⟩, ⟨0, L8_0, (orI_z h.l).2.1.symm⟩⟩
theorem or_tr {a b c : Int} (ha : L8 a) (h1 : ∃ y, L8 y ∧ b = orI a y) (h2 : ∃ y, L8 y ∧ c = orI b y) : ∃ y, L8 y ∧ c = orI a y := by
  obtain ⟨y, hy, rfl⟩ := h1
  obtain ⟨z, hz, rfl⟩ := h2
  exact ⟨orI y z, orI_8 hy hz, orI_assoc ha hy hz⟩
theorem LeF.trans {p : Pr} {f g k : Fl} (hf : FlOk p f) (h1 : LeF f g) (h2 : LeF g k) : LeF f k :=
  ⟨⟨h1.v.1.trans h2.v.1, fun i => or_tr (getD_8 hf.v i) (h1.v.2 i) (h2.v.2 i)⟩, ⟨h1.a.1.trans h2.a.1, fun i => or_tr (getD_8 hf.a i) (h1.a.2 i) (h2.a.2 i)⟩, or_tr hf.e h1.e h2.e, or_tr hf.l h1.l h2.l⟩
theorem setO_len (l : List Int) (n : Nat) (x : Int) : (setO l n x).length = l.length := by simp [setO]
theorem setO_8 {l : List Int} (h : ∀ x ∈ l, L8 x) (n : Nat) {x : Int} (hx : L8 x) : ∀ y ∈ setO l n x, L8 y := by
  intro y hy
  rcases List.mem_or_eq_of_mem_set hy with h1 | h1
  · exact h y h1
  · subst h1; exact orI_8 (getD_8 h n) hx
theorem setO_get {l : List Int} (h : ∀ x ∈ l, L8 x) (n : Nat) {x : Int} (hx : L8 x) (i : Nat) : ∃ y, L8 y ∧ (setO l n x).getD i 0 = orI (l.getD i 0) y := by
  by_cases e : n = i
  · subst e
    by_cases hn : n < l.length
    · refine ⟨x, hx, ?_⟩
      rw [setO, List.getD_eq_getElem?_getD, List.getElem?_set_self hn]; rfl
    · refine ⟨0, L8_0, ?_⟩
      rw [(orI_z (getD_8 h n)).2.1, setO, List.set_eq_of_length_le (by omega)]
  · refine ⟨0, L8_0, ?_⟩
    rw [(orI_z (getD_8 h i)).2.1, setO, List.getD_eq_getElem?_getD, List.getElem?_set_ne e, ← List.getD_eq_getElem?_getD]
theorem or_self {a : Int} (ha : L8 a) : ∃ y, L8 y ∧ a = orI a y := ⟨0, L8_0, (orI_z ha).2.1.symm⟩
theorem ctxF_8 {p : Pr} {f : Fl} (h : FlOk p f) (ifs : List St) : L8 (ctxF f ifs) := ctxL_8 h ifs _ h.e
theorem ownF_8 {p : Pr} {f : Fl} (h : FlOk p f) (s : St) {c : Int} (hc : L8 c) : L8 (ownF f s c) := orI_8 (orI_8 (lab_8 h _) (lab_8 h _)) hc
theorem rnd1_ok {p : Pr} {f : Fl} (h : FlOk p f) (s : St) {c w : Int} (hc : L8 c) (hw : L8 w) : FlOk p (rnd1 f s c w) ∧ LeF f (rnd1 f s c w) := by
  have hr := LeF.refl h
  unfold rnd1
  split
  · exact ⟨⟨by rw [setO_len]; exact h.nv, h.na, setO_8 h.v _ hw, h.a, h.e, h.l⟩, ⟨⟨(setO_len _ _ _).symm, setO_get h.v _ hw⟩, hr.a, hr.e, hr.l⟩⟩
  · split
    · exact ⟨⟨h.nv, by rw [setO_len]; exact h.na, h.v, setO_8 h.a _ hw, h.e, h.l⟩, ⟨hr.v, ⟨(setO_len _ _ _).symm, setO_get h.a _ hw⟩, hr.e, hr.l⟩⟩
    · split
      · exact ⟨⟨h.nv, h.na, h.v, h.a, h.e, orI_8 h.l hw⟩, ⟨hr.v, hr.a, hr.e, ⟨w, hw, rfl⟩⟩⟩
      · split
        · exact ⟨⟨h.nv, h.na, h.v, h.a, orI_8 h.e hc, h.l⟩, ⟨hr.v, hr.a, ⟨c, hc, rfl⟩, hr.l⟩⟩
        · exact ⟨h, hr⟩
theorem rnd2_ok {p : Pr} {f : Fl} (h : FlOk p f) (s : St) {w : Int} (hw : L8 w) : FlOk p (rnd2 p f s w) ∧ LeF f (rnd2 p f s w) := by
  have hr := LeF.refl h
  unfold rnd2
  split
  · exact ⟨⟨h.nv, h.na, h.v, h.a, orI_8 h.e hw, h.l⟩, ⟨hr.v, hr.a, ⟨w, hw, rfl⟩, hr.l⟩⟩
  · exact ⟨h, hr⟩
theorem rnd3_ok {p : Pr} {f : Fl} (h : FlOk p f) : FlOk p (rnd3 f) ∧ LeF f (rnd3 f) := by
  have hr := LeF.refl h
  exact ⟨⟨h.nv, h.na, h.v, h.a, h.e, orI_8 h.l h.e⟩, ⟨hr.v, hr.a, hr.e, ⟨f.esc, h.e, rfl⟩⟩⟩
theorem rndF_ok {p : Pr} {f : Fl} (h : FlOk p f) (s : St) (ifs : List St) : FlOk p (rndF p f s ifs) ∧ LeF f (rndF p f s ifs) := by
  have hc := ctxF_8 h ifs
  have hw := ownF_8 h s hc
  obtain ⟨a1, b1⟩ := rnd1_ok h s hc hw
  obtain ⟨a2, b2⟩ := rnd2_ok a1 s hw
  obtain ⟨a3, b3⟩ := rnd3_ok a2
  exact ⟨a3, b1.trans h (b2.trans a1 b3)⟩
/-- What escapes has leaked. -/
def SubF (f : Fl) : Prop := orI f.lk f.esc = f.lk
theorem rndF_sub {p : Pr} {f : Fl} (h : FlOk p f) (s : St) (ifs : List St) : SubF (rndF p f s ifs) := by
  have hc := ctxF_8 h ifs
  have hw := ownF_8 h s hc
  obtain ⟨a1, b1⟩ := rnd1_ok h s hc hw
  obtain ⟨a2, b2⟩ := rnd2_ok a1 s hw
  unfold rndF
  generalize rnd2 p _ s _ = g at *
  simp only [SubF, rnd3]
  rw [orI_assoc a2.l a2.e a2.e, (orI_z a2.e).2.2]
theorem mayT_nil (p : Pr) : ¬ MayT p [] := by rintro ⟨i, hi, -⟩; simp at hi
/-- A statement that only marks an end wants nothing. -/
theorem rndF_end {p : Pr} {f : Fl} {s : St} (hs : s.op = 3 ∨ s.op = 4 ∨ s.op = 9) (hp : s.pl = []) (he : s.ex = []) (hf : SubF f) (ifs : List St) : rndF p f s ifs = f := by
  have h2 : ¬ stT p s := by
    unfold stT
    rw [hp, he]
    rintro (h | h | h)
    · exact mayT_nil p h
    · exact mayT_nil p h
    · omega
  unfold rndF rnd2 rnd1
  rw [if_neg h2, if_neg (by omega), if_neg (by omega), if_neg (by omega), if_neg (by omega)]
  unfold SubF at hf
  cases f
  simp only [rnd3] at hf ⊢
  rw [hf]
/-- All statements of nodes, with the ifs around them. -/
def glN (x : List St) : Ns → List Nat → List (Nat × List Nat)
  | .nil, _ => []
  | .cons a b o r, k => (a, k) :: (glN x b (if opA x a = 2 then k ++ [a] else k) ++ (glN x o (if opA x a = 2 then k ++ [a] else k) ++ glN x r k))
noncomputable def rndL (p : Pr) : List (Nat × List Nat) → Fl → Fl
  | [], f => f
  | g :: l, f => rndL p l (rndF p f (p.body.getD g.1 zst) (g.2.map fun i => p.body.getD i zst))
theorem rndL_app (p : Pr) : ∀ (l m : List (Nat × List Nat)) (f : Fl), rndL p (l ++ m) f = rndL p m (rndL p l f)
  | [], m, f => rfl
  | g :: l, m, f => by simp only [List.cons_append, rndL]; exact rndL_app p l m _
theorem rndL_ok {p : Pr} : ∀ (l : List (Nat × List Nat)) {f : Fl}, FlOk p f → FlOk p (rndL p l f) ∧ LeF f (rndL p l f)
  | [], f, h => ⟨h, LeF.refl h⟩
  | g :: l, f, h => by
    obtain ⟨a1, b1⟩ := rndF_ok h (p.body.getD g.1 zst) (g.2.map fun i => p.body.getD i zst)
    obtain ⟨a2, b2⟩ := rndL_ok l a1
    exact ⟨a2, b1.trans h b2⟩
theorem rndL_sub {p : Pr} : ∀ (l : List (Nat × List Nat)) {f : Fl}, FlOk p f → SubF f → SubF (rndL p l f)
  | [], f, h, hs => hs
  | g :: l, f, h, hs => rndL_sub l (rndF_ok h _ _).1 (rndF_sub h _ _)
/-- The ifs around a place. -/
def arnd (x : List St) (k at_ : Nat) : List Nat := (List.range k).filter fun i => decide (opA x i = 2 ∧ (at_ : Int) < endI (E x i))
/-- From a place on, so many statements, with the ifs around each. -/
noncomputable def posR (p : Pr) : Nat → Nat → Fl → Fl
  | 0, _, f => f
  | k + 1, a, f => posR p k (a + 1) (rndF p f (p.body.getD a zst) ((arnd p.body a a).map fun i => p.body.getD i zst))
theorem posR_succ (p : Pr) (k a : Nat) (f : Fl) : posR p (k + 1) a f = posR p k (a + 1) (rndF p f (p.body.getD a zst) ((arnd p.body a a).map fun i => p.body.getD i zst)) := rfl
theorem posR_add (p : Pr) : ∀ (k m a : Nat) (f : Fl), posR p (k + m) a f = posR p m (a + k) (posR p k a f)
  | 0, m, a, f => by simp [posR]
  | k + 1, m, a, f => by
    rw [show k + 1 + m = (k + m) + 1 by omega]
    simp only [posR]
    rw [posR_add p k m, show a + 1 + k = a + (k + 1) by omega]
theorem arnd_succ (x : List St) (k at_ : Nat) : arnd x (k + 1) at_ = arnd x k at_ ++ if opA x k = 2 ∧ (at_ : Int) < endI (E x k) then [k] else [] := by
  unfold arnd
  rw [List.range_succ, List.filter_append]
  congr 1
  by_cases h : opA x k = 2 ∧ (at_ : Int) < endI (E x k)
  · simp [h]
  · simp [h]
/-- What is within a block ends within it. -/
theorem Bk.ends {x : List St} {a s : Nat} {r : Ns} (h : Bk x a s r) : ∀ i, a ≤ i → i < s → opA x i = 2 → endI (E x i) < s := by
  induction h with
  | nil => intro i h1 h2; omega
  | @leaf a s r h hs hn hr ih =>
    intro i h1 h2 h3
    by_cases e : i = a
    · subst e; exact absurd (.inl h3) hn
    · exact ih i (by omega) h2 h3
  | @one a e s b r h hn hb he hE hr ih1 ih2 =>
    intro i h1 h2 h3
    have l1 := hb.le
    have l2 := hr.le
    by_cases e1 : i = a
    · subst e1; rw [hE]; show (e : Int) < s; omega
    · by_cases e2 : i < e
      · have := ih1 i (by omega) e2 h3; omega
      · by_cases e3 : i = e
        · subst e3; have := he.2; omega
        · exact ih2 i (by omega) h2 h3
  | @two a c e s b o r h hn hb ho he hE hr ih1 ih2 ih3 =>
    intro i h1 h2 h3
    have l1 := hb.le
    have l2 := ho.le
    have l3 := hr.le
    by_cases e1 : i = a
    · subst e1; rw [hE]; show (e : Int) < s; omega
    · by_cases e2 : i < c
      · have := ih1 i (by omega) e2 h3; omega
      · by_cases e3 : i = c
        · subst e3; rcases hn with h | h <;> have := h.2.2 <;> omega
        · by_cases e4 : i < e
          · have := ih2 i (by omega) e4 h3; omega
          · by_cases e5 : i = e
            · subst e5; have := he.2; omega
            · exact ih3 i (by omega) h2 h3
/-- Places behind others that end there are not around. -/
theorem arnd_skip {x : List St} {a at_ : Nat} : ∀ {k : Nat}, a ≤ k → (∀ i, a ≤ i → i < k → opA x i = 2 → ¬ (at_ : Int) < endI (E x i)) → arnd x k at_ = arnd x a at_
  | k, hk, h => by
    induction k with
    | zero => have : a = 0 := by omega
              subst this; rfl
    | succ k ih =>
      by_cases e : a = k + 1
      · subst e; rfl
      · rw [arnd_succ, if_neg (fun g => h k (by omega) (by omega) g.1 g.2), List.append_nil]
        exact ih (by omega) (fun i h1 h2 h3 => h i h1 (by omega) h3)
theorem posR_bk {p : Pr} (hst : ∀ s ∈ p.body, stOk p s) {a s : Nat} {r : Ns} (h : Bk p.body a s r) : s ≤ p.body.length → ∀ (K : List Nat), (∀ at_, a ≤ at_ → at_ < s → arnd p.body a at_ = K) → ∀ {f : Fl}, FlOk p f → SubF f → posR p (s - a) a f = rndL p (glN p.body r K) f ∧ SubF (rndL p (glN p.body r K) f) ∧ FlOk p (rndL p (glN p.body r K) f) := by
  have hend : ∀ i, i < p.body.length → (opA p.body i = 3 ∨ opA p.body i = 4 ∨ opA p.body i = 9) → ∀ {f : Fl}, SubF f → rndF p f (p.body.getD i zst) ((arnd p.body i i).map fun i => p.body.getD i zst) = f := by
    intro i hi ho f hf
    have hm : p.body.getD i zst ∈ p.body := by simp [List.getD_eq_getElem?_getD, hi]
    have hs := hst _ hm
    have hop : opA p.body i = (p.body.getD i zst).op := rfl
    rw [hop] at ho
    have hz : (p.body.getD i zst).pl.length = 0 ∧ (p.body.getD i zst).ex.length = 0 := by
      rcases ho with h | h | h
      · have := (stOk348 (.inl h)).1 hs; exact ⟨this.1, this.2.1⟩
      · have := (stOk348 (.inr (.inl h))).1 hs; exact ⟨this.1, this.2.1⟩
      · have := (stOk79 (.inr h)).1 hs; exact ⟨this.1, this.2.1⟩
    exact rndF_end ho (List.length_eq_zero_iff.1 hz.1) (List.length_eq_zero_iff.1 hz.2) hf _
  induction h with
  | nil a h =>
    intro hl K hK f hf hs
    rw [Nat.sub_self]
    exact ⟨rfl, hs, hf⟩
  | @leaf a s r h hst' hn hr ih =>
    intro hl K hK f hf hs
    have l1 := hr.le
    have e2 : ¬ opA p.body a = 2 := fun h => hn (.inl h)
    have hKa := hK a (Nat.le_refl _) (by omega)
    obtain ⟨q1, q2⟩ := rndF_ok hf (p.body.getD a zst) (K.map fun i => p.body.getD i zst)
    have q3 := rndF_sub hf (p.body.getD a zst) (K.map fun i => p.body.getD i zst)
    obtain ⟨i1, i2, i3⟩ := ih hl K (fun at_ h1 h2 => by rw [arnd_succ, if_neg (fun g => e2 g.1), List.append_nil]; exact hK at_ (by omega) h2) q1 q3
    rw [show s - a = (s - (a + 1)) + 1 by omega]
    simp only [posR, glN, rndL, List.nil_append, hKa]
    exact ⟨i1, i2, i3⟩
  | @one a e s b r h hn hb he hE hr ih1 ih2 =>
    intro hl K hK f hf hs
    have l1 := hb.le
    have l2 := hr.le
    have hKa := hK a (Nat.le_refl _) (by omega)
    obtain ⟨q1, q2⟩ := rndF_ok hf (p.body.getD a zst) (K.map fun i => p.body.getD i zst)
    have q3 := rndF_sub hf (p.body.getD a zst) (K.map fun i => p.body.getD i zst)
    have hend_a : endI (E p.body a) = e := by rw [hE]; rfl
    obtain ⟨i1, i2, i3⟩ := ih1 (by have := he.1; omega) (if opA p.body a = 2 then K ++ [a] else K) (fun at_ h1 h2 => by
      rw [arnd_succ, hK at_ (by omega) (by omega), hend_a]
      by_cases g : opA p.body a = 2
      · rw [if_pos ⟨g, by omega⟩, if_pos g]
      · rw [if_neg (fun k => g k.1), if_neg g, List.append_nil]) q1 q3
    have he2 := hend e he.1 (.inr (.inl he.2)) i2
    obtain ⟨j1, j2, j3⟩ := ih2 hl K (fun at_ h1 h2 => by
      rw [arnd_skip (a := a) (by omega) (fun i g1 g2 g3 => ?_)]
      · exact hK at_ (by omega) h2
      · by_cases e1 : i = a
        · subst e1; rw [hend_a]; omega
        · by_cases e3 : i = e
          · subst e3; have := he.2; omega
          · have := hb.ends i (by omega) (by omega) g3; omega) i3 i2
    rw [show s - a = ((e - (a + 1)) + ((s - (e + 1)) + 1)) + 1 by omega]
    rw [posR_succ, hKa]
    simp only [glN, rndL, List.nil_append]
    rw [posR_add, i1, rndL_app, show a + 1 + (e - (a + 1)) = e by omega]
    rw [posR_succ, he2]
    exact ⟨j1, j2, j3⟩
  | @two a c e s b o r h hn hb ho he hE hr ih1 ih2 ih3 =>
    intro hl K hK f hf hs
    have l1 := hb.le
    have l2 := ho.le
    have l3 := hr.le
    have hel := he.1
    have hKa := hK a (Nat.le_refl _) (by omega)
    have hco : opA p.body c = 3 ∨ opA p.body c = 4 ∨ opA p.body c = 9 := by
      rcases hn with h | h
      · exact .inl h.2.2
      · exact .inr (.inr h.2.2)
    obtain ⟨q1, q2⟩ := rndF_ok hf (p.body.getD a zst) (K.map fun i => p.body.getD i zst)
    have q3 := rndF_sub hf (p.body.getD a zst) (K.map fun i => p.body.getD i zst)
    have hend_a : endI (E p.body a) = e := by rw [hE]; rfl
    obtain ⟨i1, i2, i3⟩ := ih1 (by omega) (if opA p.body a = 2 then K ++ [a] else K) (fun at_ h1 h2 => by
      rw [arnd_succ, hK at_ (by omega) (by omega), hend_a]
      by_cases g : opA p.body a = 2
      · rw [if_pos ⟨g, by omega⟩, if_pos g]
      · rw [if_neg (fun k => g k.1), if_neg g, List.append_nil]) q1 q3
    have hc2 := hend c (by omega) hco i2
    obtain ⟨k1, k2, k3⟩ := ih2 (by omega) (if opA p.body a = 2 then K ++ [a] else K) (fun at_ h1 h2 => by
      rw [arnd_skip (a := a + 1) (by omega) (fun i g1 g2 g3 => ?_)]
      · rw [arnd_succ, hK at_ (by omega) (by omega), hend_a]
        by_cases g : opA p.body a = 2
        · rw [if_pos ⟨g, by omega⟩, if_pos g]
        · rw [if_neg (fun k => g k.1), if_neg g, List.append_nil]
      · by_cases e3 : i = c
        · subst e3; omega
        · have := hb.ends i (by omega) (by omega) g3; omega) i3 i2
    have he2 := hend e he.1 (.inr (.inl he.2)) k2
    obtain ⟨j1, j2, j3⟩ := ih3 hl K (fun at_ h1 h2 => by
      rw [arnd_skip (a := a) (by omega) (fun i g1 g2 g3 => ?_)]
      · exact hK at_ (by omega) h2
      · by_cases e1 : i = a
        · subst e1; rw [hend_a]; omega
        · by_cases e2 : i = c
          · subst e2; omega
          · by_cases e3 : i = e
            · subst e3; have := he.2; omega
            · by_cases e4 : i < c
              · have := hb.ends i (by omega) (by omega) g3; omega
              · have := ho.ends i (by omega) (by omega) g3; omega) k3 k2
    rw [show s - a = ((c - (a + 1)) + (((e - (c + 1)) + ((s - (e + 1)) + 1)) + 1)) + 1 by omega]
    rw [posR_succ, hKa]
    simp only [glN, rndL]
    rw [posR_add, i1, rndL_app, rndL_app, show a + 1 + (c - (a + 1)) = c by omega]
    rw [posR_succ, hc2, posR_add, k1, show c + 1 + (e - (c + 1)) = e by omega]
    rw [posR_succ, he2]
    exact ⟨j1, j2, j3⟩
/-- All rounds over a whole body are one. -/
theorem posR_all {p : Pr} (hst : ∀ s ∈ p.body, stOk p s) {r : Ns} (h : Bk p.body 0 p.body.length r) {f : Fl} (hf : FlOk p f) (hs : SubF f) : posR p p.body.length 0 f = rndL p (glN p.body r []) f ∧ SubF (rndL p (glN p.body r []) f) := by
  obtain ⟨h1, h2, -⟩ := posR_bk hst h (Nat.le_refl _) [] (fun at_ _ _ => rfl) hf hs
  exact ⟨h1, h2⟩
/-! That it ends. -/
def wtL : List Int → Nat
  | [] => 0
  | x :: l => pc x + wtL l
def smL : List Int → Int
  | [] => 0
  | x :: l => x + smL l
def wtF (f : Fl) : Nat := wtL f.vars + wtL f.arrs + pc f.esc + pc f.lk
def smF (f : Fl) : Int := f.esc + f.lk + smL f.vars + smL f.arrs
theorem wtL_le : ∀ {l : List Int}, (∀ x ∈ l, L8 x) → wtL l ≤ 3 * l.length ∧ 0 ≤ smL l ∧ smL l ≤ 7 * l.length
  | [], _ => by simp [wtL, smL]
  | x :: l, h => by
    have h1 := h x (by simp)
    have h2 := (pc_or h1 h1).2.2.1
    have h3 := wtL_le (l := l) fun y hy => h y (List.mem_cons_of_mem _ hy)
    unfold L8 at h1
    simp only [wtL, smL, List.length_cons]; omega
theorem grow_L : ∀ {l m : List Int}, l.length = m.length → (∀ x ∈ l, L8 x) → (∀ i : Nat, ∃ y, L8 y ∧ m.getD i 0 = orI (l.getD i 0) y) → (m = l ∧ wtL m = wtL l ∧ smL m = smL l) ∨ (wtL l < wtL m ∧ smL l < smL m)
  | [], [], _, _, _ => .inl ⟨rfl, rfl, rfl⟩
  | [], b :: m, hl, _, _ => by simp at hl
  | a :: l, [], hl, _, _ => by simp at hl
  | a :: l, b :: m, hl, h8, h => by
    have h1 := h8 a (by simp)
    obtain ⟨y, hy, e⟩ := h 0
    simp only [List.getD_cons_zero] at e
    have h2 := pc_or h1 hy
    rw [← e] at h2
    have h3 := grow_L (l := l) (m := m) (by simpa using hl) (fun x hx => h8 x (List.mem_cons_of_mem _ hx)) (fun i => by have := h (i + 1); simpa using this)
    simp only [wtL, smL]
    rcases h2.2.2.2 with h4 | h4
    · rcases h3 with ⟨rfl, h5, h6⟩ | h3
      · subst h4; exact .inl ⟨rfl, rfl, rfl⟩
      · subst h4; right; omega
    · rcases h3 with ⟨rfl, h5, h6⟩ | h3
      · right; omega
      · right; omega
theorem grow_1 {a b : Int} (ha : L8 a) (h : ∃ y, L8 y ∧ b = orI a y) : (b = a) ∨ (pc a < pc b ∧ a < b) := by
  obtain ⟨y, hy, rfl⟩ := h
  rcases (pc_or ha hy).2.2.2 with h | h
  · exact .inl h
  · exact .inr ⟨h.2, h.1⟩
/-- Either nothing has turned, or the weight and the sum have grown. -/
theorem LeF.grow {p : Pr} {f g : Fl} (hf : FlOk p f) (h : LeF f g) : g = f ∨ (wtF f < wtF g ∧ smF f < smF g) := by
  have h1 := grow_L h.v.1 hf.v h.v.2
  have h2 := grow_L h.a.1 hf.a h.a.2
  have h3 := grow_1 hf.e h.e
  have h4 := grow_1 hf.l h.l
  unfold wtF smF
  cases f
  cases g
  simp only at h1 h2 h3 h4 ⊢
  rcases h1 with ⟨rfl, -, -⟩ | h1 <;> rcases h2 with ⟨rfl, -, -⟩ | h2 <;> rcases h3 with rfl | h3 <;> rcases h4 with rfl | h4
  all_goals first | exact .inl rfl | (right; omega)
/-- So often over all. -/
noncomputable def itR (p : Pr) (l : List (Nat × List Nat)) : Nat → Fl → Fl
  | 0, f => f
  | k + 1, f => itR p l k (rndL p l f)
theorem itR_ok {p : Pr} (l : List (Nat × List Nat)) : ∀ (k : Nat) {f : Fl}, FlOk p f → FlOk p (itR p l k f)
  | 0, f, h => h
  | k + 1, f, h => itR_ok l k (rndL_ok l h).1
theorem itR_sub {p : Pr} (l : List (Nat × List Nat)) : ∀ (k : Nat) {f : Fl}, FlOk p f → SubF f → SubF (itR p l k f)
  | 0, f, h, hs => hs
  | k + 1, f, h, hs => itR_sub l k (rndL_ok l h).1 (rndL_sub l h hs)
theorem itR_fix {p : Pr} {l : List (Nat × List Nat)} {f : Fl} (h : rndL p l f = f) : ∀ k, itR p l k f = f
  | 0 => rfl
  | k + 1 => by simp only [itR]; rw [h]; exact itR_fix h k
theorem itR_add (p : Pr) (l : List (Nat × List Nat)) : ∀ (k m : Nat) (f : Fl), itR p l (k + m) f = itR p l m (itR p l k f)
  | 0, m, f => by simp [itR]
  | k + 1, m, f => by rw [show k + 1 + m = (k + m) + 1 by omega]; simp only [itR]; exact itR_add p l k m _
/-- After so many rounds nothing turns any more. -/
theorem itR_end {p : Pr} (l : List (Nat × List Nat)) : ∀ (k : Nat) {f : Fl} {W : Nat}, FlOk p f → (∀ g, FlOk p g → wtF g ≤ W) → W ≤ wtF f + k → rndL p l (itR p l k f) = itR p l k f
  | 0, f, W, hf, hW, hk => by
    obtain ⟨h1, h2⟩ := rndL_ok l hf
    simp only [itR]
    rcases h2.grow hf with h | h
    · exact h
    · have := hW _ h1; omega
  | k + 1, f, W, hf, hW, hk => by
    obtain ⟨h1, h2⟩ := rndL_ok l hf
    rcases h2.grow hf with h | h
    · rw [itR_fix h, h]
    · simp only [itR]
      exact itR_end l k h1 hW (by omega)
theorem wtF_le {p : Pr} {f : Fl} (h : FlOk p f) (t0 : 0 ≤ varsN p) : wtF f ≤ 3 * ((varsN p).toNat + p.arrs.length + 2) := by
  have h1 := (wtL_le h.v).1
  have h2 := (wtL_le h.a).1
  have h3 := (pc_or h.e h.e).2.2.1
  have h4 := (pc_or h.l h.l).2.2.1
  have := h.nv
  have := h.na
  unfold wtF; omega
/-- Wherever nothing turns any more, it is the same. -/
theorem itR_same {p : Pr} (l : List (Nat × List Nat)) {f : Fl} {k m : Nat} (h1 : rndL p l (itR p l k f) = itR p l k f) (h2 : rndL p l (itR p l m f) = itR p l m f) : itR p l k f = itR p l m f := by
  rcases Nat.le_total k m with h | h
  · obtain ⟨j, rfl⟩ := Nat.exists_eq_add_of_le h
    rw [itR_add, itR_fix h1]
  · obtain ⟨j, rfl⟩ := Nat.exists_eq_add_of_le h
    rw [itR_add p l m j, itR_fix h2]
end Go.Eng.C

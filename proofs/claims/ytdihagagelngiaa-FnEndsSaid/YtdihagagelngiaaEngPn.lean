/- Blocks of statements and their nodes, in plain Lean. No program in sight. -/
import Derived.Test.YtdihagagelngiaaEngPg
namespace Go.Eng.C
open Go Go.RowKit
set_option linter.unusedVariables false
set_option linter.unusedSimpArgs false
/-- Nodes: where each stands, what is within it, what is behind its middle; the others. -/
inductive Ns where
  | nil
  | cons (a : Nat) (b o r : Ns)
def Ns.toL : Ns → List (Nat × Ns × Ns)
  | .nil => []
  | .cons a b o r => (a, b, o) :: r.toL
def zst : St := ⟨0, 0, [], []⟩
def opA (x : List St) (a : Nat) : Int := (x.getD a zst).op
def isA (x : List St) (a : Nat) (c : Int) : Prop := a < x.length ∧ opA x a = c
instance (x : List St) (a : Nat) (c : Int) : Decidable (isA x a c) := by unfold isA; infer_instance
/-- The end of what begins at a place, behind what stands within it. -/
def nd (x : List St) (f : Nat → Option (Nat × Ns)) (a : Nat) : Option (Int × Nat × Ns × Ns) :=
  match f (a + 1) with
  | none => none
  | some (c, b) =>
    if isA x c 4 ∧ opA x a ≠ 8 then some (-1, c, b, .nil)
    else if (opA x a = 2 ∧ isA x c 3) ∨ (opA x a = 8 ∧ isA x c 9) then
      match f (c + 1) with
      | none => none
      | some (e, o) => if isA x e 4 then some ((c : Int), e, b, o) else none
    else none
def stopA (x : List St) (a : Nat) : Prop := opA x a = 3 ∨ opA x a = 4 ∨ opA x a = 9
def nestA (x : List St) (a : Nat) : Prop := opA x a = 2 ∨ opA x a = 5 ∨ opA x a = 8
instance (x : List St) (a : Nat) : Decidable (stopA x a) := by unfold stopA; infer_instance
instance (x : List St) (a : Nat) : Decidable (nestA x a) := by unfold nestA; infer_instance
def blk (x : List St) : Nat → Nat → Option (Nat × Ns)
  | 0, a => some (a, .nil)
  | n + 1, a =>
    if a < x.length then
      if stopA x a then some (a, .nil)
      else if nestA x a then
        match nd x (blk x n) a with
        | none => none
        | some (_, e, b, o) => (blk x n (e + 1)).map fun r => (r.1, .cons a b o r.2)
      else (blk x n (a + 1)).map fun r => (r.1, .cons a .nil .nil r.2)
    else some (a, .nil)
theorem nd_le {x : List St} {f : Nat → Option (Nat × Ns)} (hf : ∀ a s r, f a = some (s, r) → a ≤ s) {a e : Nat} {m : Int} {b o : Ns} (h : nd x f a = some (m, e, b, o)) : a < e ∧ e < x.length ∧ (m = -1 ∨ ∃ c : Nat, m = c ∧ a < c ∧ c < e) := by
  unfold nd at h
  split at h
  · cases h
  · rename_i c b' h1
    have l1 := hf _ _ _ h1
    split at h
    · rename_i h2
      simp only [Option.some.injEq, Prod.mk.injEq] at h
      obtain ⟨rfl, rfl, rfl, rfl⟩ := h
      exact ⟨by omega, h2.1.1, .inl rfl⟩
    · split at h
      · split at h
        · cases h
        · rename_i e' o' h3
          have l2 := hf _ _ _ h3
          split at h
          · rename_i h4
            simp only [Option.some.injEq, Prod.mk.injEq] at h
            obtain ⟨rfl, rfl, rfl, rfl⟩ := h
            exact ⟨by omega, h4.1, .inr ⟨c, rfl, by omega, by omega⟩⟩
          · cases h
      · cases h
theorem blk_le {x : List St} : ∀ (n a s : Nat) (r : Ns), blk x n a = some (s, r) → a ≤ s
  | 0, a, s, r, h => by simp only [blk, Option.some.injEq, Prod.mk.injEq] at h; omega
  | n + 1, a, s, r, h => by
    simp only [blk] at h
    split at h
    · split at h
      · simp only [Option.some.injEq, Prod.mk.injEq] at h; omega
      · split at h
        · split at h
          · cases h
          · rename_i m e b o h1
            have l1 := nd_le (blk_le n) h1
            simp only [Option.map_eq_some_iff] at h
            obtain ⟨⟨s', r'⟩, h2, h3⟩ := h
            simp only [Prod.mk.injEq] at h3
            have l2 := blk_le n _ _ _ h2
            omega
        · simp only [Option.map_eq_some_iff] at h
          obtain ⟨⟨s', r'⟩, h2, h3⟩ := h
          simp only [Prod.mk.injEq] at h3
          have l2 := blk_le n _ _ _ h2
          omega
    · simp only [Option.some.injEq, Prod.mk.injEq] at h; omega
theorem nd_congr {x : List St} {f g : Nat → Option (Nat × Ns)} {a : Nat} (hf : ∀ a s r, f a = some (s, r) → a ≤ s) (h : ∀ c, a < c → f c = g c) : nd x f a = nd x g a := by
  unfold nd
  rw [← h (a + 1) (by omega)]
  split
  · rfl
  · rename_i c b h1
    have l1 := hf _ _ _ h1
    rw [← h (c + 1) (by omega)]
theorem blk_fuel {x : List St} : ∀ (n m a : Nat), x.length < n + a → x.length < m + a → blk x n a = blk x m a
  | 0, 0, a, h1, h2 => rfl
  | 0, m + 1, a, h1, h2 => by simp only [blk]; rw [if_neg (by omega)]
  | n + 1, 0, a, h1, h2 => by simp only [blk]; rw [if_neg (by omega)]
  | n + 1, m + 1, a, h1, h2 => by
    simp only [blk]
    have key : ∀ c, a < c → blk x n c = blk x m c := fun c hc => blk_fuel n m c (by omega) (by omega)
    rw [nd_congr (blk_le n) key, key (a + 1) (by omega)]
    split
    · split
      · rfl
      · split
        · split
          · rfl
          · rename_i m' e b o h
            have l := nd_le (blk_le m) h
            rw [key (e + 1) (by omega)]
        · rfl
    · rfl
/-- The block that begins at a place: where it stops, its nodes. -/
def B (x : List St) (a : Nat) : Option (Nat × Ns) := blk x (x.length + 1) a
def E (x : List St) (a : Nat) : Option (Int × Nat × Ns × Ns) := if nestA x a then nd x (B x) a else none
theorem B_le {x : List St} {a s : Nat} {r : Ns} (h : B x a = some (s, r)) : a ≤ s := blk_le _ _ _ _ h
theorem E_le {x : List St} {a e : Nat} {m : Int} {b o : Ns} (h : E x a = some (m, e, b, o)) : a < e ∧ e < x.length ∧ (m = -1 ∨ ∃ c : Nat, m = c ∧ a < c ∧ c < e) := by
  unfold E at h
  split at h
  · exact nd_le (fun _ _ _ => B_le) h
  · cases h
theorem B_end {x : List St} {a : Nat} (h : ¬ a < x.length) : B x a = some (a, .nil) := by simp only [B, blk]; rw [if_neg h]
theorem B_stop {x : List St} {a : Nat} (h : a < x.length) (hs : stopA x a) : B x a = some (a, .nil) := by simp only [B, blk]; rw [if_pos h, if_pos hs]
theorem B_leaf {x : List St} {a : Nat} (h : a < x.length) (hs : ¬ stopA x a) (hn : ¬ nestA x a) : B x a = (B x (a + 1)).map fun r => (r.1, .cons a .nil .nil r.2) := by
  simp only [B]
  rw [blk, if_pos h, if_neg hs, if_neg hn, blk_fuel x.length (x.length + 1) (a + 1) (by omega) (by omega)]
theorem B_nest {x : List St} {a : Nat} (h : a < x.length) (hn : nestA x a) : B x a = match E x a with
    | none => none
    | some (_, e, b, o) => (B x (e + 1)).map fun r => (r.1, .cons a b o r.2) := by
  have hs : ¬ stopA x a := by unfold nestA at hn; unfold stopA; omega
  have hE : E x a = nd x (blk x x.length) a := by
    unfold E
    rw [if_pos hn]
    exact nd_congr (fun _ _ _ => B_le) (fun c hc => blk_fuel _ _ _ (by omega) (by omega))
  rw [hE]
  unfold B
  rw [blk, if_pos h, if_neg hs, if_pos hn]
  split
  · rfl
  · rename_i m e b o h1
    have l := nd_le (blk_le _) h1
    rw [blk_fuel x.length (x.length + 1) (e + 1) (by omega) (by omega)]
theorem B_lt {x : List St} {a s : Nat} {r : Ns} (h : B x a = some (s, r)) (ha : a ≤ x.length) : s ≤ x.length := by
  have : ∀ k a, x.length - a ≤ k → a ≤ x.length → ∀ s r, B x a = some (s, r) → s ≤ x.length := by
    intro k
    induction k with
    | zero =>
      intro a h1 h2 s r h
      rw [B_end (by omega)] at h
      simp only [Option.some.injEq, Prod.mk.injEq] at h; omega
    | succ k ih =>
      intro a h1 h2 s r h
      by_cases hl : a < x.length
      · by_cases hs : stopA x a
        · rw [B_stop hl hs] at h
          simp only [Option.some.injEq, Prod.mk.injEq] at h; omega
        · by_cases hn : nestA x a
          · rw [B_nest hl hn] at h
            split at h
            · cases h
            · rename_i m e b o hE
              have l := E_le hE
              simp only [Option.map_eq_some_iff] at h
              obtain ⟨⟨s', r'⟩, h4, h5⟩ := h
              simp only [Prod.mk.injEq] at h5
              have := ih (e + 1) (by omega) (by omega) s' r' h4
              omega
          · rw [B_leaf hl hs hn] at h
            simp only [Option.map_eq_some_iff] at h
            obtain ⟨⟨s', r'⟩, h4, h5⟩ := h
            simp only [Prod.mk.injEq] at h5
            have := ih (a + 1) (by omega) (by omega) s' r' h4
            omega
      · rw [B_end hl] at h
        simp only [Option.some.injEq, Prod.mk.injEq] at h; omega
  exact this _ a (Nat.le_refl _) ha s r h
def stopI : Option (Nat × Ns) → Int
  | none => -1
  | some (s, _) => s
def midI : Option (Int × Nat × Ns × Ns) → Int
  | none => -1
  | some (m, _) => m
def endI : Option (Int × Nat × Ns × Ns) → Int
  | none => -1
  | some (_, e, _) => e
theorem stop_none {x : List St} {c : Nat} (hc : c < x.length) (hn : nestA x c) (hE : E x c = none) : stopI (B x c) = -1 := by rw [B_nest hc hn, hE]; rfl
theorem stop_some {x : List St} {c e : Nat} {m : Int} {b o : Ns} (hc : c < x.length) (hn : nestA x c) (hE : E x c = some (m, e, b, o)) : stopI (B x c) = stopI (B x (e + 1)) := by
  rw [B_nest hc hn, hE]
  dsimp only
  cases B x (e + 1) <;> rfl
theorem stop_leaf {x : List St} {c : Nat} (hc : c < x.length) (hs : ¬ stopA x c) (hn : ¬ nestA x c) : stopI (B x c) = stopI (B x (c + 1)) := by
  rw [B_leaf hc hs hn]
  cases B x (c + 1) <;> rfl
/-- From a place to where its block stops: the nodes between. -/
inductive Bk (x : List St) : Nat → Nat → Ns → Prop
  | nil (a : Nat) (h : a < x.length → stopA x a) : Bk x a a .nil
  | leaf {a s : Nat} {r : Ns} (h : a < x.length) (hs : ¬ stopA x a) (hn : ¬ nestA x a) (hr : Bk x (a + 1) s r) : Bk x a s (.cons a .nil .nil r)
  | one {a e s : Nat} {b r : Ns} (h : a < x.length) (hn : opA x a = 2 ∨ opA x a = 5) (hb : Bk x (a + 1) e b) (he : isA x e 4) (hE : E x a = some (-1, e, b, .nil)) (hr : Bk x (e + 1) s r) : Bk x a s (.cons a b .nil r)
  | two {a c e s : Nat} {b o r : Ns} (h : a < x.length) (hn : (opA x a = 2 ∧ isA x c 3) ∨ (opA x a = 8 ∧ isA x c 9)) (hb : Bk x (a + 1) c b) (ho : Bk x (c + 1) e o) (he : isA x e 4) (hE : E x a = some ((c : Int), e, b, o)) (hr : Bk x (e + 1) s r) : Bk x a s (.cons a b o r)
theorem Bk.le {x : List St} {a s : Nat} {r : Ns} (h : Bk x a s r) : a ≤ s := by
  induction h with
  | nil => exact Nat.le_refl _
  | leaf _ _ _ _ ih => omega
  | one _ _ _ _ _ _ ih1 ih2 => omega
  | two _ _ _ _ _ _ _ ih1 ih2 ih3 => omega
theorem Bk.lt {x : List St} {a s : Nat} {r : Ns} (h : Bk x a s r) (ha : a ≤ x.length) : s ≤ x.length := by
  induction h with
  | nil => exact ha
  | leaf h _ _ _ ih => exact ih (by omega)
  | one h _ _ he _ _ _ ih2 => exact ih2 (by have := he.1; omega)
  | two h _ _ _ he _ _ _ _ ih3 => exact ih3 (by have := he.1; omega)
theorem B_bk {x : List St} : ∀ (k a s : Nat) (r : Ns), x.length - a ≤ k → a ≤ x.length → B x a = some (s, r) → Bk x a s r := by
  intro k
  induction k with
  | zero =>
    intro a s r h1 h2 h
    rw [B_end (by omega)] at h
    simp only [Option.some.injEq, Prod.mk.injEq] at h
    obtain ⟨rfl, rfl⟩ := h
    exact .nil _ (fun h => absurd h (by omega))
  | succ k ih =>
    intro a s r h1 h2 h
    by_cases hl : a < x.length
    · by_cases hs : stopA x a
      · rw [B_stop hl hs] at h
        simp only [Option.some.injEq, Prod.mk.injEq] at h
        obtain ⟨rfl, rfl⟩ := h
        exact .nil _ (fun _ => hs)
      · by_cases hn : nestA x a
        · rw [B_nest hl hn] at h
          cases hE : E x a with
          | none => rw [hE] at h; cases h
          | some q =>
            obtain ⟨m, e, b, o⟩ := q
            rw [hE] at h
            have hle := (E_le hE).1
            have hle2 := (E_le hE).2.1
            simp only [Option.map_eq_some_iff] at h
            obtain ⟨⟨s', r'⟩, h4, h5⟩ := h
            simp only [Prod.mk.injEq] at h5
            obtain ⟨rfl, rfl⟩ := h5
            have hr := ih (e + 1) s' r' (by omega) (by omega) h4
            have hE' := hE
            simp only [E, if_pos hn, nd] at hE'
            cases hb : B x (a + 1) with
            | none => rw [hb] at hE'; cases hE'
            | some cb =>
              obtain ⟨c, b'⟩ := cb
              have hbk := ih (a + 1) c b' (by omega) (by omega) hb
              have hcl := B_lt hb (by omega)
              have hcle := B_le hb
              rw [hb] at hE'
              dsimp only at hE'
              split at hE'
              · rename_i h6
                simp only [Option.some.injEq, Prod.mk.injEq] at hE'
                obtain ⟨rfl, rfl, rfl, rfl⟩ := hE'
                exact .one hl (by unfold nestA at hn; omega) hbk h6.1 hE hr
              · split at hE'
                · rename_i h6 h7
                  have hc : c < x.length := by rcases h7 with h | h <;> exact h.2.1
                  cases ho : B x (c + 1) with
                  | none => rw [ho] at hE'; cases hE'
                  | some eo =>
                    obtain ⟨e', o'⟩ := eo
                    rw [ho] at hE'
                    dsimp only at hE'
                    split at hE'
                    · rename_i h8
                      simp only [Option.some.injEq, Prod.mk.injEq] at hE'
                      obtain ⟨rfl, rfl, rfl, rfl⟩ := hE'
                      exact .two hl h7 hbk (ih (c + 1) e' o' (by omega) (by omega) ho) h8 hE hr
                    · cases hE'
                · cases hE'
        · rw [B_leaf hl hs hn] at h
          simp only [Option.map_eq_some_iff] at h
          obtain ⟨⟨s', r'⟩, h4, h5⟩ := h
          simp only [Prod.mk.injEq] at h5
          obtain ⟨rfl, rfl⟩ := h5
          exact .leaf hl hs hn (ih (a + 1) s' r' (by omega) (by omega) h4)
    · rw [B_end hl] at h
      simp only [Option.some.injEq, Prod.mk.injEq] at h
      obtain ⟨rfl, rfl⟩ := h
      exact .nil _ (fun h => absurd h hl)
theorem mmmc (a b c d : Int) : a * b * (c * d) = a * c * (b * d) := by rw [Int.mul_assoc, Int.mul_assoc, Int.mul_left_comm b c d]
/-- How often a loop goes. -/
def nA (x : List St) (a : Nat) : Int := (x.getD a zst).n
/-- The steps of nodes. -/
def stp (x : List St) : Ns → Int
  | .nil => 0
  | .cons a b o r => (if opA x a = 2 then 1 + max (stp x b) (stp x o) else if opA x a = 5 then 1 + nA x a * (1 + stp x b) else if opA x a = 8 then 1 + stp x b + stp x o else 1) + stp x r
/-- All loops go no more than four times. -/
def loopOk (x : List St) : Prop := ∀ a, a < x.length → opA x a = 5 → 0 ≤ nA x a ∧ nA x a ≤ 4
theorem stp_step {x : List St} (hx : loopOk x) {a s : Nat} {r : Ns} (h : Bk x a s r) : 0 ≤ stp x r ∧ (stp x r + 1) * (stp x r + 1) ≤ 6 ^ (s - a) := by
  have mul : ∀ {p q u v : Int}, 0 ≤ p → 0 ≤ u → p ≤ q → u ≤ v → p * u ≤ q * v := fun hp hu h1 h2 => Int.mul_le_mul h1 h2 hu (by omega)
  have sq : ∀ {p q : Int}, 0 ≤ p → p ≤ q → p * p ≤ q * q := fun hp h => mul hp hp h h
  induction h with
  | nil a h => simp [stp]
  | @leaf a s r h hs hn hr ih =>
    have e : stp x (.cons a .nil .nil r) = 1 + stp x r := by
      unfold nestA at hn
      simp only [stp]
      rw [if_neg (by omega), if_neg (by omega), if_neg (by omega)]
    have hle := hr.le
    rw [e]
    refine ⟨by omega, ?_⟩
    have e2 : s - a = (s - (a + 1)) + 1 := by omega
    rw [e2, Int.pow_succ]
    generalize stp x r = t at *
    generalize (6 : Int) ^ (s - (a + 1)) = z at *
    have : (1 + t + 1) * (1 + t + 1) ≤ (2 * (t + 1)) * (2 * (t + 1)) := sq (by omega) (by omega)
    have hsq : 0 ≤ (t + 1) * (t + 1) := Int.mul_nonneg (by omega) (by omega)
    have e3 : (2 * (t + 1)) * (2 * (t + 1)) = 4 * ((t + 1) * (t + 1)) := by rw [mmmc]; rfl
    rw [e3] at this
    omega
  | @one a e s b r h hn hb he hE hr ih1 ih2 =>
    have hle1 := hb.le
    have hle2 := hr.le
    have key : 0 ≤ stp x (.cons a b .nil r) ∧ stp x (.cons a b .nil r) + 1 ≤ 6 * ((stp x b + 1) * (stp x r + 1)) := by
      have hpos : (stp x b + 1) * 1 ≤ (stp x b + 1) * (stp x r + 1) := Int.mul_le_mul_of_nonneg_left (by omega) (by omega)
      have hpos2 : 1 * (stp x r + 1) ≤ (stp x b + 1) * (stp x r + 1) := Int.mul_le_mul_of_nonneg_right (by omega) (by omega)
      simp only [stp]
      generalize stp x b = t at *
      generalize stp x r = u at *
      generalize (t + 1) * (u + 1) = z at *
      rcases hn with hn | hn
      · rw [if_pos hn]; omega
      · rw [if_neg (by omega), if_pos hn]
        have hl := hx a h hn
        have m1 : nA x a * (1 + t) ≤ 4 * (1 + t) := Int.mul_le_mul_of_nonneg_right hl.2 (by omega)
        have m2 : 0 ≤ nA x a * (1 + t) := Int.mul_nonneg hl.1 (by omega)
        omega
    refine ⟨key.1, ?_⟩
    have e2 : s - a = (e - (a + 1)) + ((s - (e + 1)) + 2) := by omega
    rw [e2, Int.pow_add, Int.pow_add]
    have h3 := sq (by omega) key.2
    have h4 := mul (mul (by omega) (by omega) (Int.le_refl (stp x b + 1)) (Int.le_refl (stp x b + 1)) |> fun _ => Int.mul_nonneg (by omega) (by omega)) (Int.mul_nonneg (by omega : (0 : Int) ≤ stp x r + 1) (by omega)) ih1.2 ih2.2
    generalize stp x b + 1 = t at *
    generalize stp x r + 1 = u at *
    have e3 : 6 * (t * u) * (6 * (t * u)) = 36 * ((t * t) * (u * u)) := by
      rw [mmmc, mmmc t u t u]; rfl
    rw [e3] at h3
    have e4 : (6 : Int) ^ (e - (a + 1)) * (6 ^ (s - (e + 1)) * 6 ^ 2) = 36 * (6 ^ (e - (a + 1)) * 6 ^ (s - (e + 1))) := by
      rw [← Int.mul_assoc, Int.mul_comm]; rfl
    rw [e4]
    omega
  | @two a c e s b o r h hn hb ho he hE hr ih1 ih2 ih3 =>
    have hle1 := hb.le
    have hle2 := ho.le
    have hle3 := hr.le
    have key : 0 ≤ stp x (.cons a b o r) ∧ stp x (.cons a b o r) + 1 ≤ 4 * ((stp x b + 1) * ((stp x o + 1) * (stp x r + 1))) := by
      have q1 : (stp x o + 1) * 1 ≤ (stp x o + 1) * (stp x r + 1) := Int.mul_le_mul_of_nonneg_left (by omega) (by omega)
      have q2 : 1 * (stp x r + 1) ≤ (stp x o + 1) * (stp x r + 1) := Int.mul_le_mul_of_nonneg_right (by omega) (by omega)
      generalize hz : (stp x o + 1) * (stp x r + 1) = z at *
      have q3 : (stp x b + 1) * 1 ≤ (stp x b + 1) * z := Int.mul_le_mul_of_nonneg_left (by omega) (by omega)
      have q4 : 1 * z ≤ (stp x b + 1) * z := Int.mul_le_mul_of_nonneg_right (by omega) (by omega)
      simp only [stp]
      generalize (stp x b + 1) * z = w at *
      rcases hn with hn | hn
      · rw [if_pos hn.1]; omega
      · rw [if_neg (by omega), if_neg (by omega), if_pos hn.1]; omega
    refine ⟨key.1, ?_⟩
    have e2 : s - a = (c - (a + 1)) + ((e - (c + 1)) + ((s - (e + 1)) + 3)) := by omega
    rw [e2, Int.pow_add, Int.pow_add, Int.pow_add]
    have h3 := sq (by omega) key.2
    have h5 := mul (Int.mul_nonneg (by omega : (0 : Int) ≤ stp x o + 1) (by omega)) (Int.mul_nonneg (by omega : (0 : Int) ≤ stp x r + 1) (by omega)) ih2.2 ih3.2
    have h4 := mul (Int.mul_nonneg (by omega : (0 : Int) ≤ stp x b + 1) (by omega)) (Int.mul_nonneg (Int.mul_nonneg (by omega : (0 : Int) ≤ stp x o + 1) (by omega)) (Int.mul_nonneg (by omega : (0 : Int) ≤ stp x r + 1) (by omega))) ih1.2 h5
    generalize stp x b + 1 = t at *
    generalize stp x o + 1 = v at *
    generalize stp x r + 1 = u at *
    have e3 : 4 * (t * (v * u)) * (4 * (t * (v * u))) = 16 * ((t * t) * ((v * v) * (u * u))) := by
      rw [mmmc, mmmc t (v * u) t (v * u), mmmc v u v u]; rfl
    rw [e3] at h3
    generalize (6 : Int) ^ (c - (a + 1)) = A at *
    generalize (6 : Int) ^ (e - (c + 1)) = D at *
    generalize (6 : Int) ^ (s - (e + 1)) = F at *
    have e4 : A * (D * (F * 6 ^ 3)) = 216 * (A * (D * F)) := by
      rw [← Int.mul_assoc D, ← Int.mul_assoc, Int.mul_comm]; rfl
    rw [e4]
    have : 0 ≤ t * t * (v * v * (u * u)) := Int.mul_nonneg (by rcases Int.le_total 0 t with h | h; exact Int.mul_nonneg h h; exact Int.mul_nonneg_of_nonpos_of_nonpos h h) (Int.mul_nonneg (by rcases Int.le_total 0 v with h | h; exact Int.mul_nonneg h h; exact Int.mul_nonneg_of_nonpos_of_nonpos h h) (by rcases Int.le_total 0 u with h | h; exact Int.mul_nonneg h h; exact Int.mul_nonneg_of_nonpos_of_nonpos h h))
    omega
theorem stp_bd {x : List St} (hx : loopOk x) (hl : x.length ≤ 40) {a s : Nat} {r : Ns} (h : Bk x a s r) (ha : a ≤ x.length) : 0 ≤ stp x r ∧ stp x r ≤ 4000000000000000 := by
  have h1 := stp_step hx h
  have h2 := h.lt ha
  refine ⟨h1.1, ?_⟩
  have h3 : (6 : Int) ^ (s - a) ≤ 6 ^ 40 := by
    have := Nat.pow_le_pow_right (n := 6) (by decide) (show s - a ≤ 40 by omega)
    exact_mod_cast this
  have h4 := Int.le_trans h1.2 h3
  by_cases h : 4000000000000000 < stp x r
  · exfalso
    have h5 : (4000000000000001 : Int) * 4000000000000001 ≤ (stp x r + 1) * (stp x r + 1) := Int.mul_le_mul (by omega) (by omega) (by decide) (by omega)
    have h6 := Int.le_trans h5 h4
    revert h6; decide
  · omega
/-- The nodes of a whole body. -/
def nodesX (x : List St) : Option Ns := match B x 0 with
  | some (s, r) => if s = x.length then some r else none
  | none => none
theorem nodesX_bk {x : List St} {r : Ns} (h : nodesX x = some r) : Bk x 0 x.length r := by
  unfold nodesX at h
  split at h
  · rename_i s r' hB
    split at h
    · rename_i hs
      simp only [Option.some.injEq] at h
      subst h; subst hs
      exact B_bk _ 0 _ _ (Nat.le_refl _) (by omega) hB
    · cases h
  · cases h
theorem nodesX_stop {x : List St} : (nodesX x = none ↔ stopI (B x 0) ≠ x.length) := by
  unfold nodesX
  cases hB : B x 0 with
  | none => exact ⟨fun _ h => by simp only [stopI] at h; omega, fun _ => rfl⟩
  | some q =>
    obtain ⟨s, r⟩ := q
    dsimp only
    by_cases h : s = x.length
    · rw [if_pos h]
      exact ⟨fun h' => by simp at h', fun h' => absurd (show stopI (some (s, r)) = x.length by simp only [stopI]; omega) h'⟩
    · rw [if_neg h]
      exact ⟨fun _ h' => h (by simp only [stopI] at h'; omega), fun _ => rfl⟩
/-- All nodes stand in the body. -/
def okN (x : List St) : Ns → Prop
  | .nil => True
  | .cons a b o r => a < x.length ∧ okN x b ∧ okN x o ∧ okN x r
theorem Bk.ok {x : List St} {a s : Nat} {r : Ns} (h : Bk x a s r) : okN x r := by
  induction h with
  | nil => trivial
  | leaf h _ _ _ ih => exact ⟨h, trivial, trivial, ih⟩
  | one h _ _ _ _ _ ih1 ih2 => exact ⟨h, ih1, trivial, ih2⟩
  | two h _ _ _ _ _ _ ih1 ih2 ih3 => exact ⟨h, ih1, ih2, ih3⟩
def Ns.sz : Ns → Nat
  | .nil => 0
  | .cons _ b o r => 1 + b.sz + o.sz + r.sz
theorem stp_nn {x : List St} (hx : loopOk x) : ∀ {r : Ns}, okN x r → 0 ≤ stp x r
  | .nil, h => by simp [stp]
  | .cons a b o r, h => by
    obtain ⟨h1, h2, h3, h4⟩ := h
    have hb := stp_nn hx h2
    have ho := stp_nn hx h3
    have hr := stp_nn hx h4
    simp only [stp]
    split
    · omega
    · split
      · rename_i h5
        have hl := hx a h1 h5
        have := Int.mul_nonneg hl.1 (show 0 ≤ 1 + stp x b by omega)
        omega
      · split <;> omega
theorem cap_loop {n s t u : Int} (h0 : 0 ≤ n) (h4 : n ≤ 4) (hs : 0 ≤ s) : min 4000 (t + (1 + n * (1 + min 4000 s)) + u) = min 4000 (t + (1 + n * (1 + s)) + u) ∨ (4000 < t + (1 + n * (1 + min 4000 s)) ∧ 4000 < t + (1 + n * (1 + s))) ∨ t < 0 := by
  have : n = 0 ∨ n = 1 ∨ n = 2 ∨ n = 3 ∨ n = 4 := by omega
  rcases this with h | h | h | h | h <;> subst h <;> omega
open Classical in
/-- What is wrong with a program. -/
noncomputable def codeN (p : Pr) : Int :=
  if ¬ (1 ≤ p.w ∧ p.w ≤ 8) then 1
  else if ¬ inputsOk p then 2
  else if ¬ roomOk p then 3
  else if ¬ ∀ s ∈ p.body, stOk p s then 4
  else match nodesX p.body with
    | none => 5
    | some r => if 400 < stp p.body r then 6 else 0
/-- A right program. -/
structure PrOk (p : Pr) : Prop where
  w0 : 1 ≤ p.w
  w8 : p.w ≤ 8
  i : inputsOk p
  r : roomOk p
  s : ∀ s ∈ p.body, stOk p s
  n : ∃ r, nodesX p.body = some r ∧ stp p.body r ≤ 400
theorem codeN_ok (p : Pr) : codeN p = 0 ↔ PrOk p := by
  unfold codeN
  constructor
  · intro h
    split at h
    · omega
    rename_i h1
    split at h
    · omega
    rename_i h2
    split at h
    · omega
    rename_i h3
    split at h
    · omega
    rename_i h4
    split at h
    · omega
    rename_i r hr
    split at h
    · omega
    simp only [Classical.not_not] at h1 h2 h3 h4
    exact ⟨h1.1, h1.2, h2, h3, h4, r, hr, by omega⟩
  · rintro ⟨h1, h2, h3, h4, h5, r, h6, h7⟩
    rw [if_neg (by simp [h1, h2]), if_neg (by simp [h3]), if_neg (by simp [h4]), if_neg (by simpa using h5), h6]
    simp only
    rw [if_neg (by omega)]
theorem loop_ok {p : Pr} (h : ∀ s ∈ p.body, stOk p s) : loopOk p.body := by
  intro a ha h5
  have hm : p.body.getD a zst ∈ p.body := by simp [List.getD_eq_getElem?_getD, ha]
  have := (stOk5 (p := p) (s := p.body.getD a zst) h5).1 (h _ hm)
  exact ⟨this.2.2.1, this.2.2.2⟩
end Go.Eng.C

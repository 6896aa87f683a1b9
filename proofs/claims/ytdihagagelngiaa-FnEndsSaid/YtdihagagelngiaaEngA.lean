/- The engine, part A: abstract values (trees of cells), what memory they stand for, and how that lasts. Every statement here holds of any program. -/
import Derived.WalkKit
import Derived.OwnWalk
import Derived.Maps.AppendAt
namespace Go.Eng
open Go
set_option linter.unusedVariables false
set_option linter.unusedSimpArgs false

/-- What a register or a cell holds: a plain value; an empty slice; a slice or a variable that is only read (im, ip) or owned (ow, op), each with its cells; a struct; several results; a view of a part of what another register owns (vw: its cells from an offset on, so many elements), an address in it (ad); nothing that is known. -/
inductive AV where
  | sc (v : Value)
  | nl
  | im (n : Nat) (cs : List AV)
  | ow (e sz n : Nat) (cs : List AV)
  | ip (cs : List AV)
  | op (cs : List AV)
  | ag (cs : List AV)
  | tu (cs : List AV)
  | vw (r : Nat) (p : List Nat) (off n : Nat)
  | ad (r : Nat) (p : List Nat) (i : Nat)
  | dead
  deriving Inhabited

abbrev Foot := Nat → Nat → Prop
def noF : Foot := fun _ _ => False
def Disj (F G : Foot) : Prop := ∀ b o, F b o → G b o → False
def Le (F G : Foot) : Prop := ∀ b o, F b o → G b o
def Or (F G : Foot) : Foot := fun b o => F b o ∨ G b o
theorem Le.refl (F : Foot) : Le F F := fun _ _ h => h
theorem Le.trans {F G H : Foot} (h : Le F G) (k : Le G H) : Le F H := fun b o f => k b o (h b o f)
theorem Le.no (F : Foot) : Le noF F := fun _ _ h => h.elim
theorem Le.left (F G : Foot) : Le F (Or F G) := fun _ _ h => .inl h
theorem Le.right (F G : Foot) : Le G (Or F G) := fun _ _ h => .inr h
theorem Le.or {F G H : Foot} (h : Le F H) (k : Le G H) : Le (Or F G) H := fun b o x => x.elim (h b o) (k b o)
theorem Disj.symm {F G : Foot} (h : Disj F G) : Disj G F := fun b o x y => h b o y x
theorem Disj.le {F G F' G' : Foot} (h : Disj F G) (k : Le F' F) (l : Le G' G) : Disj F' G' := fun b o x y => h b o (k b o x) (l b o y)
theorem Disj.no (F : Foot) : Disj F noF := fun _ _ _ h => h
theorem Disj.no' (F : Foot) : Disj noF F := fun _ _ h _ => h
theorem Disj.or {F G H : Foot} (h : Disj F G) (k : Disj F H) : Disj F (Or G H) := fun b o x y => y.elim (h b o x) (k b o x)
theorem Disj.or' {F G H : Foot} (h : Disj F H) (k : Disj G H) : Disj (Or F G) H := fun b o x y => x.elim (h b o · y) (k b o · y)

/-- From w to w' nothing has turned but cells in F and what is new. -/
structure Keeps (F : Foot) (w w' : World) : Prop where
  os : w'.os = w.os
  tape : w'.tape = w.tape
  output : w'.output = w.output
  size : w.heap.size ≤ w'.heap.size
  shape : ∀ (b : Nat) (arr : Array Value) (t : TypeId) (fr : Nat × Nat), w.heap[b]? = some (.cells arr t fr) → (∃ o, ¬ F b o) → ∃ arr', w'.heap[b]? = some (.cells arr' t fr) ∧ arr'.size = arr.size ∧ ∀ o, ¬ F b o → arr'[o]? = arr[o]?
  other : ∀ (b : Nat) (x : Obj), w.heap[b]? = some x → (∀ arr t fr, x ≠ Obj.cells arr t fr) → w'.heap[b]? = some x

theorem add_block (ad : Addr) (j : Nat) : (ad.add j).block = ad.block := by unfold Addr.add; split <;> rfl
theorem add_off (ad : Addr) (j : Nat) : (ad.add j).off = ad.off + j := by unfold Addr.add; split <;> simp_all
theorem add_add (ad : Addr) (i j : Nat) : (ad.add i).add j = ad.add (i + j) := by
  unfold Addr.add
  by_cases hi : i = 0
  · subst hi; simp
  · by_cases hj : j = 0
    · subst hj; simp [hi]
    · simp [hi, hj, Nat.add_assoc]

theorem Keeps.refl (F : Foot) (w : World) : Keeps F w w := ⟨rfl, rfl, rfl, Nat.le_refl _, fun b arr t fr h _ => ⟨arr, h, rfl, fun _ _ => rfl⟩, fun _ _ h _ => h⟩

theorem lt_of_heap {w : World} {b : Nat} {x : Obj} (h : w.heap[b]? = some x) : b < w.heap.size := (Array.getElem?_eq_some_iff.1 h).1

theorem Keeps.trans {F G H : Foot} {w w1 w2 : World} (h : Keeps F w w1) (k : Keeps G w1 w2) (hF : Le F H) (hG : ∀ b o, b < w.heap.size → G b o → H b o) : Keeps H w w2 := by
  refine ⟨k.os.trans h.os, k.tape.trans h.tape, k.output.trans h.output, Nat.le_trans h.size k.size, fun b arr t fr hb ⟨o0, ho0⟩ => ?_, fun b x hb hx => k.other b x (h.other b x hb hx) hx⟩
  obtain ⟨a1, h1, s1, c1⟩ := h.shape b arr t fr hb ⟨o0, fun f => ho0 (hF b o0 f)⟩
  obtain ⟨a2, h2, s2, c2⟩ := k.shape b a1 t fr h1 ⟨o0, fun f => ho0 (hG b o0 (lt_of_heap hb) f)⟩
  exact ⟨a2, h2, s2.trans s1, fun o ho => (c2 o (fun g => ho (hG b o (lt_of_heap hb) g))).trans (c1 o (fun f => ho (hF b o f)))⟩
theorem Keeps.mono {F G : Foot} {w w1 : World} (h : Keeps F w w1) (k : Le F G) : Keeps G w w1 := h.trans (Keeps.refl F w1) k (fun b o _ f => k b o f)

theorem cell?_cells {w : World} {a : Addr} {v : Value} (h : w.cell? a = some v) : ∃ arr t fr, w.heap[a.block]? = some (.cells arr t fr) ∧ a.spot = none ∧ arr[a.off]? = some v := by
  unfold World.cell? at h
  split at h
  · rename_i c t fr hb
    split at h
    · cases h
    · rename_i hs
      exact ⟨c, t, fr, hb, by simpa using hs, h⟩
  · cases h
theorem cell?_of {w : World} {a : Addr} {v : Value} {arr : Array Value} {t : TypeId} {fr : Nat × Nat} (hb : w.heap[a.block]? = some (.cells arr t fr)) (hs : a.spot = none) (h : arr[a.off]? = some v) : w.cell? a = some v := by
  simp [World.cell?, hb, hs, h]
theorem Keeps.cell {F : Foot} {w w' : World} (h : Keeps F w w') {a : Addr} {v : Value} (hc : w.cell? a = some v) (hf : ¬ F a.block a.off) : w'.cell? a = some v := by
  obtain ⟨arr, t, fr, hb, hs, hv⟩ := cell?_cells hc
  obtain ⟨a1, h1, s1, c1⟩ := h.shape _ _ _ _ hb ⟨_, hf⟩
  exact cell?_of h1 hs ((c1 _ hf).trans hv)
theorem Keeps.frozen {F : Foot} {w w' : World} (h : Keeps F w w') {a : Addr} {v : Value} (hc : w.cell? a = some v) (hf : ¬ F a.block a.off) : w'.frozen? a = w.frozen? a := by
  obtain ⟨arr, t, fr, hb, hs, hv⟩ := cell?_cells hc
  obtain ⟨a1, h1, s1, c1⟩ := h.shape _ _ _ _ hb ⟨_, hf⟩
  simp [World.frozen?, hb, h1]
theorem Keeps.block {F : Foot} {w w' : World} (h : Keeps F w w') {b : Nat} {arr : Array Value} {t : TypeId} {fr : Nat × Nat} (hb : w.heap[b]? = some (.cells arr t fr)) (hf : ∀ o, ¬ F b o) : w'.heap[b]? = some (.cells arr t fr) := by
  obtain ⟨a1, h1, s1, c1⟩ := h.shape _ _ _ _ hb ⟨0, hf 0⟩
  have : a1 = arr := Array.ext_getElem? fun o => c1 o (hf o)
  rw [h1, this]
theorem Keeps.below {w w' : World} (h : Keeps noF w w') {b : Nat} (hb : b < w.heap.size) : w'.heap[b]? = w.heap[b]? := by
  obtain ⟨x, hx⟩ : ∃ x, w.heap[b]? = some x := ⟨_, Array.getElem?_eq_getElem hb⟩
  rw [hx]
  by_cases hc : ∃ arr t fr, x = Obj.cells arr t fr
  · obtain ⟨arr, t, fr, rfl⟩ := hc
    exact h.block hx (fun _ f => f)
  · exact h.other b x hx (fun arr t fr e => hc ⟨arr, t, fr, e⟩)
theorem Keeps.drew (w : World) (n : Nat) : Keeps noF w { w with drawn := n } := ⟨rfl, rfl, rfl, Nat.le_refl _, fun b arr t fr h _ => ⟨arr, h, rfl, fun _ _ => rfl⟩, fun _ _ h _ => h⟩
theorem Keeps.alloc (w : World) (o : Obj) : Keeps noF w (w.alloc o) := by
  have hh : ∀ (b : Nat) (x : Obj), w.heap[b]? = some x → (w.alloc o).heap[b]? = some x := fun b x h => by show (w.heap.push o)[b]? = some x; rw [Array.getElem?_push, if_neg (Nat.ne_of_lt (lt_of_heap h)), h]
  exact ⟨rfl, rfl, rfl, by show w.heap.size ≤ (w.heap.push o).size; simp, fun b arr t fr h _ => ⟨arr, hh _ _ h, rfl, fun _ _ => rfl⟩, fun b x h _ => hh b x h⟩
theorem Keeps.grown {w w' : World} {row : Option Nat} {F : Foot} (h : w.grownBy w' row) (hF : ∀ g, row = some g → ∀ o, F g o) (hn : ∀ g, row = some g → ∃ arr t fr, w.heap[g]? = some (.cells arr t fr)) : Keeps F w w' := by
  refine ⟨h.os, h.tape, h.output, h.size, fun b arr t fr hb ⟨o0, ho0⟩ => ?_, fun b x hb hx => ?_⟩
  · have e : some b ≠ row := fun e => ho0 (hF b e.symm o0)
    exact ⟨arr, (h.block b (lt_of_heap hb) e).trans hb, rfl, fun _ _ => rfl⟩
  · have e : some b ≠ row := fun e => by
      obtain ⟨arr, t, fr, ha⟩ := hn b e.symm
      rw [hb] at ha
      exact hx arr t fr (Option.some.inj ha)
    exact (h.block b (lt_of_heap hb) e).trans hb
/-- One cell is written. -/
theorem Keeps.setCell {w : World} {a : Addr} {v : Value} {F : Foot} (hF : F a.block a.off) : Keeps F w (w.setCell a v) := by
  refine ⟨rfl, rfl, rfl, by simp [World.setCell], fun b arr t fr hb _ => ?_, fun b x hb hx => ?_⟩
  · by_cases e : a.block = b
    · subst e
      refine ⟨if a.spot.isSome then arr else arr.setIfInBounds a.off v, ?_, ?_, fun o ho => ?_⟩
      · have hlt := lt_of_heap hb
        have hv := (Array.getElem?_eq_some_iff.1 hb).2
        simp [World.setCell, Array.getElem?_modify, hb]
      · split <;> simp
      · split
        · rfl
        · rw [Array.getElem?_setIfInBounds]
          split
          · rename_i e; subst e; exact (ho hF).elim
          · rfl
    · refine ⟨arr, ?_, rfl, fun _ _ => rfl⟩
      simp [World.setCell, Array.getElem?_modify, e, hb]
  · by_cases e : a.block = b
    · subst e
      simp only [World.setCell, Array.getElem?_modify, hb, if_true, Option.map_some, Option.some.injEq]
    · simp [World.setCell, Array.getElem?_modify, e, hb]

/-! What an abstract value stands for. -/
mutual
def Rep (w : World) (Sh : Foot) (K : Value → AV → Prop) : AV → Foot → Value → Prop
  | .sc u, F, v => v = u ∧ v.oneCell' = true
  | .nl, F, v => v = .slice none 0 0
  | .im n cs, F, v => ∃ A cap xs, v = .slice A n cap ∧ n ≤ cap ∧ (xs ≠ [] → ∃ ad, A = some ad ∧ ∀ j u, xs[j]? = some u → w.cell? (ad.add j) = some u ∧ Sh ad.block (ad.off + j)) ∧ (∀ u ∈ xs, u.oneCell' = true) ∧ Reps w Sh (fun _ _ => False) cs noF xs
  | .ow e sz n cs, F, v => ∃ xs G, w.ownsRow 0 e sz v n xs ∧ 0 < sz ∧ (∀ g, v.ownBlock = some g → (∀ o, F g o) ∧ ∀ o, ¬ G g o) ∧ (∀ u ∈ xs, u.oneCell' = true) ∧ Le G F ∧ Reps w Sh (fun _ _ => False) cs G xs
  | .ip cs, F, v => ∃ ad xs, v = .pointer (some ad) ∧ (∀ j u, xs[j]? = some u → w.cell? (ad.add j) = some u ∧ Sh ad.block (ad.off + j)) ∧ (∀ u ∈ xs, u.oneCell' = true) ∧ Reps w Sh (fun _ _ => False) cs noF xs
  | .op cs, F, v => ∃ ad xs G, v = .pointer (some ad) ∧ (∀ j u, xs[j]? = some u → w.cell? (ad.add j) = some u ∧ w.frozen? (ad.add j) = false ∧ F ad.block (ad.off + j) ∧ ¬ G ad.block (ad.off + j)) ∧ (∀ u ∈ xs, u.oneCell' = true) ∧ Le G F ∧ Reps w Sh (fun _ _ => False) cs G xs
  | .ag cs, F, v => ∃ xs, v = .agg xs ∧ (∀ u ∈ xs.toList, u.oneCell' = true) ∧ Reps w Sh K cs F xs.toList
  | .tu cs, F, v => ∃ xs, v = .tuple xs ∧ Reps w Sh K cs F xs.toList
  | .vw r p off n, F, v => K v (.vw r p off n) ∧ v.oneCell' = true
  | .ad r p i, F, v => K v (.ad r p i) ∧ v.oneCell' = true
  | .dead, F, v => True
def Reps (w : World) (Sh : Foot) (K : Value → AV → Prop) : List AV → Foot → List Value → Prop
  | [], F, xs => xs = []
  | c :: cs, F, xs => ∃ x xs' F1 F2, xs = x :: xs' ∧ Rep w Sh K c F1 x ∧ Reps w Sh K cs F2 xs' ∧ Disj F1 F2 ∧ Le F1 F ∧ Le F2 F
end

section
variable {w w' : World} {Sh Sh' : Foot} {K K' : Value → AV → Prop}

theorem Reps.length : ∀ {cs : List AV} {F : Foot} {xs : List Value}, Reps w Sh K cs F xs → cs.length = xs.length
  | [], F, xs, h => by simp only [Reps] at h; subst h; rfl
  | c :: cs, F, xs, h => by
    simp only [Reps] at h
    obtain ⟨x, xs', F1, F2, rfl, h1, h2, -⟩ := h
    simp [Reps.length h2]

theorem ownsRow_frame {F : Foot} {e sz n : Nat} {v : Value} {xs : List Value} (h : w.ownsRow 0 e sz v n xs) (k : Keeps F w w') (hd : ∀ g, v.ownBlock = some g → ∀ o, ¬ F g o) : w'.ownsRow 0 e sz v n xs := by
  refine ⟨h.1, ?_⟩
  rcases h.2 with h2 | ⟨g, cap, cur, rfl, hb, hg, rest⟩
  · exact .inl h2
  · exact .inr ⟨g, cap, cur, rfl, hb, k.block hg (hd g rfl), rest⟩

mutual
theorem Rep.frame {G : Foot} (k : Keeps G w w') (hS : Disj Sh G) (hSS : Le Sh Sh') : ∀ (a : AV) {K K' : Value → AV → Prop} {F F' : Foot} {v : Value}, (∀ v a, K v a → K' v a) → Disj G F → Le F F' → Rep w Sh K a F v → Rep w' Sh' K' a F' v
  | .sc u, _, _, _, _, _, _, _, _, h => h
  | .nl, _, _, _, _, _, _, _, _, h => h
  | .im n cs, _, _, _, _, _, hK, hd, hl, h => by
    simp only [Rep] at h ⊢
    obtain ⟨A, cap, xs, rfl, hn, hc, h1, hr⟩ := h
    refine ⟨A, cap, xs, rfl, hn, fun hx => ?_, h1, Reps.frame k hS hSS cs (fun _ _ x => x) (Disj.no _) (Le.refl _) hr⟩
    obtain ⟨ad, rfl, hcell⟩ := hc hx
    refine ⟨ad, rfl, fun j u hj => ⟨k.cell (hcell j u hj).1 ?_, hSS _ _ (hcell j u hj).2⟩⟩
    rw [add_block, add_off]; exact hS _ _ (hcell j u hj).2
  | .ow e sz n cs, _, _, F, _, _, hK, hd, hl, h => by
    simp only [Rep] at h ⊢
    obtain ⟨xs, H, ho, hz, hg, h1, hle, hr⟩ := h
    exact ⟨xs, H, ownsRow_frame ho k (fun g e o f => hd g o f ((hg g e).1 o)), hz, fun g e => ⟨fun o => hl _ _ ((hg g e).1 o), (hg g e).2⟩, h1, hle.trans hl, Reps.frame k hS hSS cs (fun _ _ x => x) (hd.le (Le.refl _) hle) (Le.refl _) hr⟩
  | .ip cs, _, _, _, _, _, hK, hd, hl, h => by
    simp only [Rep] at h ⊢
    obtain ⟨ad, xs, rfl, hc, h1, hr⟩ := h
    refine ⟨ad, xs, rfl, fun j u hj => ⟨k.cell (hc j u hj).1 ?_, hSS _ _ (hc j u hj).2⟩, h1, Reps.frame k hS hSS cs (fun _ _ x => x) (Disj.no _) (Le.refl _) hr⟩
    rw [add_block, add_off]; exact hS _ _ (hc j u hj).2
  | .op cs, _, _, F, _, _, hK, hd, hl, h => by
    simp only [Rep] at h ⊢
    obtain ⟨ad, xs, H, rfl, hc, h1, hle, hr⟩ := h
    refine ⟨ad, xs, H, rfl, fun j u hj => ?_, h1, hle.trans hl, Reps.frame k hS hSS cs (fun _ _ x => x) (hd.le (Le.refl _) hle) (Le.refl _) hr⟩
    obtain ⟨c1, c2, c3, c4⟩ := hc j u hj
    have hf : ¬ G (ad.add j).block (ad.add j).off := by rw [add_block, add_off]; exact fun f => hd _ _ f c3
    exact ⟨k.cell c1 hf, (k.frozen c1 hf).trans c2, hl _ _ c3, c4⟩
  | .ag cs, _, _, _, _, _, hK, hd, hl, h => by
    simp only [Rep] at h ⊢
    obtain ⟨xs, rfl, h1, hr⟩ := h
    exact ⟨xs, rfl, h1, Reps.frame k hS hSS cs hK hd hl hr⟩
  | .tu cs, _, _, _, _, _, hK, hd, hl, h => by
    simp only [Rep] at h ⊢
    obtain ⟨xs, rfl, hr⟩ := h
    exact ⟨xs, rfl, Reps.frame k hS hSS cs hK hd hl hr⟩
  | .vw r p off n, _, _, _, _, _, hK, hd, hl, h => by
    simp only [Rep] at h ⊢
    exact ⟨hK _ _ h.1, h.2⟩
  | .ad r p i, _, _, _, _, _, hK, hd, hl, h => by
    simp only [Rep] at h ⊢
    exact ⟨hK _ _ h.1, h.2⟩
  | .dead, _, _, _, _, _, _, _, _, h => by simp only [Rep]
theorem Reps.frame {G : Foot} (k : Keeps G w w') (hS : Disj Sh G) (hSS : Le Sh Sh') : ∀ (cs : List AV) {K K' : Value → AV → Prop} {F F' : Foot} {xs : List Value}, (∀ v a, K v a → K' v a) → Disj G F → Le F F' → Reps w Sh K cs F xs → Reps w' Sh' K' cs F' xs
  | [], _, _, _, _, _, _, _, _, h => by simpa only [Reps] using h
  | c :: cs, _, _, _, _, _, hK, hd, hl, h => by
    simp only [Reps] at h ⊢
    obtain ⟨x, xs', F1, F2, rfl, h1, h2, hdd, l1, l2⟩ := h
    exact ⟨x, xs', F1, F2, rfl, Rep.frame k hS hSS c hK (hd.le (Le.refl _) l1) (Le.refl _) h1, Reps.frame k hS hSS cs hK (hd.le (Le.refl _) l2) (Le.refl _) h2, hdd, l1.trans hl, l2.trans hl⟩
end
/-- The same memory: wider bounds, more that is only read. -/
theorem Rep.wider {a : AV} {F F' : Foot} {v : Value} (hSS : Le Sh Sh') (hK : ∀ v a, K v a → K' v a) (hl : Le F F') (h : Rep w Sh K a F v) : Rep w Sh' K' a F' v :=
  Rep.frame (Keeps.refl noF w) (Disj.no _) hSS a hK (Disj.no' F) hl h
theorem Reps.wider {cs : List AV} {F F' : Foot} {xs : List Value} (hSS : Le Sh Sh') (hK : ∀ v a, K v a → K' v a) (hl : Le F F') (h : Reps w Sh K cs F xs) : Reps w Sh' K' cs F' xs :=
  Reps.frame (Keeps.refl noF w) (Disj.no _) hSS cs hK (Disj.no' F) hl h
end
end Go.Eng

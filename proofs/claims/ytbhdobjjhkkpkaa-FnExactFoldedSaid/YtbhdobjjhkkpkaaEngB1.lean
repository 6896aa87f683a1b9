/- The engine: abstract values, what memory they stand for, the operations, the relation. -/
import Derived.WalkKit
import Derived.OwnWalk
import Derived.Maps.AppendAt
import Derived.Great.BuildSlice
import Derived.Orders
/- The engine, part A: abstract values (trees of cells), what memory they stand for, and how that lasts. Every statement here holds of any program. -/
namespace Go.Eng
open Go
set_option linter.unusedVariables false
set_option linter.unusedSimpArgs false

/-- What a register or a cell holds: a plain value; an empty slice; a slice or a variable that is only read (im, ip) or owned (ow, op), each with its cells; a struct; several results; a view of a part of what another register owns (vw: its cells from an offset on, so many elements), an address in it (ad); nothing that is known. -/
inductive AV where
  | sc (v : Value)
  | nl
  | im (n : Nat) (cs : List AV)
  | ow (e sz n : Nat) (cs : List AV)
  | ip (cs : List AV)
  | op (cs : List AV)
  | ag (cs : List AV)
  | tu (cs : List AV)
  | vw (r : Nat) (p : List Nat) (off n : Nat)
  | ad (r : Nat) (p : List Nat) (i : Nat)
  | dead
  deriving Inhabited

abbrev Foot := Nat → Nat → Prop
def noF : Foot := fun _ _ => False
def Disj (F G : Foot) : Prop := ∀ b o, F b o → G b o → False
def Le (F G : Foot) : Prop := ∀ b o, F b o → G b o
def Or (F G : Foot) : Foot := fun b o => F b o ∨ G b o
theorem Le.refl (F : Foot) : Le F F := fun _ _ h => h
theorem Le.trans {F G H : Foot} (h : Le F G) (k : Le G H) : Le F H := fun b o f => k b o (h b o f)
theorem Le.no (F : Foot) : Le noF F := fun _ _ h => h.elim
theorem Le.left (F G : Foot) : Le F (Or F G) := fun _ _ h => .inl h
theorem Le.right (F G : Foot) : Le G (Or F G) := fun _ _ h => .inr h
theorem Le.or {F G H : Foot} (h : Le F H) (k : Le G H) : Le (Or F G) H := fun b o x => x.elim (h b o) (k b o)
theorem Disj.symm {F G : Foot} (h : Disj F G) : Disj G F := fun b o x y => h b o y x
theorem Disj.le {F G F' G' : Foot} (h : Disj F G) (k : Le F' F) (l : Le G' G) : Disj F' G' := fun b o x y => h b o (k b o x) (l b o y)
theorem Disj.no (F : Foot) : Disj F noF := fun _ _ _ h => h
theorem Disj.no' (F : Foot) : Disj noF F := fun _ _ h _ => h
theorem Disj.or {F G H : Foot} (h : Disj F G) (k : Disj F H) : Disj F (Or G H) := fun b o x y => y.elim (h b o x) (k b o x)
theorem Disj.or' {F G H : Foot} (h : Disj F H) (k : Disj G H) : Disj (Or F G) H := fun b o x y => x.elim (h b o · y) (k b o · y)

/-- From w to w' nothing has turned but cells in F and what is new. -/
structure Keeps (F : Foot) (w w' : World) : Prop where
  os : w'.os = w.os
  tape : w'.tape = w.tape
  output : w'.output = w.output
  size : w.heap.size ≤ w'.heap.size
  shape : ∀ (b : Nat) (arr : Array Value) (t : TypeId) (fr : Nat × Nat), w.heap[b]? = some (.cells arr t fr) → (∃ o, ¬ F b o) → ∃ arr', w'.heap[b]? = some (.cells arr' t fr) ∧ arr'.size = arr.size ∧ ∀ o, ¬ F b o → arr'[o]? = arr[o]?
  other : ∀ (b : Nat) (x : Obj), w.heap[b]? = some x → (∀ arr t fr, x ≠ Obj.cells arr t fr) → w'.heap[b]? = some x

theorem add_block (ad : Addr) (j : Nat) : (ad.add j).block = ad.block := by unfold Addr.add; split <;> rfl
theorem add_off (ad : Addr) (j : Nat) : (ad.add j).off = ad.off + j := by unfold Addr.add; split <;> simp_all
theorem add_add (ad : Addr) (i j : Nat) : (ad.add i).add j = ad.add (i + j) := by
  unfold Addr.add
  by_cases hi : i = 0
  · subst hi; simp
  · by_cases hj : j = 0
    · subst hj; simp [hi]
    · simp [hi, hj, Nat.add_assoc]

theorem Keeps.refl (F : Foot) (w : World) : Keeps F w w := ⟨rfl, rfl, rfl, Nat.le_refl _, fun b arr t fr h _ => ⟨arr, h, rfl, fun _ _ => rfl⟩, fun _ _ h _ => h⟩

theorem lt_of_heap {w : World} {b : Nat} {x : Obj} (h : w.heap[b]? = some x) : b < w.heap.size := (Array.getElem?_eq_some_iff.1 h).1

theorem Keeps.trans {F G H : Foot} {w w1 w2 : World} (h : Keeps F w w1) (k : Keeps G w1 w2) (hF : Le F H) (hG : ∀ b o, b < w.heap.size → G b o → H b o) : Keeps H w w2 := by
  refine ⟨k.os.trans h.os, k.tape.trans h.tape, k.output.trans h.output, Nat.le_trans h.size k.size, fun b arr t fr hb ⟨o0, ho0⟩ => ?_, fun b x hb hx => k.other b x (h.other b x hb hx) hx⟩
  obtain ⟨a1, h1, s1, c1⟩ := h.shape b arr t fr hb ⟨o0, fun f => ho0 (hF b o0 f)⟩
  obtain ⟨a2, h2, s2, c2⟩ := k.shape b a1 t fr h1 ⟨o0, fun f => ho0 (hG b o0 (lt_of_heap hb) f)⟩
  exact ⟨a2, h2, s2.trans s1, fun o ho => (c2 o (fun g => ho (hG b o (lt_of_heap hb) g))).trans (c1 o (fun f => ho (hF b o f)))⟩
theorem Keeps.mono {F G : Foot} {w w1 : World} (h : Keeps F w w1) (k : Le F G) : Keeps G w w1 := h.trans (Keeps.refl F w1) k (fun b o _ f => k b o f)

theorem cell?_cells {w : World} {a : Addr} {v : Value} (h : w.cell? a = some v) : ∃ arr t fr, w.heap[a.block]? = some (.cells arr t fr) ∧ a.spot = none ∧ arr[a.off]? = some v := by
  unfold World.cell? at h
  split at h
  · rename_i c t fr hb
    split at h
    · cases h
    · rename_i hs
      exact ⟨c, t, fr, hb, by simpa using hs, h⟩
  · cases h
theorem cell?_of {w : World} {a : Addr} {v : Value} {arr : Array Value} {t : TypeId} {fr : Nat × Nat} (hb : w.heap[a.block]? = some (.cells arr t fr)) (hs : a.spot = none) (h : arr[a.off]? = some v) : w.cell? a = some v := by
  simp [World.cell?, hb, hs, h]
theorem Keeps.cell {F : Foot} {w w' : World} (h : Keeps F w w') {a : Addr} {v : Value} (hc : w.cell? a = some v) (hf : ¬ F a.block a.off) : w'.cell? a = some v := by
  obtain ⟨arr, t, fr, hb, hs, hv⟩ := cell?_cells hc
  obtain ⟨a1, h1, s1, c1⟩ := h.shape _ _ _ _ hb ⟨_, hf⟩
  exact cell?_of h1 hs ((c1 _ hf).trans hv)
theorem Keeps.frozen {F : Foot} {w w' : World} (h : Keeps F w w') {a : Addr} {v : Value} (hc : w.cell? a = some v) (hf : ¬ F a.block a.off) : w'.frozen? a = w.frozen? a := by
  obtain ⟨arr, t, fr, hb, hs, hv⟩ := cell?_cells hc
  obtain ⟨a1, h1, s1, c1⟩ := h.shape _ _ _ _ hb ⟨_, hf⟩
  simp [World.frozen?, hb, h1]
theorem Keeps.block {F : Foot} {w w' : World} (h : Keeps F w w') {b : Nat} {arr : Array Value} {t : TypeId} {fr : Nat × Nat} (hb : w.heap[b]? = some (.cells arr t fr)) (hf : ∀ o, ¬ F b o) : w'.heap[b]? = some (.cells arr t fr) := by
  obtain ⟨a1, h1, s1, c1⟩ := h.shape _ _ _ _ hb ⟨0, hf 0⟩
  have : a1 = arr := Array.ext_getElem? fun o => c1 o (hf o)
  rw [h1, this]
theorem Keeps.below {w w' : World} (h : Keeps noF w w') {b : Nat} (hb : b < w.heap.size) : w'.heap[b]? = w.heap[b]? := by
  obtain ⟨x, hx⟩ : ∃ x, w.heap[b]? = some x := ⟨_, Array.getElem?_eq_getElem hb⟩
  rw [hx]
  by_cases hc : ∃ arr t fr, x = Obj.cells arr t fr
  · obtain ⟨arr, t, fr, rfl⟩ := hc
    exact h.block hx (fun _ f => f)
  · exact h.other b x hx (fun arr t fr e => hc ⟨arr, t, fr, e⟩)
theorem Keeps.drew (w : World) (n : Nat) : Keeps noF w { w with drawn := n } := ⟨rfl, rfl, rfl, Nat.le_refl _, fun b arr t fr h _ => ⟨arr, h, rfl, fun _ _ => rfl⟩, fun _ _ h _ => h⟩
theorem Keeps.alloc (w : World) (o : Obj) : Keeps noF w (w.alloc o) := by
  have hh : ∀ (b : Nat) (x : Obj), w.heap[b]? = some x → (w.alloc o).heap[b]? = some x := fun b x h => by show (w.heap.push o)[b]? = some x; rw [Array.getElem?_push, if_neg (Nat.ne_of_lt (lt_of_heap h)), h]
  exact ⟨rfl, rfl, rfl, by show w.heap.size ≤ (w.heap.push o).size; simp, fun b arr t fr h _ => ⟨arr, hh _ _ h, rfl, fun _ _ => rfl⟩, fun b x h _ => hh b x h⟩
theorem Keeps.grown {w w' : World} {row : Option Nat} {F : Foot} (h : w.grownBy w' row) (hF : ∀ g, row = some g → ∀ o, F g o) (hn : ∀ g, row = some g → ∃ arr t fr, w.heap[g]? = some (.cells arr t fr)) : Keeps F w w' := by
  refine ⟨h.os, h.tape, h.output, h.size, fun b arr t fr hb ⟨o0, ho0⟩ => ?_, fun b x hb hx => ?_⟩
  · have e : some b ≠ row := fun e => ho0 (hF b e.symm o0)
    exact ⟨arr, (h.block b (lt_of_heap hb) e).trans hb, rfl, fun _ _ => rfl⟩
  · have e : some b ≠ row := fun e => by
      obtain ⟨arr, t, fr, ha⟩ := hn b e.symm
      rw [hb] at ha
      exact hx arr t fr (Option.some.inj ha)
    exact (h.block b (lt_of_heap hb) e).trans hb
/-- One cell is written. -/
theorem Keeps.setCell {w : World} {a : Addr} {v : Value} {F : Foot} (hF : F a.block a.off) : Keeps F w (w.setCell a v) := by
  refine ⟨rfl, rfl, rfl, by simp [World.setCell], fun b arr t fr hb _ => ?_, fun b x hb hx => ?_⟩
  · by_cases e : a.block = b
    · subst e
      refine ⟨if a.spot.isSome then arr else arr.setIfInBounds a.off v, ?_, ?_, fun o ho => ?_⟩
      · have hlt := lt_of_heap hb
        have hv := (Array.getElem?_eq_some_iff.1 hb).2
        simp [World.setCell, Array.getElem?_modify, hb]
      · split <;> simp
      · split
        · rfl
        · rw [Array.getElem?_setIfInBounds]
          split
          · rename_i e; subst e; exact (ho hF).elim
          · rfl
    · refine ⟨arr, ?_, rfl, fun _ _ => rfl⟩
      simp [World.setCell, Array.getElem?_modify, e, hb]
  · by_cases e : a.block = b
    · subst e
      simp only [World.setCell, Array.getElem?_modify, hb, if_true, Option.map_some, Option.some.injEq]
    · simp [World.setCell, Array.getElem?_modify, e, hb]

/-! What an abstract value stands for. -/
mutual
def Rep (w : World) (Sh : Foot) (K : Value → AV → Prop) : AV → Foot → Value → Prop
  | .sc u, F, v => v = u ∧ v.oneCell' = true
  | .nl, F, v => v = .slice none 0 0
  | .im n cs, F, v => ∃ A cap xs, v = .slice A n cap ∧ n ≤ cap ∧ (xs ≠ [] → ∃ ad, A = some ad ∧ ∀ j u, xs[j]? = some u → w.cell? (ad.add j) = some u ∧ Sh ad.block (ad.off + j)) ∧ (∀ u ∈ xs, u.oneCell' = true) ∧ Reps w Sh (fun _ _ => False) cs noF xs
  | .ow e sz n cs, F, v => ∃ xs G, w.ownsRow 0 e sz v n xs ∧ 0 < sz ∧ (∀ g, v.ownBlock = some g → (∀ o, F g o) ∧ ∀ o, ¬ G g o) ∧ (∀ u ∈ xs, u.oneCell' = true) ∧ Le G F ∧ Reps w Sh (fun _ _ => False) cs G xs
  | .ip cs, F, v => ∃ ad xs, v = .pointer (some ad) ∧ (∀ j u, xs[j]? = some u → w.cell? (ad.add j) = some u ∧ Sh ad.block (ad.off + j)) ∧ (∀ u ∈ xs, u.oneCell' = true) ∧ Reps w Sh (fun _ _ => False) cs noF xs
  | .op cs, F, v => ∃ ad xs G, v = .pointer (some ad) ∧ (∀ j u, xs[j]? = some u → w.cell? (ad.add j) = some u ∧ w.frozen? (ad.add j) = false ∧ F ad.block (ad.off + j) ∧ ¬ G ad.block (ad.off + j)) ∧ (∀ u ∈ xs, u.oneCell' = true) ∧ Le G F ∧ Reps w Sh (fun _ _ => False) cs G xs
  | .ag cs, F, v => ∃ xs, v = .agg xs ∧ (∀ u ∈ xs.toList, u.oneCell' = true) ∧ Reps w Sh K cs F xs.toList
  | .tu cs, F, v => ∃ xs, v = .tuple xs ∧ Reps w Sh K cs F xs.toList
  | .vw r p off n, F, v => K v (.vw r p off n) ∧ v.oneCell' = true
  | .ad r p i, F, v => K v (.ad r p i) ∧ v.oneCell' = true
  | .dead, F, v => True
def Reps (w : World) (Sh : Foot) (K : Value → AV → Prop) : List AV → Foot → List Value → Prop
  | [], F, xs => xs = []
  | c :: cs, F, xs => ∃ x xs' F1 F2, xs = x :: xs' ∧ Rep w Sh K c F1 x ∧ Reps w Sh K cs F2 xs' ∧ Disj F1 F2 ∧ Le F1 F ∧ Le F2 F
end

section
variable {w w' : World} {Sh Sh' : Foot} {K K' : Value → AV → Prop}

theorem Reps.length : ∀ {cs : List AV} {F : Foot} {xs : List Value}, Reps w Sh K cs F xs → cs.length = xs.length
  | [], F, xs, h => by simp only [Reps] at h; subst h; rfl
  | c :: cs, F, xs, h => by
    simp only [Reps] at h
    obtain ⟨x, xs', F1, F2, rfl, h1, h2, -⟩ := h
    simp [Reps.length h2]

theorem ownsRow_frame {F : Foot} {e sz n : Nat} {v : Value} {xs : List Value} (h : w.ownsRow 0 e sz v n xs) (k : Keeps F w w') (hd : ∀ g, v.ownBlock = some g → ∀ o, ¬ F g o) : w'.ownsRow 0 e sz v n xs := by
  refine ⟨h.1, ?_⟩
  rcases h.2 with h2 | ⟨g, cap, cur, rfl, hb, hg, rest⟩
  · exact .inl h2
  · exact .inr ⟨g, cap, cur, rfl, hb, k.block hg (hd g rfl), rest⟩

mutual
theorem Rep.frame {G : Foot} (k : Keeps G w w') (hS : Disj Sh G) (hSS : Le Sh Sh') : ∀ (a : AV) {K K' : Value → AV → Prop} {F F' : Foot} {v : Value}, (∀ v a, K v a → K' v a) → Disj G F → Le F F' → Rep w Sh K a F v → Rep w' Sh' K' a F' v
  | .sc u, _, _, _, _, _, _, _, _, h => h
  | .nl, _, _, _, _, _, _, _, _, h => h
  | .im n cs, _, _, _, _, _, hK, hd, hl, h => by
    simp only [Rep] at h ⊢
    obtain ⟨A, cap, xs, rfl, hn, hc, h1, hr⟩ := h
    refine ⟨A, cap, xs, rfl, hn, fun hx => ?_, h1, Reps.frame k hS hSS cs (fun _ _ x => x) (Disj.no _) (Le.refl _) hr⟩
    obtain ⟨ad, rfl, hcell⟩ := hc hx
    refine ⟨ad, rfl, fun j u hj => ⟨k.cell (hcell j u hj).1 ?_, hSS _ _ (hcell j u hj).2⟩⟩
    rw [add_block, add_off]; exact hS _ _ (hcell j u hj).2
  | .ow e sz n cs, _, _, F, _, _, hK, hd, hl, h => by
    simp only [Rep] at h ⊢
    obtain ⟨xs, H, ho, hz, hg, h1, hle, hr⟩ := h
    exact ⟨xs, H, ownsRow_frame ho k (fun g e o f => hd g o f ((hg g e).1 o)), hz, fun g e => ⟨fun o => hl _ _ ((hg g e).1 o), (hg g e).2⟩, h1, hle.trans hl, Reps.frame k hS hSS cs (fun _ _ x => x) (hd.le (Le.refl _) hle) (Le.refl _) hr⟩
  | .ip cs, _, _, _, _, _, hK, hd, hl, h => by
    simp only [Rep] at h ⊢
    obtain ⟨ad, xs, rfl, hc, h1, hr⟩ := h
    refine ⟨ad, xs, rfl, fun j u hj => ⟨k.cell (hc j u hj).1 ?_, hSS _ _ (hc j u hj).2⟩, h1, Reps.frame k hS hSS cs (fun _ _ x => x) (Disj.no _) (Le.refl _) hr⟩
    rw [add_block, add_off]; exact hS _ _ (hc j u hj).2
  | .op cs, _, _, F, _, _, hK, hd, hl, h => by
    simp only [Rep] at h ⊢
    obtain ⟨ad, xs, H, rfl, hc, h1, hle, hr⟩ := h
    refine ⟨ad, xs, H, rfl, fun j u hj => ?_, h1, hle.trans hl, Reps.frame k hS hSS cs (fun _ _ x => x) (hd.le (Le.refl _) hle) (Le.refl _) hr⟩
    obtain ⟨c1, c2, c3, c4⟩ := hc j u hj
    have hf : ¬ G (ad.add j).block (ad.add j).off := by rw [add_block, add_off]; exact fun f => hd _ _ f c3
    exact ⟨k.cell c1 hf, (k.frozen c1 hf).trans c2, hl _ _ c3, c4⟩
  | .ag cs, _, _, _, _, _, hK, hd, hl, h => by
    simp only [Rep] at h ⊢
    obtain ⟨xs, rfl, h1, hr⟩ := h
    exact ⟨xs, rfl, h1, Reps.frame k hS hSS cs hK hd hl hr⟩
  | .tu cs, _, _, _, _, _, hK, hd, hl, h => by
    simp only [Rep] at h ⊢
    obtain ⟨xs, rfl, hr⟩ := h
    exact ⟨xs, rfl, Reps.frame k hS hSS cs hK hd hl hr⟩
  | .vw r p off n, _, _, _, _, _, hK, hd, hl, h => by
    simp only [Rep] at h ⊢
    exact ⟨hK _ _ h.1, h.2⟩
  | .ad r p i, _, _, _, _, _, hK, hd, hl, h => by
    simp only [Rep] at h ⊢
    exact ⟨hK _ _ h.1, h.2⟩
  | .dead, _, _, _, _, _, _, _, _, h => by simp only [Rep]
theorem Reps.frame {G : Foot} (k : Keeps G w w') (hS : Disj Sh G) (hSS : Le Sh Sh') : ∀ (cs : List AV) {K K' : Value → AV → Prop} {F F' : Foot} {xs : List Value}, (∀ v a, K v a → K' v a) → Disj G F → Le F F' → Reps w Sh K cs F xs → Reps w' Sh' K' cs F' xs
  | [], _, _, _, _, _, _, _, _, h => by simpa only [Reps] using h
  | c :: cs, _, _, _, _, _, hK, hd, hl, h => by
    simp only [Reps] at h ⊢
    obtain ⟨x, xs', F1, F2, rfl, h1, h2, hdd, l1, l2⟩ := h
    exact ⟨x, xs', F1, F2, rfl, Rep.frame k hS hSS c hK (hd.le (Le.refl _) l1) (Le.refl _) h1, Reps.frame k hS hSS cs hK (hd.le (Le.refl _) l2) (Le.refl _) h2, hdd, l1.trans hl, l2.trans hl⟩
end
/-- The same memory: wider bounds, more that is only read. -/
theorem Rep.wider {a : AV} {F F' : Foot} {v : Value} (hSS : Le Sh Sh') (hK : ∀ v a, K v a → K' v a) (hl : Le F F') (h : Rep w Sh K a F v) : Rep w Sh' K' a F' v :=
  Rep.frame (Keeps.refl noF w) (Disj.no _) hSS a hK (Disj.no' F) hl h
theorem Reps.wider {cs : List AV} {F F' : Foot} {xs : List Value} (hSS : Le Sh Sh') (hK : ∀ v a, K v a → K' v a) (hl : Le F F') (h : Reps w Sh K cs F xs) : Reps w Sh' K' cs F' xs :=
  Reps.frame (Keeps.refl noF w) (Disj.no _) hSS cs hK (Disj.no' F) hl h
end
end Go.Eng
/- The engine, part B: paths into what is owned; a part is looked at, or replaced. -/
namespace Go.Eng
open Go
set_option linter.unusedVariables false
set_option linter.unusedSimpArgs false

def kids : AV → Option (List AV)
  | .ow _ _ _ cs | .op cs | .ag cs | .tu cs => some cs
  | _ => none
def withKids : AV → List AV → AV
  | .ow e s n _, cs => .ow e s n cs
  | .op _, cs => .op cs
  | .ag _, cs => .ag cs
  | .tu _, cs => .tu cs
  | a, _ => a
def getN : List Nat → AV → Option AV
  | [], a => some a
  | j :: p, a => (kids a).bind fun cs => (cs[j]?).bind fun c => getN p c
def setN : List Nat → AV → AV → AV
  | [], a, x => x
  | j :: p, a, x => match kids a with
    | some cs => match cs[j]? with
      | some c => withKids a (cs.set j (setN p c x))
      | none => a
    | none => a
theorem kids_with {a : AV} {cs ds : List AV} (h : kids a = some cs) : kids (withKids a ds) = some ds := by
  cases a <;> simp_all [kids, withKids]

def Value.base : Value → Option Addr
  | .slice a _ _ => a
  | .pointer a => a
  | _ => none
/-- The value at a path. -/
inductive At (w : World) : Value → AV → List Nat → Value → AV → Prop
  | nil (v a) : At w v a [] v a
  | ow {ad : Addr} {m cap e sz n j : Nat} {cs : List AV} {c : AV} {u h : Value} {x : AV} {p : List Nat} (hc : cs[j]? = some c) (hu : w.cell? (ad.add j) = some u) (hp : At w u c p h x) : At w (.slice (some ad) m cap) (.ow e sz n cs) (j :: p) h x
  | op {ad : Addr} {j : Nat} {cs : List AV} {c : AV} {u h : Value} {x : AV} {p : List Nat} (hc : cs[j]? = some c) (hu : w.cell? (ad.add j) = some u) (hp : At w u c p h x) : At w (.pointer (some ad)) (.op cs) (j :: p) h x
  | ag {xs : Array Value} {j : Nat} {cs : List AV} {c : AV} {u h : Value} {x : AV} {p : List Nat} (hc : cs[j]? = some c) (hu : xs.toList[j]? = some u) (hp : At w u c p h x) : At w (.agg xs) (.ag cs) (j :: p) h x
  | tu {xs : Array Value} {j : Nat} {cs : List AV} {c : AV} {u h : Value} {x : AV} {p : List Nat} (hc : cs[j]? = some c) (hu : xs.toList[j]? = some u) (hp : At w u c p h x) : At w (.tuple xs) (.tu cs) (j :: p) h x
theorem At.det {w : World} {v : Value} {a : AV} {p : List Nat} {h : Value} {x : AV} (k : At w v a p h x) : ∀ {h' x'}, At w v a p h' x' → h = h' ∧ x = x' := by
  induction k with
  | nil => intro h' x' l; cases l; exact ⟨rfl, rfl⟩
  | ow hc hu hp ih => intro h' x' l; cases l with | ow hc' hu' hp' => rw [hc] at hc'; cases hc'; rw [hu] at hu'; cases hu'; exact ih hp'
  | op hc hu hp ih => intro h' x' l; cases l with | op hc' hu' hp' => rw [hc] at hc'; cases hc'; rw [hu] at hu'; cases hu'; exact ih hp'
  | ag hc hu hp ih => intro h' x' l; cases l with | ag hc' hu' hp' => rw [hc] at hc'; cases hc'; rw [hu] at hu'; cases hu'; exact ih hp'
  | tu hc hu hp ih => intro h' x' l; cases l with | tu hc' hu' hp' => rw [hc] at hc'; cases hc'; rw [hu] at hu'; cases hu'; exact ih hp'
theorem At.nil_eq {w : World} {v : Value} {a : AV} {p : List Nat} {h : Value} {x : AV} (k : At w v a p h x) : p = [] → h = v := by
  cases k <;> intro e <;> first | rfl | cases e
theorem At.getN {w : World} {v : Value} {a : AV} {p : List Nat} {h : Value} {x : AV} (k : At w v a p h x) : getN p a = some x := by
  induction k with
  | nil => rfl
  | ow hc hu hp ih => simp [Eng.getN, kids, hc, ih]
  | op hc hu hp ih => simp [Eng.getN, kids, hc, ih]
  | ag hc hu hp ih => simp [Eng.getN, kids, hc, ih]
  | tu hc hu hp ih => simp [Eng.getN, kids, hc, ih]

section
variable {w w' : World} {Sh Sh' : Foot} {K K' : Value → AV → Prop}

/-- One of several, and all the others. -/
theorem Reps.lens : ∀ {cs : List AV} {F : Foot} {xs : List Value} {j : Nat} {c : AV}, Reps w Sh K cs F xs → cs[j]? = some c →
    ∃ u Fj Fo, xs[j]? = some u ∧ Rep w Sh K c Fj u ∧ Disj Fj Fo ∧ Le Fj F ∧ Le Fo F ∧
      (∀ {w' : World} {Sh' : Foot} {K' : Value → AV → Prop} {G Fj' : Foot} {c' : AV} {u' : Value}, Keeps G w w' → Disj G Fo → Disj Sh G → Le Sh Sh' → (∀ v a, K v a → K' v a) → Rep w' Sh' K' c' Fj' u' → Disj Fj' Fo → Reps w' Sh' K' (cs.set j c') (Or Fo Fj') (xs.set j u')) ∧
      (∀ {i : Nat} {c' : AV}, i ≠ j → cs[i]? = some c' → ∃ u' Fi, xs[i]? = some u' ∧ Rep w Sh K c' Fi u' ∧ Le Fi Fo)
  | [], F, xs, j, c, h, hc => by simp at hc
  | a :: cs, F, xs, 0, c, h, hc => by
    simp only [Reps] at h
    obtain ⟨x, xs', F1, F2, rfl, h1, h2, hd, l1, l2⟩ := h
    simp only [List.getElem?_cons_zero, Option.some.injEq] at hc
    subst hc
    refine ⟨x, F1, F2, rfl, h1, hd, l1, l2, ?_, ?_⟩
    · intro w' Sh' K' G Fj' c' u' k hG hS hSS hK hr hd'
      simp only [List.set_cons_zero, Reps]
      exact ⟨u', xs', Fj', F2, rfl, hr, Reps.frame k hS hSS cs hK hG (Le.refl _) h2, hd', Le.right _ _, Le.left _ _⟩
    · intro i c' hi hc'
      obtain ⟨i, rfl⟩ : ∃ k, i = k + 1 := ⟨i - 1, by omega⟩
      simp only [List.getElem?_cons_succ] at hc' ⊢
      obtain ⟨u', Fi, Fo', e1, e2, e3, e4, e5, -⟩ := Reps.lens h2 hc'
      exact ⟨u', Fi, e1, e2, e4⟩
  | a :: cs, F, xs, j + 1, c, h, hc => by
    simp only [Reps] at h
    obtain ⟨x, xs', F1, F2, rfl, h1, h2, hd, l1, l2⟩ := h
    simp only [List.getElem?_cons_succ] at hc
    obtain ⟨u, Fj, Fo, e1, e2, e3, e4, e5, e6, e7⟩ := Reps.lens h2 hc
    refine ⟨u, Fj, Or F1 Fo, e1, e2, Disj.or (hd.le (Le.refl _) e4).symm e3, e4.trans l2, Le.or l1 (e5.trans l2), ?_, ?_⟩
    · intro w' Sh' K' G Fj' c' u' k hG hS hSS hK hr hd'
      simp only [List.set_cons_succ, Reps]
      refine ⟨x, xs'.set j u', F1, Or Fo Fj', rfl, Rep.frame k hS hSS a hK (hG.le (Le.refl _) (Le.left _ _)) (Le.refl _) h1, e6 k (hG.le (Le.refl _) (Le.right _ _)) hS hSS hK hr (hd'.le (Le.refl _) (Le.right _ _)), ?_, ?_, ?_⟩
      · exact Disj.or (hd.le (Le.refl _) e5) (hd'.symm.le (Le.left _ _) (Le.refl _))
      · exact (Le.left _ _).trans (Le.left _ _)
      · exact Le.or ((Le.right F1 Fo).trans (Le.left _ _)) (Le.right _ _)
    · intro i c' hi hc'
      cases i with
      | zero =>
        simp only [List.getElem?_cons_zero, Option.some.injEq] at hc'
        subst hc'
        exact ⟨x, F1, rfl, h1, Le.left _ _⟩
      | succ i =>
        simp only [List.getElem?_cons_succ] at hc' ⊢
        obtain ⟨u', Fi, f1, f2, f3⟩ := e7 (by omega) hc'
        exact ⟨u', Fi, f1, f2, f3.trans (Le.right _ _)⟩
theorem Reps.get {cs : List AV} {F : Foot} {xs : List Value} {j : Nat} {c : AV} (h : Reps w Sh K cs F xs) (hc : cs[j]? = some c) : ∃ u Fj, xs[j]? = some u ∧ Rep w Sh K c Fj u ∧ Le Fj F := by
  obtain ⟨u, Fj, Fo, e1, e2, e3, e4, -⟩ := h.lens hc
  exact ⟨u, Fj, e1, e2, e4⟩

/-- Nothing is a reference. -/
def KF : Value → AV → Prop := fun _ _ => False
def FK (f : (Value → AV → Prop) → Value → AV → Prop) : Prop := f = id ∨ f = fun _ => KF
theorem FK.mono {f : (Value → AV → Prop) → Value → AV → Prop} (h : FK f) {K K' : Value → AV → Prop} (hK : ∀ v a, K v a → K' v a) : ∀ v a, f K v a → f K' v a := by
  rcases h with rfl | rfl
  · exact hK
  · exact fun _ _ h => h
theorem FK.kf {f : (Value → AV → Prop) → Value → AV → Prop} (h : FK f) {K : Value → AV → Prop} : ∀ v a, KF v a → f K v a := fun _ _ h => h.elim
theorem FK.comp {f g : (Value → AV → Prop) → Value → AV → Prop} (h : FK f) (k : FK g) : FK (fun K => g (f K)) := by
  rcases h with rfl | rfl <;> rcases k with rfl | rfl
  · exact .inl rfl
  · exact .inr rfl
  · exact .inr rfl
  · exact .inr rfl

theorem At.frame {G : Foot} (k : Keeps G w w') {v : Value} {a : AV} {p : List Nat} {h : Value} {x : AV} (l : At w' v a p h x) : ∀ {K : Value → AV → Prop} {F : Foot}, Rep w Sh K a F v → Disj G F → At w v a p h x := by
  induction l with
  | nil => intro K F hr hd; exact .nil _ _
  | @ow ad m cap e sz n j cs c u h x p hc hu hp ih =>
    intro K F hr hd
    simp only [Rep] at hr
    obtain ⟨xs, H, ho, hz, hg, h1, hle, hrr⟩ := hr
    obtain ⟨u', Fj, e1, e2, e3⟩ := hrr.get hc
    rcases ho.2 with ⟨e, rfl⟩ | ⟨g, cap', cur, e, hb, hh, h3, h4, h5, h6⟩
    · cases e
    · cases e
      have hce : w.cell? ((⟨g, 0, none⟩ : Addr).add j) = some u' := ho.cells (g := g) rfl j u' e1
      have := k.cell hce (by rw [add_block, add_off]; exact fun f => hd _ _ f ((hg g rfl).1 _))
      rw [this] at hu; cases hu
      exact .ow hc hce (ih e2 (hd.le (Le.refl _) (e3.trans hle)))
  | @op ad j cs c u h x p hc hu hp ih =>
    intro K F hr hd
    simp only [Rep] at hr
    obtain ⟨ad', xs, H, e, hcc, h1, hle, hrr⟩ := hr
    cases e
    obtain ⟨u', Fj, e1, e2, e3⟩ := hrr.get hc
    obtain ⟨c1, c2, c3, c4⟩ := hcc j u' e1
    have := k.cell c1 (by rw [add_block, add_off]; exact fun f => hd _ _ f c3)
    rw [this] at hu; cases hu
    exact .op hc c1 (ih e2 (hd.le (Le.refl _) (e3.trans hle)))
  | @ag xs j cs c u h x p hc hu hp ih =>
    intro K F hr hd
    simp only [Rep] at hr
    obtain ⟨xs', e, h1, hrr⟩ := hr
    cases e
    obtain ⟨u', Fj, e1, e2, e3⟩ := hrr.get hc
    rw [hu] at e1; cases e1
    exact .ag hc hu (ih e2 (hd.le (Le.refl _) e3))
  | @tu xs j cs c u h x p hc hu hp ih =>
    intro K F hr hd
    simp only [Rep] at hr
    obtain ⟨xs', e, hrr⟩ := hr
    cases e
    obtain ⟨u', Fj, e1, e2, e3⟩ := hrr.get hc
    rw [hu] at e1; cases e1
    exact .tu hc hu (ih e2 (hd.le (Le.refl _) e3))

/-- What a kid's cell is, and that it may be turned. -/
theorem Rep.kid {a : AV} {F : Foot} {v : Value} {cs : List AV} {j : Nat} {c : AV} (h : Rep w Sh K a F v) (hk : kids a = some cs) (hc : cs[j]? = some c) :
    ∃ f u Fj Fo, FK f ∧ Rep w Sh (f K) c Fj u ∧ Disj Fj Fo ∧ Le Fj F ∧ Le Fo F ∧
      (∀ p h x, At w u c p h x → At w v a (j :: p) h x) ∧
      (∀ {w' : World} {Sh' : Foot} {K' : Value → AV → Prop} {G Fj' : Foot} {c' : AV}, Keeps G w w' → Disj G Fo → Disj Sh G → Le Sh Sh' → (∀ v a, K v a → K' v a) → Rep w' Sh' (f K') c' Fj' u → Disj Fj' Fo →
        Rep w' Sh' K' (withKids a (cs.set j c')) (Or Fo Fj') v ∧
        (∀ p h x, At w' v (withKids a (cs.set j c')) (j :: p) h x → At w' u c' p h x) ∧
        (∀ i p h x, i ≠ j → At w' v (withKids a (cs.set j c')) (i :: p) h x → At w v a (i :: p) h x)) := by
  cases a <;> simp only [kids, Option.some.injEq, reduceCtorEq] at hk
  case ow e sz n ds =>
    subst hk
    simp only [Rep] at h
    obtain ⟨xs, H, ho, hz, hg, h1, hle, hr⟩ := h
    obtain ⟨u, Fj, Fo, e1, e2, e3, e4, e5, e6, e7⟩ := hr.lens hc
    have hform : ∃ g cap, v = .slice (some ⟨g, 0, none⟩) n cap := by
      rcases ho.2 with ⟨rfl, rfl⟩ | ⟨g, cap, cur, rfl, _⟩
      · have : xs = [] := List.eq_nil_of_length_eq_zero (by simpa using ho.1)
        subst this; simp at e1
      · exact ⟨g, cap, rfl⟩
    obtain ⟨g, cap, rfl⟩ := hform
    have hcell : ∀ i u, xs[i]? = some u → w.cell? ((⟨g, 0, none⟩ : Addr).add i) = some u := ho.cells (g := g) rfl
    have hgb := hg g rfl
    have hdo : Disj Fj (Or (fun b _ => b = g) Fo) := Disj.or (fun b o f e => by subst e; exact hgb.2 o (e4 _ _ f)) e3
    refine ⟨_, u, Fj, Or (fun b _ => b = g) Fo, .inr rfl, e2, hdo, e4.trans hle, Le.or (fun b o e => by subst e; exact hgb.1 o) (e5.trans hle), fun p h x hp => .ow hc (hcell _ _ e1) hp, ?_⟩
    intro w' Sh' K' G Fj' c' k hG hS hSS hK hrep hd'
    have hGF : Disj G Fo := hG.le (Le.refl _) (Le.right _ _)
    have hGg : ∀ o, ¬ G g o := fun o f => hG g o f (.inl rfl)
    have hset := e6 (K' := KF) k hGF hS hSS (fun _ _ x => x) hrep (hd'.le (Le.refl _) (Le.right _ _))
    have hxs : xs.set j u = xs := by
      obtain ⟨hlt, he⟩ := List.getElem?_eq_some_iff.1 e1
      rw [← he, List.set_getElem_self]
    rw [hxs] at hset
    have hcell' : ∀ i u, xs[i]? = some u → w'.cell? ((⟨g, 0, none⟩ : Addr).add i) = some u := fun i u hi => k.cell (hcell i u hi) (by rw [add_block]; exact hGg _)
    refine ⟨?_, ?_, ?_⟩
    · simp only [withKids, Rep]
      refine ⟨xs, Or Fo Fj', ownsRow_frame ho k (fun g' e' o => by cases e'; exact hGg o), hz, fun g' e' => ?_, h1, Le.or ((Le.right _ _).trans (Le.left _ _)) (Le.right _ _), hset⟩
      cases e'
      exact ⟨fun o => .inl (.inl rfl), fun o f => f.elim (fun f => hgb.2 o (e5 _ _ f)) (fun f => hd' _ _ f (.inl rfl))⟩
    · intro p h x hp
      simp only [withKids] at hp
      cases hp with
      | ow hc2 hu2 hp2 =>
        rw [hcell' _ _ e1] at hu2; cases hu2
        rw [List.getElem?_set_self (List.getElem?_eq_some_iff.1 hc).1] at hc2; cases hc2
        exact hp2
    · intro i p h x hi hp
      simp only [withKids] at hp
      cases hp with
      | ow hc2 hu2 hp2 =>
        rw [List.getElem?_set_ne (Ne.symm hi)] at hc2
        obtain ⟨u', Fi, f1, f2, f3⟩ := e7 hi hc2
        rw [hcell' _ _ f1] at hu2; cases hu2
        exact .ow hc2 (hcell _ _ f1) (hp2.frame k f2 (hGF.le (Le.refl _) f3))
  case op ds =>
    subst hk
    simp only [Rep] at h
    obtain ⟨ad, xs, H, rfl, hcc, h1, hle, hr⟩ := h
    obtain ⟨u, Fj, Fo, e1, e2, e3, e4, e5, e6, e7⟩ := hr.lens hc
    let C : Foot := fun b o => b = ad.block ∧ ∃ i u, xs[i]? = some u ∧ o = ad.off + i
    have hCF : Le C F := fun b o ⟨e, i, u, hi, e'⟩ => by subst e; subst e'; exact (hcc i u hi).2.2.1
    have hCH : Disj C H := fun b o ⟨e, i, u, hi, e'⟩ f => by subst e; subst e'; exact (hcc i u hi).2.2.2 f
    have hdo : Disj Fj (Or C Fo) := Disj.or (hCH.symm.le e4 (Le.refl _)) e3
    refine ⟨_, u, Fj, Or C Fo, .inr rfl, e2, hdo, e4.trans hle, Le.or hCF (e5.trans hle), fun p h x hp => .op hc (hcc _ _ e1).1 hp, ?_⟩
    intro w' Sh' K' G Fj' c' k hG hS hSS hK hrep hd'
    have hGF : Disj G Fo := hG.le (Le.refl _) (Le.right _ _)
    have hset := e6 (K' := KF) k hGF hS hSS (fun _ _ x => x) hrep (hd'.le (Le.refl _) (Le.right _ _))
    have hxs : xs.set j u = xs := by
      obtain ⟨hlt, he⟩ := List.getElem?_eq_some_iff.1 e1
      rw [← he, List.set_getElem_self]
    rw [hxs] at hset
    have hnf : ∀ i u, xs[i]? = some u → ¬ G (ad.add i).block (ad.add i).off := fun i u hi => by rw [add_block, add_off]; exact fun f => hG _ _ f (.inl ⟨rfl, i, u, hi, rfl⟩)
    have hcell' : ∀ i u, xs[i]? = some u → w'.cell? (ad.add i) = some u := fun i u hi => k.cell (hcc i u hi).1 (hnf i u hi)
    refine ⟨?_, ?_, ?_⟩
    · simp only [withKids, Rep]
      refine ⟨ad, xs, Or Fo Fj', rfl, fun i u hi => ⟨hcell' i u hi, (k.frozen (hcc i u hi).1 (hnf i u hi)).trans (hcc i u hi).2.1, .inl (.inl ⟨rfl, i, u, hi, rfl⟩), fun f => f.elim (fun f => (hcc i u hi).2.2.2 (e5 _ _ f)) (fun f => hd' _ _ f (.inl ⟨rfl, i, u, hi, rfl⟩))⟩, h1, Le.or ((Le.right _ _).trans (Le.left _ _)) (Le.right _ _), hset⟩
    · intro p h x hp
      simp only [withKids] at hp
      cases hp with
      | op hc2 hu2 hp2 =>
        rw [hcell' _ _ e1] at hu2; cases hu2
        rw [List.getElem?_set_self (List.getElem?_eq_some_iff.1 hc).1] at hc2; cases hc2
        exact hp2
    · intro i p h x hi hp
      simp only [withKids] at hp
      cases hp with
      | op hc2 hu2 hp2 =>
        rw [List.getElem?_set_ne (Ne.symm hi)] at hc2
        obtain ⟨u', Fi, f1, f2, f3⟩ := e7 hi hc2
        rw [hcell' _ _ f1] at hu2; cases hu2
        exact .op hc2 (hcc _ _ f1).1 (hp2.frame k f2 (hGF.le (Le.refl _) f3))
  case ag ds =>
    subst hk
    simp only [Rep] at h
    obtain ⟨xs, rfl, h1, hr⟩ := h
    obtain ⟨u, Fj, Fo, e1, e2, e3, e4, e5, e6, e7⟩ := hr.lens hc
    refine ⟨id, u, Fj, Fo, .inl rfl, e2, e3, e4, e5, fun p h x hp => .ag hc e1 hp, ?_⟩
    intro w' Sh' K' G Fj' c' k hG hS hSS hK hrep hd'
    have hset := e6 k hG hS hSS hK hrep hd'
    have hxs : xs.toList.set j u = xs.toList := by
      obtain ⟨hlt, he⟩ := List.getElem?_eq_some_iff.1 e1
      rw [← he, List.set_getElem_self]
    rw [hxs] at hset
    refine ⟨?_, ?_, ?_⟩
    · simp only [withKids, Rep]
      exact ⟨xs, rfl, h1, hset⟩
    · intro p h x hp
      simp only [withKids] at hp
      cases hp with
      | ag hc2 hu2 hp2 =>
        rw [e1] at hu2; cases hu2
        rw [List.getElem?_set_self (List.getElem?_eq_some_iff.1 hc).1] at hc2; cases hc2
        exact hp2
    · intro i p h x hi hp
      simp only [withKids] at hp
      cases hp with
      | ag hc2 hu2 hp2 =>
        rw [List.getElem?_set_ne (Ne.symm hi)] at hc2
        obtain ⟨u', Fi, f1, f2, f3⟩ := e7 hi hc2
        rw [hu2] at f1; cases f1
        exact .ag hc2 hu2 (hp2.frame k f2 (hG.le (Le.refl _) f3))
  case tu ds =>
    subst hk
    simp only [Rep] at h
    obtain ⟨xs, rfl, hr⟩ := h
    obtain ⟨u, Fj, Fo, e1, e2, e3, e4, e5, e6, e7⟩ := hr.lens hc
    refine ⟨id, u, Fj, Fo, .inl rfl, e2, e3, e4, e5, fun p h x hp => .tu hc e1 hp, ?_⟩
    intro w' Sh' K' G Fj' c' k hG hS hSS hK hrep hd'
    have hset := e6 k hG hS hSS hK hrep hd'
    have hxs : xs.toList.set j u = xs.toList := by
      obtain ⟨hlt, he⟩ := List.getElem?_eq_some_iff.1 e1
      rw [← he, List.set_getElem_self]
    rw [hxs] at hset
    refine ⟨?_, ?_, ?_⟩
    · simp only [withKids, Rep]
      exact ⟨xs, rfl, hset⟩
    · intro p h x hp
      simp only [withKids] at hp
      cases hp with
      | tu hc2 hu2 hp2 =>
        rw [e1] at hu2; cases hu2
        rw [List.getElem?_set_self (List.getElem?_eq_some_iff.1 hc).1] at hc2; cases hc2
        exact hp2
    · intro i p h x hi hp
      simp only [withKids] at hp
      cases hp with
      | tu hc2 hu2 hp2 =>
        rw [List.getElem?_set_ne (Ne.symm hi)] at hc2
        obtain ⟨u', Fi, f1, f2, f3⟩ := e7 hi hc2
        rw [hu2] at f1; cases f1
        exact .tu hc2 hu2 (hp2.frame k f2 (hG.le (Le.refl _) f3))

/-- q goes on behind p. -/
def Under (p q : List Nat) : Prop := ∃ j t, q = p ++ j :: t

/-- A part that lies deep: it may be looked at, and turned, its own cell aside. -/
theorem Rep.deep : ∀ (p : List Nat) {K : Value → AV → Prop} {a : AV} {F : Foot} {v : Value} {x : AV}, Rep w Sh K a F v → getN p a = some x →
    ∃ f u Fx Fr, FK f ∧ Rep w Sh (f K) x Fx u ∧ At w v a p u x ∧ Disj Fx Fr ∧ Le Fx F ∧ Le Fr F ∧
      (∀ {w' : World} {Sh' : Foot} {K' : Value → AV → Prop} {G Fx' : Foot} {x' : AV}, Keeps G w w' → Disj G Fr → Disj Sh G → Le Sh Sh' → (∀ v a, K v a → K' v a) → Rep w' Sh' (f K') x' Fx' u → Disj Fx' Fr →
        Rep w' Sh' K' (setN p a x') (Or Fr Fx') v ∧
        (∀ q h y, ¬ Under p q → At w' v (setN p a x') q h y → ∃ y', At w v a q h y') ∧
        (∀ t h y, At w' v (setN p a x') (p ++ t) h y → At w' u x' t h y)) ∧
      (∀ t h y, At w u x t h y → At w v a (p ++ t) h y)
  | [], K, a, F, v, x, h, hx => by
    simp only [getN, Option.some.injEq] at hx
    subst hx
    refine ⟨id, v, F, noF, .inl rfl, h, .nil _ _, Disj.no _, Le.refl _, Le.no _, ?_, fun t h y k => k⟩
    intro w' Sh' K' G Fx' x' k hG hS hSS hK hrep hd
    refine ⟨Rep.wider (Le.refl _) (fun _ _ h => h) (Le.right _ _) hrep, fun q h y hq hat => ?_, fun t h y k => k⟩
    cases q with
    | nil => cases hat; exact ⟨_, .nil _ _⟩
    | cons j q => exact (hq ⟨j, q, rfl⟩).elim
  | j :: p, K, a, F, v, x, h, hx => by
    simp only [getN, Option.bind_eq_some_iff] at hx
    obtain ⟨cs, hk, c, hc, hx⟩ := hx
    obtain ⟨f, u, Fj, Fo, hf, hr, hd, l1, l2, hat, hset⟩ := h.kid hk hc
    obtain ⟨g, u2, Fx, Fr, hg, hr2, hat2, hd2, m1, m2, hset2, hin⟩ := Rep.deep p hr hx
    refine ⟨fun K => g (f K), u2, Fx, Or Fo Fr, hf.comp hg, hr2, hat _ _ _ hat2, Disj.or (hd.le m1 (Le.refl _)) hd2, m1.trans l1, Le.or l2 (m2.trans l1), ?_, fun t h y k => hat _ _ _ (hin t h y k)⟩
    intro w' Sh' K' G Fx' x' k hG hS hSS hK hrep hd'
    obtain ⟨r1, r2, r3⟩ := hset2 k (hG.le (Le.refl _) (Le.right _ _)) hS hSS (hf.mono hK) hrep (hd'.le (Le.refl _) (Le.right _ _))
    have hdo : Disj (Or Fr Fx') Fo := Disj.or' (hd.le m2 (Le.refl _)) (hd'.le (Le.refl _) (Le.left _ _))
    obtain ⟨s1, s2, s3⟩ := hset k (hG.le (Le.refl _) (Le.left _ _)) hS hSS hK r1 hdo
    have he : setN (j :: p) a x' = withKids a (cs.set j (setN p c x')) := by simp [setN, hk, hc]
    rw [he]
    refine ⟨Rep.wider (Le.refl _) (fun _ _ h => h) (Le.or ((Le.left _ _).trans (Le.left _ _)) (Le.or ((Le.right _ _).trans (Le.left _ _)) (Le.right _ _))) s1, fun q h y hq hqat => ?_, fun t h y k => r3 t h y (s2 _ _ _ k)⟩
    cases q with
    | nil => rw [hqat.nil_eq rfl]; exact ⟨_, .nil _ _⟩
    | cons i q =>
      by_cases e : i = j
      · subst e
        obtain ⟨y', hy⟩ := r2 q h y (fun ⟨i', t, e'⟩ => hq ⟨i', t, by rw [e']; rfl⟩) (s2 _ _ _ hqat)
        exact ⟨y', hat _ _ _ hy⟩
      · exact ⟨y, s3 i q h y e hqat⟩
end
end Go.Eng
/- The engine, part C: the registers: what they hold together, and how they are put, turned and let go. -/
namespace Go.Eng
open Go
set_option linter.unusedVariables false
set_option linter.unusedSimpArgs false

def VwOk (h v : Value) (off n : Nat) : Prop :=
  ∃ A m cap, h = .slice A m cap ∧ (off = 0 → v = .slice A n cap ∧ n ≤ cap) ∧ (off ≠ 0 → ∃ A' c, v = .slice A' n c ∧ n ≤ c ∧ (n ≠ 0 → A' = A.map (·.add off)))
def AdOk (h v : Value) (i : Nat) : Prop := ∃ ad, v = .pointer (some (ad.add i)) ∧ (h = .pointer (some ad) ∨ ∃ m cap, h = .slice (some ad) m cap)
/-- What a reference must be, where its path leads to something. -/
def KS (w : World) (V : Nat → Value) (σ : Nat → AV) (v : Value) : AV → Prop
  | .vw r p off n => ∀ h x, At w (V r) (σ r) p h x → VwOk h v off n
  | .ad r p i => ∀ h x, At w (V r) (σ r) p h x → AdOk h v i
  | _ => True

mutual
def mask (bad : Nat → List Nat → Bool) : AV → AV
  | .vw r p off n => bif bad r p then .dead else .vw r p off n
  | .ad r p i => bif bad r p then .dead else .ad r p i
  | .ag cs => .ag (maskL bad cs)
  | .tu cs => .tu (maskL bad cs)
  | a => a
def maskL (bad : Nat → List Nat → Bool) : List AV → List AV
  | [] => []
  | c :: cs => mask bad c :: maskL bad cs
end
theorem maskL_get (bad : Nat → List Nat → Bool) : ∀ (cs : List AV) (j : Nat), (maskL bad cs)[j]? = (cs[j]?).map (mask bad)
  | [], j => by simp [maskL]
  | c :: cs, 0 => by simp [maskL]
  | c :: cs, j + 1 => by simp [maskL, maskL_get bad cs j]

section
variable {w : World} {Sh : Foot} {K K' : Value → AV → Prop}
mutual
theorem Rep.mask (bad : Nat → List Nat → Bool) (hv : ∀ v r p off n, K v (.vw r p off n) → bad r p = false → K' v (.vw r p off n)) (ha : ∀ v r p i, K v (.ad r p i) → bad r p = false → K' v (.ad r p i)) : ∀ (a : AV) {F : Foot} {v : Value}, Rep w Sh K a F v → Rep w Sh K' (Eng.mask bad a) F v
  | .sc u, _, _, h => h
  | .nl, _, _, h => h
  | .im n cs, _, _, h => h
  | .ow e sz n cs, _, _, h => h
  | .ip cs, _, _, h => h
  | .op cs, _, _, h => h
  | .dead, _, _, h => h
  | .vw r p off n, _, _, h => by
    simp only [Eng.mask]
    cases hb : bad r p
    · simp only [cond_false, Rep] at h ⊢
      exact ⟨hv _ _ _ _ _ h.1 hb, h.2⟩
    · simp only [cond_true, Rep]
  | .ad r p i, _, _, h => by
    simp only [Eng.mask]
    cases hb : bad r p
    · simp only [cond_false, Rep] at h ⊢
      exact ⟨ha _ _ _ _ h.1 hb, h.2⟩
    · simp only [cond_true, Rep]
  | .ag cs, _, _, h => by
    simp only [Eng.mask, Rep] at h ⊢
    obtain ⟨xs, e, h1, hr⟩ := h
    exact ⟨xs, e, h1, Reps.mask bad hv ha cs hr⟩
  | .tu cs, _, _, h => by
    simp only [Eng.mask, Rep] at h ⊢
    obtain ⟨xs, e, hr⟩ := h
    exact ⟨xs, e, Reps.mask bad hv ha cs hr⟩
theorem Reps.mask (bad : Nat → List Nat → Bool) (hv : ∀ v r p off n, K v (.vw r p off n) → bad r p = false → K' v (.vw r p off n)) (ha : ∀ v r p i, K v (.ad r p i) → bad r p = false → K' v (.ad r p i)) : ∀ (cs : List AV) {F : Foot} {xs : List Value}, Reps w Sh K cs F xs → Reps w Sh K' (maskL bad cs) F xs
  | [], _, _, h => by simpa only [maskL, Reps] using h
  | c :: cs, _, _, h => by
    simp only [maskL, Reps] at h ⊢
    obtain ⟨x, xs', F1, F2, e, h1, h2, hd, l1, l2⟩ := h
    exact ⟨x, xs', F1, F2, e, Rep.mask bad hv ha c h1, Reps.mask bad hv ha cs h2, hd, l1, l2⟩
end
end
theorem At.unmask {w : World} {bad : Nat → List Nat → Bool} : ∀ (q : List Nat) {v : Value} {a : AV} {h : Value} {x : AV}, At w v (mask bad a) q h x → ∃ x', At w v a q h x'
  | [], v, a, h, x, k => by rw [k.nil_eq rfl]; exact ⟨_, .nil _ _⟩
  | j :: q, v, a, h, x, k => by
    cases a with
    | vw r p off n => simp only [mask] at k; cases hb : bad r p <;> simp only [hb, cond_true, cond_false] at k <;> cases k
    | ad r p i => simp only [mask] at k; cases hb : bad r p <;> simp only [hb, cond_true, cond_false] at k <;> cases k
    | ag cs =>
      simp only [mask] at k
      cases k with
      | ag hc hu hp =>
        rw [maskL_get, Option.map_eq_some_iff] at hc
        obtain ⟨c, hc, rfl⟩ := hc
        obtain ⟨x', hx⟩ := At.unmask q hp
        exact ⟨x', .ag hc hu hx⟩
    | tu cs =>
      simp only [mask] at k
      cases k with
      | tu hc hu hp =>
        rw [maskL_get, Option.map_eq_some_iff] at hc
        obtain ⟨c, hc, rfl⟩ := hc
        obtain ⟨x', hx⟩ := At.unmask q hp
        exact ⟨x', .tu hc hu hx⟩
    | ow e sz n cs => exact ⟨_, k⟩
    | op cs => exact ⟨_, k⟩
    | sc u => cases k
    | nl => cases k
    | im n cs => cases k
    | ip cs => cases k
    | dead => cases k

def upd {α : Type} (f : Nat → α) (d : Nat) (x : α) : Nat → α := fun t => if t = d then x else f t
theorem upd_same {α : Type} (f : Nat → α) (d : Nat) (x : α) : upd f d x d = x := by simp [upd]
theorem upd_ne {α : Type} (f : Nat → α) (d : Nat) (x : α) {t : Nat} (h : t ≠ d) : upd f d x t = f t := by simp [upd, h]

/-- What the registers hold, each apart from the others and from what is only read. -/
structure Inv (w : World) (Sh : Foot) (Fs : Nat → Foot) (V : Nat → Value) (σ : Nat → AV) : Prop where
  rep : ∀ r, Rep w Sh (KS w V σ) (σ r) (Fs r) (V r)
  dis : ∀ r s, r ≠ s → Disj (Fs r) (Fs s)
  shd : ∀ r, Disj (Fs r) Sh
  bnd : ∀ r b o, Fs r b o → b < w.heap.size
  sbd : ∀ b o, Sh b o → b < w.heap.size

section
variable {w w' : World} {Sh Sh' : Foot} {Fs : Nat → Foot} {V : Nat → Value} {σ : Nat → AV}

/-- A register is put anew (in a world that may have turned elsewhere). -/
def isR (d : Nat) : Nat → List Nat → Bool := fun r _ => r == d
def put (σ : Nat → AV) (d : Nat) (av : AV) : Nat → AV := fun t => mask (isR d) (upd σ d av t)
theorem Inv.put (I : Inv w Sh Fs V σ) {G : Foot} (k : Keeps G w w') (hG : ∀ t, Disj G (Fs t)) (hS : Disj Sh G) (hSS : Le Sh Sh') {d : Nat} {av : AV} {Fd : Foot} {v : Value}
    (hr : Rep w' Sh' (KS w V σ) av Fd v) (hd : ∀ t, t ≠ d → Disj Fd (Fs t)) (hs : Disj Fd Sh') (hs' : ∀ t, t ≠ d → Disj (Fs t) Sh') (hb : ∀ b o, Fd b o → b < w'.heap.size) (hb' : ∀ b o, Sh' b o → b < w'.heap.size) :
    Inv w' Sh' (upd Fs d Fd) (upd V d v) (Eng.put σ d av) := by
  have hat : ∀ r q h x, r ≠ d → At w' (upd V d v r) (Eng.put σ d av r) q h x → ∃ x', At w (V r) (σ r) q h x' := by
    intro r q h x hrd hx
    simp only [Eng.put, upd_ne _ _ _ hrd] at hx
    obtain ⟨x', hx'⟩ := At.unmask q hx
    exact ⟨x', hx'.frame k (I.rep r) (hG r)⟩
  have hv : ∀ v0 r p off n, KS w V σ v0 (.vw r p off n) → isR d r p = false → KS w' (upd V d v) (Eng.put σ d av) v0 (.vw r p off n) := by
    intro v0 r p off n hk hb h x hx
    have hrd : r ≠ d := by simpa [isR] using hb
    obtain ⟨x', hx'⟩ := hat r p h x hrd hx
    exact hk h x' hx'
  have ha : ∀ v0 r p i, KS w V σ v0 (.ad r p i) → isR d r p = false → KS w' (upd V d v) (Eng.put σ d av) v0 (.ad r p i) := by
    intro v0 r p i hk hb h x hx
    have hrd : r ≠ d := by simpa [isR] using hb
    obtain ⟨x', hx'⟩ := hat r p h x hrd hx
    exact hk h x' hx'
  refine ⟨fun r => ?_, fun r s hrs => ?_, fun r => ?_, fun r b o f => ?_, hb'⟩
  · by_cases e : r = d
    · subst e
      simp only [Eng.put, upd_same]
      exact Rep.mask _ hv ha av hr
    · simp only [Eng.put, upd_ne _ _ _ e]
      exact Rep.mask _ hv ha (σ r) (Rep.frame k hS hSS (σ r) (fun _ _ x => x) (hG r) (Le.refl _) (I.rep r))
  · by_cases e : r = d
    · subst e
      rw [upd_same, upd_ne _ _ _ (Ne.symm hrs)]
      exact hd s (Ne.symm hrs)
    · rw [upd_ne _ _ _ e]
      by_cases e2 : s = d
      · subst e2; rw [upd_same]; exact (hd r e).symm
      · rw [upd_ne _ _ _ e2]; exact I.dis r s hrs
  · by_cases e : r = d
    · subst e; rw [upd_same]; exact hs
    · rw [upd_ne _ _ _ e]; exact hs' r e
  · by_cases e : r = d
    · subst e; rw [upd_same] at f; exact hb b o f
    · rw [upd_ne _ _ _ e] at f; exact Nat.lt_of_lt_of_le (I.bnd r b o f) k.size

/-- A part of what a register owns is turned; bad tells the references that are let go by it. -/
def modS (σ : Nat → AV) (r : Nat) (p : List Nat) (bad : Nat → List Nat → Bool) (x : AV) : Nat → AV := fun t => mask bad (upd σ r (setN p (σ r) x) t)
theorem Inv.mod (I : Inv w Sh Fs V σ) {r : Nat} {p : List Nat} {x : AV} (hx : getN p (σ r) = some x) :
    ∃ f u Fx Fr, FK f ∧ Rep w Sh (f (KS w V σ)) x Fx u ∧ At w (V r) (σ r) p u x ∧ Disj Fx Fr ∧ Le Fx (Fs r) ∧ Le Fr (Fs r) ∧
      ∀ {w' : World} {Sh' G Fx' : Foot} {x' : AV} {bad : Nat → List Nat → Bool}, Keeps G w w' → Disj G Fr → (∀ t, t ≠ r → Disj G (Fs t)) → Disj Sh G → Le Sh Sh' → (∀ t, t ≠ r → Disj (Fs t) Sh') → Disj Fr Sh' →
        Rep w' Sh' KF x' Fx' u → Disj Fx' Fr → (∀ t, t ≠ r → Disj Fx' (Fs t)) → Disj Fx' Sh' → (∀ b o, Fx' b o → b < w'.heap.size) → (∀ b o, Sh' b o → b < w'.heap.size) →
        (∀ j t h y, bad r (p ++ j :: t) = false → At w' u x' (j :: t) h y → ∃ y', At w u x (j :: t) h y') →
        Inv w' Sh' (upd Fs r (Or Fr Fx')) V (modS σ r p bad x') ∧ (∀ r' q h y, bad r' q = false → At w' (V r') (modS σ r p bad x' r') q h y → ∃ y', At w (V r') (σ r') q h y') := by
  obtain ⟨f, u, Fx, Fr, hf, h1, h2, h3, h4, h5, h6, h7⟩ := Rep.deep p (I.rep r) hx
  refine ⟨f, u, Fx, Fr, hf, h1, h2, h3, h4, h5, ?_⟩
  intro w' Sh' G Fx' x' bad k hG1 hG2 hS hSS hsh hsr hrep hd1 hd2 hd3 hb hb' hbad
  obtain ⟨s1, s2, s3⟩ := h6 (K' := KS w V σ) k hG1 hS hSS (fun _ _ x => x) (Rep.wider (Le.refl _) hf.kf (Le.refl _) hrep) hd1
  have hat : ∀ r' q h y, bad r' q = false → At w' (V r') (modS σ r p bad x' r') q h y → ∃ y', At w (V r') (σ r') q h y' := by
    intro r' q h y hbd hy
    obtain ⟨y1, hy1⟩ := At.unmask q hy
    by_cases e : r' = r
    · subst e
      rw [upd_same] at hy1
      by_cases hu : Under p q
      · obtain ⟨j, t, rfl⟩ := hu
        obtain ⟨y2, hy2⟩ := hbad j t h y1 hbd (s3 _ _ _ hy1)
        exact ⟨y2, h7 _ _ _ hy2⟩
      · exact s2 q h y1 hu hy1
    · rw [upd_ne _ _ _ e] at hy1
      exact ⟨y1, hy1.frame k (I.rep r') (hG2 r' e)⟩
  have hv : ∀ v0 r' q off n, KS w V σ v0 (.vw r' q off n) → bad r' q = false → KS w' V (modS σ r p bad x') v0 (.vw r' q off n) := by
    intro v0 r' q off n hk hb h y hy
    obtain ⟨y', hy'⟩ := hat r' q h y hb hy
    exact hk h y' hy'
  have ha : ∀ v0 r' q i, KS w V σ v0 (.ad r' q i) → bad r' q = false → KS w' V (modS σ r p bad x') v0 (.ad r' q i) := by
    intro v0 r' q i hk hb h y hy
    obtain ⟨y', hy'⟩ := hat r' q h y hb hy
    exact hk h y' hy'
  refine ⟨⟨fun t => ?_, fun t s hts => ?_, fun t => ?_, fun t b o g => ?_, hb'⟩, hat⟩
  · by_cases e : t = r
    · subst e
      simp only [modS, upd_same]
      exact Rep.mask _ hv ha _ s1
    · simp only [modS, upd_ne _ _ _ e]
      exact Rep.mask _ hv ha (σ t) (Rep.frame k hS hSS (σ t) (fun _ _ x => x) (hG2 t e) (Le.refl _) (I.rep t))
  · by_cases e : t = r
    · subst e
      rw [upd_same, upd_ne _ _ _ (Ne.symm hts)]
      exact Disj.or' ((I.dis t s hts).le h5 (Le.refl _)) (hd2 s (Ne.symm hts))
    · rw [upd_ne _ _ _ e]
      by_cases e2 : s = r
      · subst e2; rw [upd_same]; exact Disj.or ((I.dis t s hts).le (Le.refl _) h5) (hd2 t e).symm
      · rw [upd_ne _ _ _ e2]; exact I.dis t s hts
  · by_cases e : t = r
    · subst e; rw [upd_same]; exact Disj.or' hsr hd3
    · rw [upd_ne _ _ _ e]; exact hsh t e
  · by_cases e : t = r
    · subst e; rw [upd_same] at g; exact g.elim (fun g => Nat.lt_of_lt_of_le (I.bnd t b o (h5 b o g)) k.size) (hb b o)
    · rw [upd_ne _ _ _ e] at g; exact Nat.lt_of_lt_of_le (I.bnd t b o g) k.size

/-- Less may be known. -/
theorem At.dead {w : World} {v : Value} {q : List Nat} {h : Value} {x a : AV} (k : At w v .dead q h x) : ∃ x', At w v a q h x' := by
  cases k; exact ⟨_, .nil _ _⟩
theorem Inv.drop (I : Inv w Sh Fs V σ) {σ' : Nat → AV} (hσ : ∀ t, σ' t = .dead ∨ σ' t = σ t) : Inv w Sh Fs V σ' := by
  have hat : ∀ r q h x, At w (V r) (σ' r) q h x → ∃ x', At w (V r) (σ r) q h x' := by
    intro r q h x hx
    rcases hσ r with e | e
    · rw [e] at hx; exact hx.dead
    · rw [e] at hx; exact ⟨x, hx⟩
  have hK : ∀ v a, KS w V σ v a → KS w V σ' v a := by
    intro v a hk
    cases a <;> simp only [KS] at hk ⊢
    · intro h x hx; obtain ⟨x', hx'⟩ := hat _ _ h x hx; exact hk h x' hx'
    · intro h x hx; obtain ⟨x', hx'⟩ := hat _ _ h x hx; exact hk h x' hx'
  refine ⟨fun r => ?_, I.dis, I.shd, I.bnd, I.sbd⟩
  rcases hσ r with e | e
  · rw [e]; simp only [Rep]
  · rw [e]; exact Rep.wider (Le.refl _) hK (Le.refl _) (I.rep r)
/-- Memory has turned elsewhere. -/
theorem Inv.frame (I : Inv w Sh Fs V σ) {G : Foot} (k : Keeps G w w') (hG : ∀ t, Disj G (Fs t)) (hS : Disj Sh G) (hSS : Le Sh Sh') (hs' : ∀ t, Disj (Fs t) Sh') (hb' : ∀ b o, Sh' b o → b < w'.heap.size) : Inv w' Sh' Fs V σ := by
  have hK : ∀ v a, KS w V σ v a → KS w' V σ v a := by
    intro v a hk
    cases a <;> simp only [KS] at hk ⊢
    · intro h x hx; exact hk h x (hx.frame k (I.rep _) (hG _))
    · intro h x hx; exact hk h x (hx.frame k (I.rep _) (hG _))
  exact ⟨fun r => Rep.frame k hS hSS (σ r) hK (hG r) (Le.refl _) (I.rep r), I.dis, hs', fun r b o f => Nat.lt_of_lt_of_le (I.bnd r b o f) k.size, hb'⟩
end
end Go.Eng
/- The engine, part D: operands, and the operations that turn nothing but the register that they fill. -/
namespace Go.Eng
open Go
set_option linter.unusedVariables false
set_option linter.unusedSimpArgs false

/-- Registers below HB are the function's own; what lies above is what its arguments own. -/
def HB : Nat := 1000000

mutual
/-- A reference to what lies there (what is plain stays what it is). -/
def refT (r : Nat) : List Nat → AV → AV
  | p, .ow _ _ n _ => .vw r p 0 n
  | p, .op _ => .ad r p 0
  | p, .ag cs => .ag (refL r p 0 cs)
  | p, .tu cs => .tu (refL r p 0 cs)
  | _, .sc v => .sc v
  | _, .nl => .nl
  | _, .im n cs => .im n cs
  | _, .ip cs => .ip cs
  | _, .vw a b c d => .vw a b c d
  | _, .ad a b c => .ad a b c
  | _, .dead => .dead
def refL (r : Nat) : List Nat → Nat → List AV → List AV
  | _, _, [] => []
  | p, i, c :: cs => refT r (p ++ [i]) c :: refL r p (i + 1) cs
end
theorem refL_get (r : Nat) (p : List Nat) : ∀ (cs : List AV) (i k : Nat), (refL r p i cs)[k]? = (cs[k]?).map (refT r (p ++ [i + k]))
  | [], i, k => by simp [refL]
  | c :: cs, i, 0 => by simp [refL]
  | c :: cs, i, k + 1 => by simp [refL, refL_get r p cs (i + 1) k, Nat.add_assoc, Nat.add_comm 1 k]

def c1 : Value → AV
  | .slice none 0 0 => .nl
  | .agg _ => .dead
  | .tuple _ => .dead
  | v => .sc v
def cAV : Value → AV
  | .agg xs => bif xs.toList.all (·.oneCell') then .ag (xs.toList.map c1) else .dead
  | v => c1 v
def ov (σ : Nat → AV) : Operand → AV
  | .tmp t => bif Nat.blt t HB then refT t [] (σ t) else .dead
  | .const v => cAV v
  | .func f => .sc (.func (.func f) #[] #[])
  | .global _ => .dead
def VA (a : Act) (V : Nat → Value) : Prop := ∀ t, t < HB → V t = a.tmps.getD t undef

section
variable {P : Program} {w w' : World} {Sh Sh' : Foot} {Fs : Nat → Foot} {V : Nat → Value} {σ : Nat → AV} {K : Value → AV → Prop}

theorem Rep.c1 (v : Value) : Rep w Sh K (c1 v) noF v := by
  unfold Eng.c1
  split <;> simp [Rep, Value.oneCell']
theorem Reps.c1 : ∀ (xs : List Value), Reps w Sh K (xs.map c1) noF xs
  | [] => by simp [Reps]
  | x :: xs => by
    simp only [List.map_cons, Reps]
    exact ⟨x, xs, noF, noF, rfl, Rep.c1 x, Reps.c1 xs, Disj.no _, Le.refl _, Le.refl _⟩
theorem Rep.cAV (v : Value) : Rep w Sh K (cAV v) noF v := by
  unfold Eng.cAV
  split
  · rename_i xs
    cases h : xs.toList.all (·.oneCell')
    · simp [Rep]
    · simp only [cond_true, Rep]
      exact ⟨xs, rfl, fun u hu => by simpa using List.all_eq_true.1 h u hu, Reps.c1 _⟩
  · exact Rep.c1 v

mutual
theorem Rep.ref (r : Nat) : ∀ (a : AV) (p : List Nat) {K : Value → AV → Prop} {F : Foot} {v : Value}, (∀ v a, K v a → KS w V σ v a) → Rep w Sh K a F v → (∀ q h x, At w v a q h x → At w (V r) (σ r) (p ++ q) h x) → Rep w Sh (KS w V σ) (refT r p a) noF v
  | .sc u, p, _, _, _, _, h, _ => by simp only [refT]; simp only [Rep] at h ⊢; exact h
  | .nl, p, _, _, _, _, h, _ => by simp only [refT]; simp only [Rep] at h ⊢; exact h
  | .im n cs, p, _, _, _, _, h, _ => by simp only [refT]; simp only [Rep] at h ⊢; exact h
  | .ip cs, p, _, _, _, _, h, _ => by simp only [refT]; simp only [Rep] at h ⊢; exact h
  | .vw _ _ _ _, p, _, _, _, hK, h, _ => by simp only [refT]; simp only [Rep] at h ⊢; exact ⟨hK _ _ h.1, h.2⟩
  | .ad _ _ _, p, _, _, _, hK, h, _ => by simp only [refT]; simp only [Rep] at h ⊢; exact ⟨hK _ _ h.1, h.2⟩
  | .dead, p, _, _, _, _, h, _ => by simp only [refT, Rep]
  | .ow e sz n cs, p, _, _, v, _, h, hat => by
    simp only [refT, Rep] at h ⊢
    obtain ⟨xs, H, ho, -⟩ := h
    have hv : ∃ A cap, v = .slice A n cap ∧ n ≤ cap := by
      rcases ho.2 with ⟨rfl, rfl⟩ | ⟨g, cap, cur, rfl, -, -, hn, -⟩
      · exact ⟨_, _, rfl, Nat.le_refl _⟩
      · exact ⟨_, _, rfl, hn⟩
    obtain ⟨A, cap, rfl, hn⟩ := hv
    refine ⟨fun h x hx => ?_, rfl⟩
    have h0 := hat [] _ _ (.nil _ _)
    rw [List.append_nil] at h0
    obtain ⟨rfl, -⟩ := hx.det h0
    exact ⟨A, n, cap, rfl, fun _ => ⟨rfl, hn⟩, fun e => absurd rfl e⟩
  | .op cs, p, _, _, v, _, h, hat => by
    simp only [refT, Rep] at h ⊢
    obtain ⟨ad, xs, H, rfl, -⟩ := h
    refine ⟨fun h x hx => ?_, rfl⟩
    have h0 := hat [] _ _ (.nil _ _)
    rw [List.append_nil] at h0
    obtain ⟨rfl, -⟩ := hx.det h0
    exact ⟨ad, by simp [Addr.add], .inl rfl⟩
  | .ag cs, p, _, _, v, hK, h, hat => by
    simp only [refT, Rep] at h ⊢
    obtain ⟨xs, rfl, h1, hr⟩ := h
    exact ⟨xs, rfl, h1, Reps.ref r cs p 0 hK hr (fun j u c q h x hu hc hx => by rw [Nat.zero_add]; exact hat (j :: q) h x (.ag hc hu hx))⟩
  | .tu cs, p, _, _, v, hK, h, hat => by
    simp only [refT, Rep] at h ⊢
    obtain ⟨xs, rfl, hr⟩ := h
    exact ⟨xs, rfl, Reps.ref r cs p 0 hK hr (fun j u c q h x hu hc hx => by rw [Nat.zero_add]; exact hat (j :: q) h x (.tu hc hu hx))⟩
theorem Reps.ref (r : Nat) : ∀ (cs : List AV) (p : List Nat) (i : Nat) {K : Value → AV → Prop} {F : Foot} {xs : List Value}, (∀ v a, K v a → KS w V σ v a) → Reps w Sh K cs F xs → (∀ j u c q h x, xs[j]? = some u → cs[j]? = some c → At w u c q h x → At w (V r) (σ r) (p ++ (i + j) :: q) h x) → Reps w Sh (KS w V σ) (refL r p i cs) noF xs
  | [], p, i, _, _, xs, _, h, _ => by simpa only [refL, Reps] using h
  | c :: cs, p, i, _, _, xs, hK, h, hat => by
    simp only [refL, Reps] at h ⊢
    obtain ⟨x, xs', F1, F2, rfl, h1, h2, hd, l1, l2⟩ := h
    refine ⟨x, xs', noF, noF, rfl, Rep.ref r c (p ++ [i]) hK h1 (fun q h y hy => ?_), Reps.ref r cs p (i + 1) hK h2 (fun j u c' q h y hu hc hy => ?_), Disj.no _, Le.refl _, Le.refl _⟩
    · have := hat 0 x c q h y rfl rfl hy
      simpa using this
    · have := hat (j + 1) u c' q h y hu hc hy
      simpa [Nat.add_assoc, Nat.add_comm 1 j] using this
end
theorem Inv.ref (I : Inv w Sh Fs V σ) (t : Nat) : Rep w Sh (KS w V σ) (refT t [] (σ t)) noF (V t) :=
  Rep.ref t (σ t) [] (fun _ _ h => h) (I.rep t) (fun _ _ _ h => h)
theorem Inv.ov (I : Inv w Sh Fs V σ) {a : Act} (hA : VA a V) (x : Operand) : Rep w Sh (KS w V σ) (ov σ x) noF (a.eval x) := by
  cases x with
  | tmp t =>
    simp only [Eng.ov, Act.eval]
    cases h : Nat.blt t HB
    · simp only [cond_false, Rep]
    · simp only [cond_true]
      have h0 : t < HB := Nat.blt_eq ▸ h
      rw [← hA t h0]; exact I.ref t
  | const v => exact Rep.cAV v
  | global g => simp only [Eng.ov, Rep]
  | func f => simp [Eng.ov, Rep, Act.eval, Value.oneCell']

/-! What an address leads to. -/
def nodeCells (σ : Nat → AV) (r : Nat) (p : List Nat) : Option (List AV) :=
  match getN p (σ r) with
  | some (.ow _ _ _ cs) => some cs
  | some (.op cs) => some cs
  | _ => none
/-- The cell k on from an address. -/
def cell (σ : Nat → AV) (av : AV) (k : Nat) : Option AV :=
  match av with
  | .ad r p i => (nodeCells σ r p).bind fun cs => (cs[i + k]?).map (refT r (p ++ [i + k]))
  | .ip cs => cs[k]?
  | _ => none
theorem nodeCells_eq {r : Nat} {p : List Nat} {cs : List AV} (h : nodeCells σ r p = some cs) : ∃ x, getN p (σ r) = some x ∧ kids x = some cs ∧ ((∃ e sz n, x = .ow e sz n cs) ∨ x = .op cs) := by
  unfold nodeCells at h
  split at h
  · rename_i e sz n ds hx; cases h; exact ⟨_, hx, rfl, .inl ⟨e, sz, n, rfl⟩⟩
  · rename_i ds hx; cases h; exact ⟨_, hx, rfl, .inr rfl⟩
  · cases h

/-- The cells of what is owned lie one behind the other. -/
theorem Inv.node (I : Inv w Sh Fs V σ) {r : Nat} {p : List Nat} {cs : List AV} (h : nodeCells σ r p = some cs) :
    ∃ x u, getN p (σ r) = some x ∧ kids x = some cs ∧ At w (V r) (σ r) p u x ∧ ∀ ad v i, KS w V σ v (.ad r p i) → v = .pointer (some ad) →
      ∀ k c, cs[i + k]? = some c → ∃ y, w.cell? (ad.add k) = some y ∧ y.oneCell' = true ∧ Rep w Sh (KS w V σ) (refT r (p ++ [i + k]) c) noF y := by
  obtain ⟨x, hx, hk, hform⟩ := nodeCells_eq h
  obtain ⟨f, u, Fx, Fr, hf, hr, hat, -, -, -, -, hin⟩ := Rep.deep p (I.rep r) hx
  refine ⟨x, u, hx, hk, hat, ?_⟩
  intro ad v i hks hv k c hc
  obtain ⟨ad0, e1, e2⟩ := hks _ _ hat
  rw [hv] at e1
  simp only [Value.pointer.injEq, Option.some.injEq] at e1
  subst e1
  rw [add_add]
  have key : ∀ (xs : List Value) (H : Foot), Reps w Sh KF cs H xs → (∀ j y, xs[j]? = some y → w.cell? (ad0.add j) = some y) → (∀ y ∈ xs, y.oneCell' = true) → (∀ j y c q h z, xs[j]? = some y → cs[j]? = some c → At w y c q h z → At w u x (j :: q) h z) →
      ∃ y, w.cell? (ad0.add (i + k)) = some y ∧ y.oneCell' = true ∧ Rep w Sh (KS w V σ) (refT r (p ++ [i + k]) c) noF y := by
    intro xs H hrs hcell h1 hstep
    obtain ⟨y, Fj, g1, g2, g3⟩ := hrs.get hc
    refine ⟨y, hcell _ _ g1, h1 y (List.mem_of_getElem? g1), Rep.ref r c _ (fun _ _ h => h.elim) g2 (fun q h z hz => ?_)⟩
    have := hin _ _ _ (hstep (i + k) y c q h z g1 hc hz)
    simpa [List.append_assoc] using this
  rcases hform with ⟨e, sz, n, rfl⟩ | rfl
  · simp only [Rep] at hr
    obtain ⟨xs, H, ho, hz, hg, h1, hle, hrs⟩ := hr
    rcases ho.2 with ⟨rfl, rfl⟩ | ⟨g, cap, cur, rfl, -⟩
    · have : xs = [] := List.eq_nil_of_length_eq_zero (by simpa using ho.1)
      subst this
      have := hrs.length
      have hlt := (List.getElem?_eq_some_iff.1 hc).1
      simp only [List.length_nil] at this; omega
    · have hag : ad0 = ⟨g, 0, none⟩ := by
        rcases e2 with e2 | ⟨m, c', e2⟩
        · cases e2
        · cases e2; rfl
      subst hag
      have hcell := ho.cells (g := g) rfl
      exact key xs H hrs hcell h1 (fun j y c q h z hy hc hz => .ow hc (hcell _ _ hy) hz)
  · simp only [Rep] at hr
    obtain ⟨ad1, xs, H, rfl, hcc, h1, hle, hrs⟩ := hr
    have hag : ad0 = ad1 := by
      rcases e2 with e2 | ⟨m, c', e2⟩
      · cases e2; rfl
      · cases e2
    subst hag
    exact key xs H hrs (fun j y hy => (hcc j y hy).1) h1 (fun j y c q h z hy hc hz => .op hc (hcc j y hy).1 hz)
/-- What is read at an address. -/
theorem Inv.cell (I : Inv w Sh Fs V σ) {av : AV} {v : Value} (hr : Rep w Sh (KS w V σ) av noF v) {k : Nat} {c : AV} (hc : cell σ av k = some c) :
    ∃ ad y, v = .pointer (some ad) ∧ w.cell? (ad.add k) = some y ∧ y.oneCell' = true ∧ Rep w Sh (KS w V σ) c noF y := by
  cases av <;> simp only [Eng.cell, reduceCtorEq] at hc
  case ip cs =>
    simp only [Rep] at hr
    obtain ⟨ad, xs, rfl, hcell, h1, hrs⟩ := hr
    obtain ⟨y, Fj, g1, g2, g3⟩ := hrs.get hc
    exact ⟨ad, y, rfl, (hcell _ _ g1).1, h1 y (List.mem_of_getElem? g1), Rep.wider (Le.refl _) (fun _ _ h => h.elim) g3 g2⟩
  case ad r p i =>
    rw [Option.bind_eq_some_iff] at hc
    obtain ⟨cs, hn, hc⟩ := hc
    rw [Option.map_eq_some_iff] at hc
    obtain ⟨c0, hc, rfl⟩ := hc
    simp only [Rep] at hr
    obtain ⟨x, u, hx, hk, hat, hall⟩ := I.node hn
    obtain ⟨ad0, e1, e2⟩ := hr.1 _ _ hat
    obtain ⟨y, h1, h2, h3⟩ := hall _ v i hr.1 e1 k c0 hc
    exact ⟨_, y, e1, h1, h2, h3⟩
/-- An address, so many cells on. -/
def adv (σ : Nat → AV) (av : AV) (k : Nat) : Option AV :=
  match av with
  | .ad r p i => (nodeCells σ r p).map fun _ => .ad r p (i + k)
  | .ip cs => some (.ip (cs.drop k))
  | _ => none
theorem Reps.drop : ∀ (k : Nat) {cs : List AV} {F : Foot} {xs : List Value}, Reps w Sh K cs F xs → Reps w Sh K (cs.drop k) F (xs.drop k)
  | 0, cs, F, xs, h => h
  | k + 1, [], F, xs, h => by simp only [Reps] at h; subst h; simp [Reps]
  | k + 1, c :: cs, F, xs, h => by
    simp only [Reps] at h
    obtain ⟨x, xs', F1, F2, rfl, h1, h2, hd, l1, l2⟩ := h
    simp only [List.drop_succ_cons]
    exact Reps.drop k (Reps.wider (Le.refl _) (fun _ _ h => h) l2 h2)
theorem Reps.take : ∀ (k : Nat) {cs : List AV} {F : Foot} {xs : List Value}, Reps w Sh K cs F xs → Reps w Sh K (cs.take k) F (xs.take k)
  | 0, cs, F, xs, h => by simp [Reps]
  | k + 1, [], F, xs, h => by simp only [Reps] at h; subst h; simp [Reps]
  | k + 1, c :: cs, F, xs, h => by
    simp only [Reps] at h
    obtain ⟨x, xs', F1, F2, rfl, h1, h2, hd, l1, l2⟩ := h
    simp only [List.take_succ_cons, Reps]
    exact ⟨x, xs'.take k, F1, F2, rfl, h1, Reps.take k h2, hd, l1, l2⟩
theorem Inv.adv (I : Inv w Sh Fs V σ) {av : AV} {v : Value} (hr : Rep w Sh (KS w V σ) av noF v) {k : Nat} {c : AV} (hc : adv σ av k = some c) :
    ∃ ad, v = .pointer (some ad) ∧ Rep w Sh (KS w V σ) c noF (.pointer (some (ad.add k))) := by
  cases av <;> simp only [Eng.adv, reduceCtorEq, Option.some.injEq] at hc
  case ip cs =>
    subst hc
    simp only [Rep] at hr ⊢
    obtain ⟨ad, xs, rfl, hcell, h1, hrs⟩ := hr
    refine ⟨ad, rfl, _, xs.drop k, rfl, fun j u hj => ?_, fun u hu => h1 u (List.mem_of_mem_drop hu), hrs.drop k⟩
    rw [List.getElem?_drop] at hj
    rw [add_add, add_block, add_off, Nat.add_assoc]
    exact hcell _ _ hj
  case ad r p i =>
    rw [Option.map_eq_some_iff] at hc
    obtain ⟨cs, hn, rfl⟩ := hc
    simp only [Rep] at hr ⊢
    obtain ⟨x, u, hx, hk, hat, -⟩ := I.node hn
    obtain ⟨ad0, e1, e2⟩ := hr.1 _ _ hat
    refine ⟨_, e1, fun h y hy => ?_, rfl⟩
    obtain ⟨rfl, -⟩ := hy.det hat
    exact ⟨ad0, by rw [add_add], e2⟩
end
end Go.Eng
/- The engine, part E: the quiet operations, each with what it gives. -/
namespace Go.Eng
open Go
set_option linter.unusedVariables false
set_option linter.unusedSimpArgs false

def aggT (P : Program) (t : TypeId) : Option Bool :=
  match P.underlying t with
  | some (.struct _) | some (.array _ _) => some true
  | some _ => some false
  | none => none
def szT (P : Program) (t : TypeId) : Option Nat := (P.info? t).map (·.size)
def zeroT (P : Program) (t : TypeId) : Option Value := (P.info? t).bind (·.zero)
def bytesT (P : Program) (t : TypeId) : Option Nat := (P.info? t).map (·.bytes)

section
variable {P : Program} {w w' : World} {Sh Sh' : Foot} {Fs : Nat → Foot} {V : Nat → Value} {σ : Nat → AV} {K : Value → AV → Prop}
theorem run_isAgg {t : TypeId} {b : Bool} (h : aggT P t = some b) (w : World) : (isAgg t).run P w = .ok b w := by
  unfold aggT at h
  cases hu : P.underlying t with
  | none => simp [hu] at h
  | some d =>
    simp only [isAgg, Sem.run_bind, run_underlying hu, Result.andThen_ok]
    cases d <;> simp_all
theorem run_sizeOf {t : TypeId} {n : Nat} (h : szT P t = some n) (w : World) : (sizeOf t).run P w = .ok n w := by
  unfold szT at h
  rw [Option.map_eq_some_iff] at h
  obtain ⟨i, hi, rfl⟩ := h
  simp [sizeOf, typeInfo, hi]
theorem run_zeroValue {t : TypeId} {z : Value} (h : zeroT P t = some z) (w : World) : (zeroValue t).run P w = .ok z w := by
  unfold zeroT at h
  rw [Option.bind_eq_some_iff] at h
  obtain ⟨i, hi, hz⟩ := h
  simp [zeroValue, typeInfo, hi, hz]
theorem run_load_cell {a : Addr} {v : Value} (h : w.cell? a = some v) : (load a).run P w = .ok v w := by simp [run_load, h]
theorem run_loadCellsFrom (ad : Addr) : ∀ (n i : Nat) (acc : Array Value) (ys : List Value), ys.length = n → (∀ k y, ys[k]? = some y → w.cell? (ad.add (i + k)) = some y) → (loadCellsFrom ad i n acc).run P w = .ok (acc ++ ys.toArray) w
  | 0, i, acc, ys, hl, h => by
    have : ys = [] := List.eq_nil_of_length_eq_zero hl
    subst this; simp [loadCellsFrom]
  | n + 1, i, acc, [], hl, h => by simp at hl
  | n + 1, i, acc, y :: ys, hl, h => by
    have h0 := h 0 y rfl
    rw [Nat.add_zero] at h0
    simp only [loadCellsFrom, Sem.run_bind, run_load_cell h0, Result.andThen_ok]
    rw [run_loadCellsFrom ad n (i + 1) _ ys (by simpa using hl) (fun k z hk => by have := h (k + 1) z hk; rwa [show i + 1 + k = i + (k + 1) by omega])]
    simp

/-- What a quiet operation gives: a value, in a world where nothing has turned but what is new. -/
def Gives (P : Program) (w : World) (Sh : Foot) (V : Nat → Value) (σ : Nat → AV) (m : Sem Next) (av : AV) : Prop :=
  ∃ v w' Fd, m.run P w = .ok (.value v) w' ∧ Keeps noF w w' ∧ Rep w' Sh (KS w V σ) av Fd v ∧ ∀ b o, Fd b o → w.heap.size ≤ b ∧ b < w'.heap.size
theorem Gives.same {m : Sem Next} {av : AV} {v : Value} (h : m.run P w = .ok (.value v) w) (hr : Rep w Sh (KS w V σ) av noF v) : Gives P w Sh V σ m av :=
  ⟨v, w, noF, h, Keeps.refl _ _, hr, fun _ _ f => f.elim⟩

variable {a : Act} {o : Oper}
theorem load_one (I : Inv w Sh Fs V σ) {t : TypeId} {x : AV} {vx : Value} {c : AV} (hx : Rep w Sh (KS w V σ) x noF vx) (ht : aggT P t = some false) (hc : cell σ x 0 = some c) : ∃ ad y, vx = .pointer (some ad) ∧ (loadVar t ad).run P w = .ok y w ∧ Rep w Sh (KS w V σ) c noF y := by
  obtain ⟨ad, y, h1, h2, h3, h4⟩ := I.cell hx hc
  refine ⟨ad, y, h1, ?_, h4⟩
  have h2' : w.cell? ad = some y := by simpa [Addr.add] using h2
  simp only [loadVar, Sem.run_bind, Result.andThen_ok, run_isAgg ht, run_load_cell h2', Bool.false_eq_true, if_false]
theorem load_many (I : Inv w Sh Fs V σ) {t : TypeId} {x : AV} {vx : Value} {L : List AV} {s : Nat} (hx : Rep w Sh (KS w V σ) x noF vx) (ht : aggT P t = some true) (hs : szT P t = some s) (hl : L.length = s) (h0 : 0 < s) (hc : ∀ k, k < s → cell σ x k = L[k]?) : ∃ ad y, vx = .pointer (some ad) ∧ (loadVar t ad).run P w = .ok y w ∧ Rep w Sh (KS w V σ) (.ag L) noF y := by
  obtain ⟨ad, y0, e0, -⟩ := I.cell hx ((hc 0 h0).trans (List.getElem?_eq_getElem (by omega)))
  have key : ∀ (M : List AV) (i : Nat), (∀ k, k < M.length → cell σ x (i + k) = M[k]?) → ∃ ys : List Value, ys.length = M.length ∧ (∀ k y, ys[k]? = some y → w.cell? (ad.add (i + k)) = some y) ∧ (∀ u ∈ ys, u.oneCell' = true) ∧ Reps w Sh (KS w V σ) M noF ys := by
    intro M
    induction M with
    | nil => intro i _; exact ⟨[], rfl, by simp, by simp, by simp [Reps]⟩
    | cons c M ih =>
      intro i h
      obtain ⟨ys, g1, g2, g3, g4⟩ := ih (i + 1) (fun k hk => by have := h (k + 1) (by simp; omega); rw [show i + 1 + k = i + (k + 1) by omega]; simpa using this)
      obtain ⟨ad', y, e1, e2, e3, e4⟩ := I.cell hx ((h 0 (by simp)).trans rfl)
      rw [e0] at e1; cases e1
      refine ⟨y :: ys, by simp [g1], fun k z hk => ?_, fun u hu => ?_, ?_⟩
      · cases k with
        | zero => simp at hk; subst hk; exact e2
        | succ k => have := g2 k z hk; rwa [show i + 1 + k = i + (k + 1) by omega] at this
      · rcases List.mem_cons.1 hu with rfl | hu
        · exact e3
        · exact g3 u hu
      · simp only [Reps]; exact ⟨y, ys, noF, noF, rfl, e4, g4, Disj.no _, Le.refl _, Le.refl _⟩
  obtain ⟨ys, g1, g2, g3, g4⟩ := key L 0 (fun k hk => by rw [Nat.zero_add]; exact hc k (by omega))
  refine ⟨ad, .agg ys.toArray, e0, ?_, ?_⟩
  · simp only [loadVar, Sem.run_bind, Sem.run_pure, Result.andThen_ok, run_isAgg ht, run_sizeOf hs, loadCells, if_true]
    rw [run_loadCellsFrom ad s 0 #[] ys (by omega) g2]
    simp
  · simp only [Rep]
    exact ⟨ys.toArray, rfl, by simpa using g3, by simpa using g4⟩
theorem gives_load1 (I : Inv w Sh Fs V σ) (hA : VA a V) {t : TypeId} {x : Operand} {c : AV} (ho : o.op = .load t x) (ht : aggT P t = some false) (hc : cell σ (ov σ x) 0 = some c) : Gives P w Sh V σ (execOp a.eval o) c := by
  obtain ⟨ad, y, h1, h2, h3⟩ := load_one (P := P) I (I.ov hA x) ht hc
  exact Gives.same (v := y) (by simp only [execOp, ho, Instr.loadAt, Instr.sureAddr, h1, Sem.run_bind, Sem.run_pure, Result.andThen_ok, h2]) h3
theorem gives_loadA (I : Inv w Sh Fs V σ) (hA : VA a V) {t : TypeId} {x : Operand} {L : List AV} {s : Nat} (ho : o.op = .load t x) (ht : aggT P t = some true) (hs : szT P t = some s) (hl : L.length = s) (h0 : 0 < s) (hc : ∀ k, k < s → cell σ (ov σ x) k = L[k]?) : Gives P w Sh V σ (execOp a.eval o) (.ag L) := by
  obtain ⟨ad, y, h1, h2, h3⟩ := load_many (P := P) I (I.ov hA x) ht hs hl h0 hc
  exact Gives.same (v := y) (by simp only [execOp, ho, Instr.loadAt, Instr.sureAddr, h1, Sem.run_bind, Sem.run_pure, Result.andThen_ok, h2]) h3
theorem gives_adv (I : Inv w Sh Fs V σ) (hA : VA a V) {x : Operand} {k : Nat} {c : AV} (hc : adv σ (ov σ x) k = some c) (h : ∀ ad, a.eval x = .pointer (some ad) → (execOp a.eval o).run P w = .ok (.value (.pointer (some (ad.add k)))) w) : Gives P w Sh V σ (execOp a.eval o) c := by
  obtain ⟨ad, h1, h2⟩ := I.adv (I.ov hA x) hc
  exact Gives.same (h ad h1) h2
theorem add_zero' (ad : Addr) : ad.add 0 = ad := by simp [Addr.add]
theorem gives_nilCheck (I : Inv w Sh Fs V σ) (hA : VA a V) {x : Operand} {c : AV} (ho : o.op = .nilCheck x) (hc : adv σ (ov σ x) 0 = some c) : Gives P w Sh V σ (execOp a.eval o) c :=
  gives_adv I hA hc fun ad h => by simp [execOp, ho, h, add_zero']
theorem gives_fieldAddr (I : Inv w Sh Fs V σ) (hA : VA a V) {s : TypeId} {x : Operand} {f n : Nat} {fs : Array Field} {fd : Field} {c : AV} (ho : o.op = .fieldAddr s x f) (hs : P.underlying s = some (.struct fs)) (hf : fs[f]? = some fd) (hn : szT P fd.type = some n) (h0 : 0 < n) (hc : adv σ (ov σ x) fd.offset = some c) : Gives P w Sh V σ (execOp a.eval o) c :=
  gives_adv I hA hc fun ad h => by
    have hn0 : n ≠ 0 := by omega
    simp only [execOp, ho, Instr.fieldAt, Instr.sureAddr, h, Sem.run_bind, run_underlying hs, Result.andThen_ok, hf, fieldPlace, run_sizeOf hn, Sem.run_pure, Sem.run_ite, if_neg hn0]
theorem gives_indexA (I : Inv w Sh Fs V σ) (hA : VA a V) {t : TypeId} {x ix : Operand} {len n : Nat} {e : TypeId} {k : IntKind} {i : Int} {c : AV} (ho : o.op = .indexAddr t x ix) (ht : P.underlying t = some (.array len e)) (hn : szT P e = some n) (hi : a.eval ix = .int k i) (h0 : 0 ≤ i) (h1 : i < len) (hc : adv σ (ov σ x) (i.toNat * n) = some c) : Gives P w Sh V σ (execOp a.eval o) c :=
  gives_adv I hA hc fun ad h => by
    simp only [execOp, ho, Instr.indexAt, Instr.sureAddr, h, hi, asIntOf, Sem.run_bind, run_underlying ht, Result.andThen_ok, run_sizeOf hn, Sem.run_pure, Sem.run_ite, if_pos (And.intro h0 h1)]
/-- A view of a slice that is owned: its value. -/
theorem Inv.view (I : Inv w Sh Fs V σ) {r : Nat} {p : List Nat} {off n e sz m : Nat} {cs : List AV} {v : Value} (hr : Rep w Sh (KS w V σ) (.vw r p off n) noF v) (hn : getN p (σ r) = some (.ow e sz m cs)) :
    ∃ h A m' cap A' cap', At w (V r) (σ r) p h (.ow e sz m cs) ∧ h = .slice A m' cap ∧ v = .slice A' n cap' ∧ n ≤ cap' ∧ (off = 0 → A' = A ∧ cap' = cap) ∧ (off ≠ 0 → n ≠ 0 → A' = A.map (·.add off)) ∧ (cs ≠ [] → ∃ ad, A = some ad) := by
  obtain ⟨f, u, Fx, Fr, hf, hx, hat, -⟩ := Rep.deep p (I.rep r) hn
  simp only [Rep] at hr hx
  obtain ⟨xs, H, ho, hz, hg, h1, hle, hrs⟩ := hx
  obtain ⟨A, m', cap, e1, e2, e3⟩ := hr.1 _ _ hat
  have hA : cs ≠ [] → ∃ ad, A = some ad := by
    intro hc
    rcases ho.2 with ⟨e, rfl⟩ | ⟨g, cap, cur, e, -⟩
    · have h0 : xs = [] := List.eq_nil_of_length_eq_zero (by simpa using ho.1)
      have := hrs.length
      rw [h0] at this
      exact absurd (List.eq_nil_of_length_eq_zero this) hc
    · rw [e] at e1; cases e1; exact ⟨_, rfl⟩
  by_cases h0 : off = 0
  · obtain ⟨e4, e5⟩ := e2 h0
    exact ⟨u, A, m', cap, A, cap, hat, e1, e4, e5, fun _ => ⟨rfl, rfl⟩, fun h => absurd h0 h, hA⟩
  · obtain ⟨A', c, e4, e5, e6⟩ := e3 h0
    exact ⟨u, A, m', cap, A', c, hat, e1, e4, e5, fun h => absurd h h0, fun _ => e6, hA⟩
theorem gives_indexV (I : Inv w Sh Fs V σ) (hA : VA a V) {t : TypeId} {x ix : Operand} {e sz : Nat} {k : IntKind} {i : Int} {r off n m e' sz' : Nat} {p : List Nat} {cs : List AV} (ho : o.op = .indexAddr t x ix) (ht : P.underlying t = some (.slice e)) (hs : szT P e = some sz) (hi : a.eval ix = .int k i)
    (hx : ov σ x = .vw r p off n) (hn : getN p (σ r) = some (.ow e' sz' m cs)) (hlen : off + n * sz ≤ cs.length) (hz : 0 < sz) (h0 : 0 ≤ i) (h1 : i < n) : Gives P w Sh V σ (execOp a.eval o) (.ad r p (off + i.toNat * sz)) := by
  have hr := I.ov hA x
  rw [hx] at hr
  obtain ⟨h, A, m', cap, A', cap', hat, e1, e2, e3, e4, e5, e6⟩ := I.view hr hn
  have hn0 : n ≠ 0 := by omega
  have hcs : cs ≠ [] := by
    intro hc; rw [hc] at hlen
    have : 0 < n * sz := Nat.mul_pos (by omega) hz
    simp at hlen; omega
  obtain ⟨ad, rfl⟩ := e6 hcs
  have hA' : A' = some (ad.add off) := by
    by_cases h : off = 0
    · subst h; rw [(e4 rfl).1, add_zero']
    · rw [e5 h hn0]; rfl
  subst hA'
  refine Gives.same (v := .pointer (some (ad.add (off + i.toNat * sz)))) ?_ ?_
  · simp only [execOp, ho, Instr.indexAt, e2, hi, asIntOf, Sem.run_bind, run_underlying ht, Result.andThen_ok, run_sizeOf hs, Sem.run_pure, Sem.run_ite, if_pos (And.intro h0 h1), add_add]
  · simp only [Rep]
    refine ⟨fun h' y hy => ?_, rfl⟩
    obtain ⟨rfl, -⟩ := hy.det hat
    exact ⟨ad, rfl, .inr ⟨m', cap, e1⟩⟩
theorem gives_indexI (I : Inv w Sh Fs V σ) (hA : VA a V) {t : TypeId} {x ix : Operand} {e sz : Nat} {k : IntKind} {i : Int} {n : Nat} {cs : List AV} (ho : o.op = .indexAddr t x ix) (ht : P.underlying t = some (.slice e)) (hs : szT P e = some sz) (hi : a.eval ix = .int k i)
    (hx : ov σ x = .im n cs) (h0 : 0 ≤ i) (h1 : i < n) (hlen : i.toNat * sz < cs.length) : Gives P w Sh V σ (execOp a.eval o) (.ip (cs.drop (i.toNat * sz))) := by
  have hr := I.ov hA x
  rw [hx] at hr
  simp only [Rep] at hr
  obtain ⟨A, cap, xs, e1, e2, e3, e4, hrs⟩ := hr
  have hxl := hrs.length
  obtain ⟨ad, rfl, hcell⟩ := e3 (by intro h; rw [h] at hxl; simp at hxl; rw [hxl] at hlen; simp at hlen)
  refine Gives.same (v := .pointer (some (ad.add (i.toNat * sz)))) ?_ ?_
  · simp only [execOp, ho, Instr.indexAt, e1, hi, asIntOf, Sem.run_bind, run_underlying ht, Result.andThen_ok, run_sizeOf hs, Sem.run_pure, Sem.run_ite, if_pos (And.intro h0 h1)]
  · simp only [Rep]
    refine ⟨_, xs.drop (i.toNat * sz), rfl, fun j u hj => ?_, fun u hu => e4 u (List.mem_of_mem_drop hu), hrs.drop _⟩
    rw [List.getElem?_drop] at hj
    rw [add_add, add_block, add_off, Nat.add_assoc]
    exact hcell _ _ hj

/-! Slices. -/
/-- A bound: what is not written is the one given. -/
def bnd (σ : Nat → AV) (d : Nat) : Option Operand → Option Int
  | none => some d
  | some x => match ov σ x with | .sc (.int _ i) => some i | _ => none
theorem ov_int (I : Inv w Sh Fs V σ) (hA : VA a V) {x : Operand} {v : Value} (h : ov σ x = .sc v) : a.eval x = v := by
  have := I.ov hA x
  rw [h] at this
  simp only [Rep] at this
  exact this.1
theorem run_bounds (I : Inv w Sh Fs V σ) (hA : VA a V) {lo hi : Option Operand} {n cap : Nat} {l h : Int} (hl : bnd σ 0 lo = some l) (hh : bnd σ n hi = some h) (b : Bool) (h0 : 0 ≤ l) (h1 : l ≤ h) (h2 : h ≤ cap) :
    (Instr.sliceBounds b n cap (lo.map a.eval) (hi.map a.eval) none).run P w = .ok (l.toNat, h.toNat, cap) w := by
  have key : ∀ (x : Operand) (i : Int) (y : Nat) (c : BoundsCode), (match ov σ x with | .sc (.int _ i) => some i | _ => none) = some i → 0 ≤ i → i ≤ y → (Instr.sliceBound (a.eval x) y c).run P w = .ok i.toNat w := by
    intro x i y c he g0 g1
    split at he
    · rename_i kk ii hov
      cases he
      rw [ov_int I hA hov]
      simp only [Instr.sliceBound, asIntOf, Sem.run_bind, Sem.run_pure, Result.andThen_ok, Sem.run_ite, if_pos (And.intro g0 g1)]
    · cases he
  cases lo with
  | none =>
    simp only [bnd, Option.some.injEq] at hl
    subst hl
    cases hi with
    | none =>
      simp only [bnd, Option.some.injEq] at hh
      subst hh
      simp [Instr.sliceBounds]
    | some y =>
      have e := key y h cap (if b = true then .sliceAcap else .sliceAlen) hh (by omega) h2
      simp only [Instr.sliceBounds, Option.map_none, Option.map_some, Sem.run_bind, Sem.run_pure, Result.andThen_ok, e]
      rfl
  | some x =>
    cases hi with
    | none =>
      simp only [bnd, Option.some.injEq] at hh
      subst hh
      have e := key x l n .sliceB hl h0 h1
      simp only [Instr.sliceBounds, Option.map_none, Option.map_some, Sem.run_bind, Sem.run_pure, Result.andThen_ok, Option.isSome_none, Bool.false_eq_true, if_false, e]
      rfl
    | some y =>
      have e1 := key y h cap (if b = true then .sliceAcap else .sliceAlen) hh (by omega) h2
      have e2 := key x l h.toNat .sliceB hl h0 (by omega)
      simp only [Instr.sliceBounds, Option.map_none, Option.map_some, Sem.run_bind, Sem.run_pure, Result.andThen_ok, Option.isSome_none, Bool.false_eq_true, if_false, e1, e2]
theorem gives_sliceV (I : Inv w Sh Fs V σ) (hA : VA a V) {t : TypeId} {x : Operand} {lo hi : Option Operand} {e sz : Nat} {l h : Int} {r off n m e' sz' : Nat} {p : List Nat} {cs : List AV} (ho : o.op = .slice t x lo hi none) (ht : P.underlying t = some (.slice e)) (hs : szT P e = some sz) (hz : 0 < sz)
    (hx : ov σ x = .vw r p off n) (hn : getN p (σ r) = some (.ow e' sz' m cs)) (hl : bnd σ 0 lo = some l) (hh : bnd σ n hi = some h) (h0 : 0 ≤ l) (h1 : l ≤ h) (h2 : h ≤ n) : Gives P w Sh V σ (execOp a.eval o) (.vw r p (off + l.toNat * sz) (h.toNat - l.toNat)) := by
  have hr := I.ov hA x
  rw [hx] at hr
  obtain ⟨hd, A, m', cap, A', cap', hat, e1, e2, e3, e4, e5, e6⟩ := I.view hr hn
  refine Gives.same (v := .slice (if cap' = l.toNat then A' else A'.map (·.add (l.toNat * sz))) (h.toNat - l.toNat) (cap' - l.toNat)) ?_ ?_
  · simp only [execOp, ho, Instr.sliceAt, Instr.slice, e2, Option.map_none, Sem.run_bind, run_underlying ht, Result.andThen_ok, run_sizeOf hs, Sem.run_pure, run_bounds (P := P) (w := w) I hA hl hh true h0 h1 (show h ≤ cap' by omega)]
  · simp only [Rep]
    refine ⟨fun h' y hy => ?_, by simp [Value.oneCell']⟩
    obtain ⟨rfl, -⟩ := hy.det hat
    refine ⟨A, m', cap, e1, fun hoff => ?_, fun hoff => ?_⟩
    · have h3 : off = 0 := by omega
      have h4 : l.toNat = 0 := by
        rcases Nat.eq_zero_or_pos l.toNat with g | g
        · exact g
        · have := Nat.mul_pos g hz; omega
      obtain ⟨e7, e8⟩ := e4 h3
      subst e7; subst e8
      rw [h4]
      refine ⟨?_, by omega⟩
      have hm : A'.map (fun x => x.add (0 * sz)) = A' := by
        cases A' <;> simp [Addr.add]
      simp only [Nat.sub_zero, hm]
      split <;> rfl
    · refine ⟨_, _, rfl, by omega, fun hne => ?_⟩
      rw [if_neg (by omega)]
      by_cases h3 : off = 0
      · subst h3
        rw [(e4 rfl).1, Nat.zero_add]
      · rw [e5 h3 (by omega)]
        cases A <;> simp [add_add]
theorem gives_sliceI (I : Inv w Sh Fs V σ) (hA : VA a V) {t : TypeId} {x : Operand} {lo hi : Option Operand} {e sz : Nat} {l h : Int} {n : Nat} {cs : List AV} (ho : o.op = .slice t x lo hi none) (ht : P.underlying t = some (.slice e)) (hs : szT P e = some sz) (hz : 0 < sz)
    (hx : ov σ x = .im n cs) (hl : bnd σ 0 lo = some l) (hh : bnd σ n hi = some h) (h0 : 0 ≤ l) (h1 : l ≤ h) (h2 : h ≤ n) : Gives P w Sh V σ (execOp a.eval o) (.im (h.toNat - l.toNat) ((cs.drop (l.toNat * sz)).take ((h.toNat - l.toNat) * sz))) := by
  have hr := I.ov hA x
  rw [hx] at hr
  simp only [Rep] at hr
  obtain ⟨A, cap, xs, e1, e2, e3, e4, hrs⟩ := hr
  refine Gives.same (v := .slice (if cap = l.toNat then A else A.map (·.add (l.toNat * sz))) (h.toNat - l.toNat) (cap - l.toNat)) ?_ ?_
  · simp only [execOp, ho, Instr.sliceAt, Instr.slice, e1, Option.map_none, Sem.run_bind, run_underlying ht, Result.andThen_ok, run_sizeOf hs, Sem.run_pure, run_bounds (P := P) (w := w) I hA hl hh true h0 h1 (show h ≤ cap by omega)]
  · simp only [Rep]
    refine ⟨_, _, (xs.drop (l.toNat * sz)).take ((h.toNat - l.toNat) * sz), rfl, by omega, fun hne => ?_, fun u hu => e4 u (List.mem_of_mem_drop (List.mem_of_mem_take hu)), (hrs.drop _).take _⟩
    have hx0 : xs ≠ [] := by rintro rfl; simp at hne
    have hl0 : h.toNat - l.toNat ≠ 0 := by intro h; rw [h] at hne; simp at hne
    obtain ⟨ad, rfl, hcell⟩ := e3 hx0
    refine ⟨ad.add (l.toNat * sz), by rw [if_neg (by omega)]; rfl, fun j u hj => ?_⟩
    rw [List.getElem?_take] at hj
    split at hj
    · rw [List.getElem?_drop] at hj
      rw [add_add, add_block, add_off, Nat.add_assoc]
      exact hcell _ _ hj
    · cases hj
theorem gives_sliceN (I : Inv w Sh Fs V σ) (hA : VA a V) {t : TypeId} {x : Operand} {lo hi : Option Operand} {e sz : Nat} (ho : o.op = .slice t x lo hi none) (ht : P.underlying t = some (.slice e)) (hs : szT P e = some sz)
    (hx : ov σ x = .nl) (hl : bnd σ 0 lo = some 0) (hh : bnd σ 0 hi = some 0) : Gives P w Sh V σ (execOp a.eval o) .nl := by
  have hr := I.ov hA x
  rw [hx] at hr
  simp only [Rep] at hr
  refine Gives.same (v := .slice none 0 0) ?_ (by simp only [Rep])
  simp only [execOp, ho, Instr.sliceAt, Instr.slice, hr, Option.map_none, Sem.run_bind, run_underlying ht, Result.andThen_ok, run_sizeOf hs, Sem.run_pure, run_bounds (P := P) (w := w) I hA hl hh true (Int.le_refl 0) (Int.le_refl 0) (show (0 : Int) ≤ (0 : Nat) by omega)]
  rfl
end
end Go.Eng
/- The engine, part F: more quiet operations: lengths, plain values, variables and slices that are made, structs and their fields; and all of them told as one relation. -/
namespace Go.Eng
open Go
set_option linter.unusedVariables false
set_option linter.unusedSimpArgs false
section
variable {P : Program} {w w' : World} {Sh Sh' : Foot} {Fs : Nat → Foot} {V : Nat → Value} {σ : Nat → AV} {K : Value → AV → Prop}
variable {a : Act} {o : Oper}

theorem rep_int {n : Int} {k : IntKind} : Rep w Sh K (.sc (.int k n)) noF (.int k n) := by simp [Rep, Value.oneCell']
theorem run_lenOp {t : TypeId} {x : Operand} {e : TypeId} {A : Option Addr} {n cap : Nat} (ho : o.op = .call { callee := .builtin .len, args := #[x], argTypes := #[t] }) (ht : P.underlying t = some (.slice e)) (hx : a.eval x = .slice A n cap) : (execOp a.eval o).run P w = .ok (.value (.int .i64 n)) w := by
  simp [execOp, ho, resolve, invoke, builtin, Builtin.len_, run_underlying ht, hx, goInt]
theorem gives_lenV (I : Inv w Sh Fs V σ) (hA : VA a V) {t : TypeId} {x : Operand} {e : TypeId} {r off n e' sz' m : Nat} {p : List Nat} {cs : List AV} (ho : o.op = .call { callee := .builtin .len, args := #[x], argTypes := #[t] }) (ht : P.underlying t = some (.slice e))
    (hx : ov σ x = .vw r p off n) (hn : getN p (σ r) = some (.ow e' sz' m cs)) : Gives P w Sh V σ (execOp a.eval o) (.sc (.int .i64 n)) := by
  have hr := I.ov hA x
  rw [hx] at hr
  obtain ⟨hd, A, m', cap, A', cap', hat, e1, e2, -⟩ := I.view hr hn
  exact Gives.same (run_lenOp ho ht e2) rep_int
theorem gives_lenI (I : Inv w Sh Fs V σ) (hA : VA a V) {t : TypeId} {x : Operand} {e : TypeId} {n : Nat} {cs : List AV} (ho : o.op = .call { callee := .builtin .len, args := #[x], argTypes := #[t] }) (ht : P.underlying t = some (.slice e))
    (hx : ov σ x = .im n cs) : Gives P w Sh V σ (execOp a.eval o) (.sc (.int .i64 n)) := by
  have hr := I.ov hA x
  rw [hx] at hr
  simp only [Rep] at hr
  obtain ⟨A, cap, xs, e1, -⟩ := hr
  exact Gives.same (run_lenOp ho ht e1) rep_int
theorem gives_lenN (I : Inv w Sh Fs V σ) (hA : VA a V) {t : TypeId} {x : Operand} {e : TypeId} (ho : o.op = .call { callee := .builtin .len, args := #[x], argTypes := #[t] }) (ht : P.underlying t = some (.slice e))
    (hx : ov σ x = .nl) : Gives P w Sh V σ (execOp a.eval o) (.sc (.int .i64 0)) := by
  have hr := I.ov hA x
  rw [hx] at hr
  simp only [Rep] at hr
  exact Gives.same (run_lenOp ho ht hr) rep_int

/-- What an abstract value is, where it is plain. -/
def toVs : List AV → Option (List Value)
  | [] => some []
  | .sc v :: cs => (toVs cs).map (v :: ·)
  | .nl :: cs => (toVs cs).map (.slice none 0 0 :: ·)
  | _ => none
def toV : AV → Option Value
  | .sc v => some v
  | .nl => some (.slice none 0 0)
  | .ag cs => (toVs cs).map fun l => .agg l.toArray
  | _ => none
theorem Reps.toVs : ∀ {cs : List AV} {F : Foot} {xs ys : List Value}, Reps w Sh K cs F xs → toVs cs = some ys → xs = ys
  | [], F, xs, ys, h, e => by simp only [Reps] at h; simp only [Eng.toVs, Option.some.injEq] at e; rw [h, ← e]
  | c :: cs, F, xs, ys, h, e => by
    simp only [Reps] at h
    obtain ⟨x, xs', F1, F2, rfl, h1, h2, -⟩ := h
    cases c <;> simp only [Eng.toVs, reduceCtorEq, Option.map_eq_some_iff] at e
    · obtain ⟨zs, e1, rfl⟩ := e
      simp only [Rep] at h1
      rw [h1.1, Reps.toVs h2 e1]
    · obtain ⟨zs, e1, rfl⟩ := e
      simp only [Rep] at h1
      rw [h1, Reps.toVs h2 e1]
theorem Rep.toV {av : AV} {F : Foot} {v u : Value} (h : Rep w Sh K av F v) (e : toV av = some u) : v = u := by
  cases av <;> simp only [Eng.toV, reduceCtorEq, Option.some.injEq, Option.map_eq_some_iff] at e
  · subst e; simp only [Rep] at h; exact h.1
  · subst e; simp only [Rep] at h; exact h
  · obtain ⟨l, e1, rfl⟩ := e
    simp only [Rep] at h
    obtain ⟨xs, rfl, -, hr⟩ := h
    have := hr.toVs e1
    rw [← this]
theorem gives_pure (I : Inv w Sh Fs V σ) (hA : VA a V) {c : Value} (h : ∀ (ρ : Operand → Value) (w : World), (∀ x v, toV (ov σ x) = some v → ρ x = v) → (execOp ρ o).run P w = .ok (.value c) w) : Gives P w Sh V σ (execOp a.eval o) (cAV c) :=
  Gives.same (h a.eval w (fun x v hv => (I.ov hA x).toV hv)) (Rep.cAV c)

theorem heap_new (w : World) (o : Obj) : (w.alloc o).heap[w.heap.size]? = some o := by
  show (w.heap.push o)[w.heap.size]? = some o
  simp
theorem size_alloc (w : World) (o : Obj) : (w.alloc o).heap.size = w.heap.size + 1 := by
  show (w.heap.push o).size = _
  simp
/-- A new variable. -/
theorem rep_var {e : TypeId} {xs : List Value} {cs : List AV} {G : Foot} (h1 : ∀ u ∈ xs, u.oneCell' = true) (hr : Reps w Sh KF cs G xs) (hG : ∀ b o, G b o → b < w.heap.size) (hsb : ∀ b o, Sh b o → b < w.heap.size) :
    Rep (w.alloc (.cells xs.toArray e)) Sh K (.op cs) (Or (fun b _ => b = w.heap.size) G) (.pointer (some ⟨w.heap.size, 0, none⟩)) := by
  simp only [Rep]
  refine ⟨_, xs, G, rfl, fun j u hj => ⟨?_, ?_, .inl rfl, fun g => ?_⟩, h1, Le.right _ _, Reps.frame (Keeps.alloc w _) (Disj.no _) (Le.refl _) cs (fun _ _ h => h) (Disj.no' _) (Le.refl _) hr⟩
  · refine cell?_of (arr := xs.toArray) (t := e) (fr := (0, 0)) (by rw [add_block]; exact heap_new _ _) (by unfold Addr.add; split <;> rfl) ?_
    rw [add_off]; simpa using hj
  · unfold World.frozen?
    rw [add_block]
    simp only [heap_new]
    simp
  · exact absurd (hG _ _ g) (Nat.lt_irrefl _)
theorem gives_alloc (I : Inv w Sh Fs V σ) (hA : VA a V) {e : TypeId} {z : Value} (ho : o.op = .alloc e) (hz : zeroT P e = some z) (h1 : z.cells.toList.all (·.oneCell') = true) : Gives P w Sh V σ (execOp a.eval o) (.op (z.cells.toList.map c1)) := by
  refine ⟨.pointer (some ⟨w.heap.size, 0, none⟩), w.alloc (.cells z.cells e), Or (fun b _ => b = w.heap.size) noF, ?_, Keeps.alloc w _, ?_, ?_⟩
  · simp [execOp, ho, Instr.alloc, run_zeroValue hz, newVar, newRow]
  · have := rep_var (w := w) (Sh := Sh) (K := KS w V σ) (e := e) (xs := z.cells.toList) (cs := z.cells.toList.map c1) (G := noF) (fun u hu => List.all_eq_true.1 h1 u hu) (Reps.c1 _) (fun _ _ f => f.elim) I.sbd
    simpa using this
  · intro b o f
    rcases f with f | f
    · subst f; exact ⟨Nat.le_refl _, by rw [size_alloc]; omega⟩
    · exact f.elim
/-- A new row. -/
theorem rep_row {e sz n cap : Nat} {xs ys : List Value} {cs : List AV} {G : Foot} (hn : xs.length = n * sz) (hc : (xs ++ ys).length = cap * sz) (hnc : n ≤ cap) (hcm : cap ≤ maxLen) (hz : 0 < sz) (h1 : ∀ u ∈ xs, u.oneCell' = true) (hr : Reps w Sh KF cs G xs) (hG : ∀ b o, G b o → b < w.heap.size) :
    Rep (w.alloc (.cells (xs ++ ys).toArray e)) Sh K (.ow e sz n cs) (Or (fun b _ => b = w.heap.size) G) (.slice (some ⟨w.heap.size, 0, none⟩) n cap) := by
  simp only [Rep]
  refine ⟨xs, G, ⟨hn, .inr ⟨w.heap.size, cap, _, rfl, Nat.zero_le _, heap_new _ _, hnc, hcm, by simpa using hc, ?_⟩⟩, hz, fun g hg => ?_, h1, Le.right _ _, Reps.frame (Keeps.alloc w _) (Disj.no _) (Le.refl _) cs (fun _ _ h => h) (Disj.no' _) (Le.refl _) hr⟩
  · simp [← hn]
  · simp only [Value.ownBlock, Option.some.injEq] at hg
    subst hg
    exact ⟨fun o => .inl rfl, fun o f => absurd (hG _ _ f) (Nat.lt_irrefl _)⟩
theorem gives_makeSlice (I : Inv w Sh Fs V σ) (hA : VA a V) {t e sz by_ : Nat} {l c : Operand} {k k' : IntKind} {n : Nat} {z : Value} (ho : o.op = .makeSlice t l c) (ht : P.underlying t = some (.slice e)) (hs : szT P e = some sz) (hb : bytesT P e = some by_) (hz : zeroT P e = some z) (hzs : z.cells.size = sz) (h0 : 0 < sz)
    (hl : a.eval l = .int k n) (hc : a.eval c = .int k' n) (h63 : n ≤ maxLen) (hby : n * by_ ≤ 140737488355328) (h1 : z.cells.toList.all (·.oneCell') = true) :
    Gives P w Sh V σ (execOp a.eval o) (.ow e sz n ((madeCells z.cells (n * sz)).toList.map c1)) := by
  unfold bytesT at hb
  unfold szT at hs
  unfold zeroT at hz
  rw [Option.map_eq_some_iff] at hb hs
  rw [Option.bind_eq_some_iff] at hz
  obtain ⟨inf, hinf, hb⟩ := hb
  obtain ⟨inf', hinf', hs⟩ := hs
  obtain ⟨inf'', hinf'', hz⟩ := hz
  rw [hinf] at hinf' hinf''
  cases hinf'; cases hinf''
  have hone : ∀ u ∈ (madeCells z.cells (n * sz)).toList, u.oneCell' = true := by
    intro u hu
    simp only [madeCells, Array.toList_map, List.mem_map] at hu
    obtain ⟨i, -, rfl⟩ := hu
    have hlt : i % z.cells.size < z.cells.size := Nat.mod_lt _ (by omega)
    rw [getElem!_pos z.cells (i % z.cells.size) hlt]
    exact List.all_eq_true.1 h1 _ (Array.mem_toList_iff.2 (Array.getElem_mem _))
  have hr := run_make (P := P) w t e inf z ht hinf hz k k' (n : Int) (n : Int) (by omega) (Int.le_refl _) (by
    rw [hb, Int.mul_comm, ← Int.natCast_mul]
    omega) (by simp only [maxLen] at h63; omega)
  rw [hs, Int.toNat_natCast] at hr
  refine ⟨.slice (some ⟨w.heap.size, 0, none⟩) n n, w.alloc (.cells (madeCells z.cells (n * sz)) e), Or (fun b _ => b = w.heap.size) noF, ?_, Keeps.alloc w _, ?_, ?_⟩
  · unfold execOp
    rw [ho]
    show (do let v ← Instr.makeSlice t (a.eval l) (a.eval c); pure (Next.value v) : Sem Next).run P w = _
    rw [hl, hc, Sem.run_bind, hr]
    rfl
  · have := rep_row (w := w) (Sh := Sh) (K := KS w V σ) (e := e) (sz := sz) (n := n) (cap := n) (xs := (madeCells z.cells (n * sz)).toList) (ys := []) (cs := (madeCells z.cells (n * sz)).toList.map c1) (G := noF) (by simp [size_madeCells]) (by simp [size_madeCells]) (Nat.le_refl _) h63 h0 hone (Reps.c1 _) (fun _ _ f => f.elim)
    simpa using this
  · intro b o f
    rcases f with f | f
    · subst f; exact ⟨Nat.le_refl _, by rw [size_alloc]; omega⟩
    · exact f.elim

/-! Structs, and several results. -/
theorem gives_extract (I : Inv w Sh Fs V σ) (hA : VA a V) {x : Operand} {i : Nat} {cs : List AV} {c : AV} (ho : o.op = .extract x i) (hx : ov σ x = .tu cs) (hc : cs[i]? = some c) : Gives P w Sh V σ (execOp a.eval o) c := by
  have hr := I.ov hA x
  rw [hx] at hr
  simp only [Rep] at hr
  obtain ⟨xs, e1, hrs⟩ := hr
  obtain ⟨y, Fj, g1, g2, g3⟩ := hrs.get hc
  refine Gives.same (v := y) ?_ (Rep.wider (Le.refl _) (fun _ _ h => h) g3 g2)
  have g1' : xs[i]? = some y := by simpa using g1
  simp [execOp, ho, Instr.extract, e1, g1']
theorem gives_field1 (I : Inv w Sh Fs V σ) (hA : VA a V) {t : TypeId} {x : Operand} {i : Nat} {cs : List AV} {c : AV} {fs : Array Field} {fd : Field} (ho : o.op = .field t x i) (ht : P.underlying t = some (.struct fs)) (hf : fs[i]? = some fd) (hg : aggT P fd.type = some false)
    (hx : ov σ x = .ag cs) (hc : cs[fd.offset]? = some c) : Gives P w Sh V σ (execOp a.eval o) c := by
  have hr := I.ov hA x
  rw [hx] at hr
  simp only [Rep] at hr
  obtain ⟨xs, e1, -, hrs⟩ := hr
  obtain ⟨y, Fj, g1, g2, g3⟩ := hrs.get hc
  refine Gives.same (v := y) ?_ (Rep.wider (Le.refl _) (fun _ _ h => h) g3 g2)
  have g1' : xs[fd.offset]? = some y := by simpa using g1
  simp only [execOp, ho, Instr.field, Sem.run_bind, run_underlying ht, Result.andThen_ok, hf, e1, asAgg, Sem.run_pure, part, run_isAgg hg, Bool.false_eq_true, if_false, g1']
theorem gives_fieldA (I : Inv w Sh Fs V σ) (hA : VA a V) {t : TypeId} {x : Operand} {i s : Nat} {cs : List AV} {fs : Array Field} {fd : Field} (ho : o.op = .field t x i) (ht : P.underlying t = some (.struct fs)) (hf : fs[i]? = some fd) (hg : aggT P fd.type = some true) (hs : szT P fd.type = some s)
    (hx : ov σ x = .ag cs) : Gives P w Sh V σ (execOp a.eval o) (.ag ((cs.drop fd.offset).take s)) := by
  have hr := I.ov hA x
  rw [hx] at hr
  simp only [Rep] at hr
  obtain ⟨xs, e1, h1, hrs⟩ := hr
  have he : (xs.extract fd.offset (fd.offset + s)).toList = (xs.toList.drop fd.offset).take s := by simp
  refine Gives.same (v := .agg (xs.extract fd.offset (fd.offset + s))) ?_ ?_
  · simp only [execOp, ho, Instr.field, Sem.run_bind, run_underlying ht, Result.andThen_ok, hf, e1, asAgg, Sem.run_pure, part, run_isAgg hg, if_true, run_sizeOf hs]
  · simp only [Rep]
    refine ⟨_, rfl, fun u hu => ?_, ?_⟩
    · rw [he] at hu
      exact h1 u (List.mem_of_mem_drop (List.mem_of_mem_take hu))
    · rw [he]; exact (hrs.drop _).take _
theorem gives_index1 (I : Inv w Sh Fs V σ) (hA : VA a V) {t : TypeId} {x ix : Operand} {len n : Nat} {e : TypeId} {k : IntKind} {i : Int} {cs : List AV} {c : AV} (ho : o.op = .index t x ix) (ht : P.underlying t = some (.array len e)) (hg : aggT P e = some false) (hn : szT P e = some n) (hi : a.eval ix = .int k i) (h0 : 0 ≤ i) (h1 : i < len)
    (hx : ov σ x = .ag cs) (hc : cs[i.toNat * n]? = some c) : Gives P w Sh V σ (execOp a.eval o) c := by
  have hr := I.ov hA x
  rw [hx] at hr
  simp only [Rep] at hr
  obtain ⟨xs, e1, -, hrs⟩ := hr
  obtain ⟨y, Fj, g1, g2, g3⟩ := hrs.get hc
  refine Gives.same (v := y) ?_ (Rep.wider (Le.refl _) (fun _ _ h => h) g3 g2)
  have g1' : xs[i.toNat * n]? = some y := by simpa using g1
  simp only [execOp, ho, Instr.index, hi, asIntOf, Sem.run_bind, run_underlying ht, Result.andThen_ok, e1, Sem.run_pure, part, run_isAgg hg, Bool.false_eq_true, if_false, g1', run_sizeOf hn, Sem.run_ite, if_pos (And.intro h0 h1)]
end
end Go.Eng
/- The engine, part G: structs and slices that are put together; the quiet operations as one relation. -/
namespace Go.Eng
open Go
set_option linter.unusedVariables false
set_option linter.unusedSimpArgs false
section
variable {P : Program} {w w' : World} {Sh Sh' : Foot} {Fs : Nat → Foot} {V : Nat → Value} {σ : Nat → AV} {K : Value → AV → Prop}
variable {a : Act} {o : Oper}

theorem Reps.append : ∀ {cs ds : List AV} {F G : Foot} {xs ys : List Value}, Reps w Sh K cs F xs → Reps w Sh K ds G ys → Disj F G → Reps w Sh K (cs ++ ds) (Or F G) (xs ++ ys)
  | [], ds, F, G, xs, ys, h, k, d => by
    simp only [Reps] at h; subst h
    exact Reps.wider (Le.refl _) (fun _ _ h => h) (Le.right _ _) k
  | c :: cs, ds, F, G, xs, ys, h, k, d => by
    simp only [Reps] at h
    obtain ⟨x, xs', F1, F2, rfl, h1, h2, hd, l1, l2⟩ := h
    simp only [List.cons_append, Reps]
    exact ⟨x, xs' ++ ys, F1, Or F2 G, rfl, h1, h2.append k (d.le l2 (Le.refl _)), Disj.or hd (d.le l1 (Le.refl _)), l1.trans (Le.left _ _), Le.or (l2.trans (Le.left _ _)) (Le.right _ _)⟩
theorem Reps.split : ∀ (k : Nat) {cs : List AV} {F : Foot} {xs : List Value}, Reps w Sh K cs F xs → ∃ F1 F2, Reps w Sh K (cs.take k) F1 (xs.take k) ∧ Reps w Sh K (cs.drop k) F2 (xs.drop k) ∧ Disj F1 F2 ∧ Le F1 F ∧ Le F2 F
  | 0, cs, F, xs, h => ⟨noF, F, by simp [Reps], by simpa using h, Disj.no' _, Le.no _, Le.refl _⟩
  | k + 1, [], F, xs, h => by simp only [Reps] at h; subst h; exact ⟨noF, noF, by simp [Reps], by simp [Reps], Disj.no _, Le.no _, Le.no _⟩
  | k + 1, c :: cs, F, xs, h => by
    simp only [Reps] at h
    obtain ⟨x, xs', F1, F2, rfl, h1, h2, hd, l1, l2⟩ := h
    obtain ⟨G1, G2, g1, g2, g3, g4, g5⟩ := h2.split k
    refine ⟨Or F1 G1, G2, ?_, by simpa using g2, Disj.or' (hd.le (Le.refl _) g5) g3, Le.or l1 (g4.trans l2), g5.trans l2⟩
    simp only [List.take_succ_cons, Reps]
    exact ⟨x, _, F1, G1, rfl, h1, g1, hd.le (Le.refl _) g4, Le.left _ _, Le.right _ _⟩
def splice {α : Type} (cs : List α) (off : Nat) (vs : List α) : List α := cs.take off ++ (vs ++ cs.drop (off + vs.length))
theorem Reps.splice {cs vs : List AV} {F G : Foot} {xs ys : List Value} (h : Reps w Sh K cs F xs) (k : Reps w Sh K vs G ys) (d : Disj F G) (off : Nat) : Reps w Sh K (splice cs off vs) (Or F G) (splice xs off ys) := by
  obtain ⟨F1, F2, h1, h2, h3, h4, h5⟩ := h.split off
  obtain ⟨F3, F4, k1, k2, k3, k4, k5⟩ := h2.split vs.length
  have e : (xs.drop off).drop vs.length = xs.drop (off + ys.length) := by rw [List.drop_drop, k.length]
  have e' : (cs.drop off).drop vs.length = cs.drop (off + vs.length) := by rw [List.drop_drop]
  rw [e, e'] at k2
  unfold Eng.splice
  refine Reps.wider (Le.refl _) (fun _ _ h => h) ?_ (h1.append (k.append k2 ((d.symm).le (Le.refl _) (k5.trans h5))) (Disj.or (d.le h4 (Le.refl _)) (h3.le (Le.refl _) k5)))
  exact Le.or (h4.trans (Le.left _ _)) (Le.or (Le.right _ _) ((k5.trans h5).trans (Le.left _ _)))
theorem length_splice {α : Type} {cs vs : List α} {off : Nat} (h : off + vs.length ≤ cs.length) : (splice cs off vs).length = cs.length := by
  simp [splice]; omega
theorem fill_cells (off : Nat) : ∀ (vs : List Value) (k : Nat) (cells : Array Value), off + k + vs.length ≤ cells.size → ((vs.zipIdx k).foldl (fun (cs : Array Value) (x : Value × Nat) => cs.setIfInBounds (off + x.2) x.1) cells).toList = splice cells.toList (off + k) vs
  | [], k, cells, h => by simp [splice]
  | v :: vs, k, cells, h => by
    simp only [List.length_cons] at h
    simp only [List.zipIdx_cons, List.foldl_cons]
    rw [fill_cells off vs (k + 1) _ (by simp; omega)]
    simp only [splice, Array.toList_setIfInBounds, List.length_cons]
    have hl : off + k < cells.toList.length := by simp; omega
    rw [show off + (k + 1) = off + k + 1 by omega, List.take_set, List.drop_set_of_lt (by omega)]
    rw [List.take_add_one, List.getElem?_eq_getElem hl, List.set_append_right _ _ (by simp; omega)]
    simp only [List.length_take, Nat.min_eq_left (Nat.le_of_lt hl), Nat.sub_self, Option.toList_some, List.set_cons_zero, List.append_assoc, List.cons_append, List.nil_append]
    rw [show off + k + 1 + vs.length = off + k + (vs.length + 1) by omega]

def acells : AV → Option (List AV)
  | .ag cs => some cs
  | .dead => none
  | .tu _ => none
  | a => some [a]
theorem Rep.acells {av : AV} {F : Foot} {v : Value} {vs : List AV} (h : Rep w Sh K av F v) (e : acells av = some vs) : Reps w Sh K vs F v.cells.toList ∧ ∀ u ∈ v.cells.toList, u.oneCell' = true := by
  have one : ∀ {v : Value}, v.oneCell' = true → Rep w Sh K av F v → Reps w Sh K [av] F v.cells.toList ∧ ∀ u ∈ v.cells.toList, u.oneCell' = true := by
    intro v hv h
    have hc : v.cells = #[v] := by cases v <;> first | rfl | simp [Value.oneCell'] at hv
    rw [hc]
    refine ⟨?_, fun u hu => by simp at hu; subst hu; exact hv⟩
    simp only [Reps]
    exact ⟨v, [], F, noF, rfl, h, rfl, Disj.no _, Le.refl _, Le.no _⟩
  cases av <;> simp only [Eng.acells, reduceCtorEq, Option.some.injEq] at e
  case ag cs =>
    subst e
    simp only [Rep] at h
    obtain ⟨xs, rfl, h1, hr⟩ := h
    exact ⟨hr, h1⟩
  case sc u => subst e; have h' := h; simp only [Rep] at h'; exact one h'.2 h
  case nl => subst e; have h' := h; simp only [Rep] at h'; subst h'; exact one rfl h
  case im n cs => subst e; have h' := h; simp only [Rep] at h'; obtain ⟨A, cap, xs, rfl, -⟩ := h'; exact one rfl h
  case ow e sz n cs =>
    subst e; have h' := h; simp only [Rep] at h'; obtain ⟨xs, G, ho, -⟩ := h'
    refine one ?_ h
    rcases ho.2 with ⟨rfl, rfl⟩ | ⟨g, cap, cur, rfl, -⟩ <;> rfl
  case ip cs => subst e; have h' := h; simp only [Rep] at h'; obtain ⟨ad, xs, rfl, -⟩ := h'; exact one rfl h
  case op cs => subst e; have h' := h; simp only [Rep] at h'; obtain ⟨ad, xs, G, rfl, -⟩ := h'; exact one rfl h
  case vw r p off n => subst e; have h' := h; simp only [Rep] at h'; exact one h'.2 h
  case ad r p i => subst e; have h' := h; simp only [Rep] at h'; exact one h'.2 h

def fillA (place : Nat → Option (Nat × Nat)) : List AV → List (Nat × AV) → Option (List AV)
  | cells, [] => some cells
  | cells, (i, v) :: rest => (place i).bind fun x => (acells v).bind fun vs => if vs.length = x.2 ∧ x.1 + vs.length ≤ cells.length then fillA place (splice cells x.1 vs) rest else none
theorem fillA_ok {place : Nat → Option (Nat × Nat)} : ∀ (parts : List (Nat × AV)) (vals : List (Nat × Value)) {cells : List AV} {F G : Foot} {xs : Array Value} {cs' : List AV}, parts.map (·.1) = vals.map (·.1) → Reps w Sh K (parts.map (·.2)) G (vals.map (·.2)) → Reps w Sh K cells F xs.toList → (∀ u ∈ xs.toList, u.oneCell' = true) → Disj F G → fillA place cells parts = some cs' →
    ∃ xs', Instr.fill place xs vals = some xs' ∧ Reps w Sh K cs' (Or F G) xs'.toList ∧ (∀ u ∈ xs'.toList, u.oneCell' = true) ∧ xs'.size = xs.size
  | [], vals, cells, F, G, xs, cs', hm, hp, hc, h1, hd, he => by
    cases vals with
    | nil =>
      simp only [fillA, Option.some.injEq] at he
      subst he
      exact ⟨xs, rfl, Reps.wider (Le.refl _) (fun _ _ h => h) (Le.left _ _) hc, h1, rfl⟩
    | cons _ _ => simp at hm
  | (i, v) :: rest, vals, cells, F, G, xs, cs', hm, hp, hc, h1, hd, he => by
    cases vals with
    | nil => simp at hm
    | cons y ys =>
      obtain ⟨i', u⟩ := y
      simp only [List.map_cons, List.cons.injEq] at hm
      obtain ⟨rfl, hm⟩ := hm
      simp only [List.map_cons, Reps] at hp
      obtain ⟨x, xs', F1, F2, e0, r1, r2, rd, l1, l2⟩ := hp
      simp only [List.cons.injEq] at e0
      obtain ⟨rfl, rfl⟩ := e0
      simp only [fillA, Option.bind_eq_some_iff] at he
      obtain ⟨⟨off, size⟩, hpl, vs, hvs, he⟩ := he
      split at he
      · rename_i hcond
        obtain ⟨c1, c2⟩ := hcond
        obtain ⟨q1, q2⟩ := r1.acells hvs
        have hlen : vs.length = u.cells.size := by rw [q1.length]; simp
        have hcl : cells.length = xs.size := by rw [hc.length]; simp
        let xs2 := u.cells.zipIdx.foldl (fun (cs : Array Value) (x : Value × Nat) => cs.setIfInBounds (off + x.2) x.1) xs
        have hxs2 : xs2.toList = splice xs.toList off u.cells.toList := by
          have := fill_cells off u.cells.toList 0 xs (by simp; omega)
          rw [Nat.add_zero] at this
          rw [← this]
          simp only [xs2]
          rw [← Array.foldl_toList, Array.toList_zipIdx]
        have hsz : xs2.size = xs.size := by
          have := congrArg List.length hxs2
          rw [length_splice (by simp; omega)] at this
          simpa using this
        obtain ⟨xs', f1, f2, f3, f4⟩ := fillA_ok rest ys (F := Or F F1) (G := F2) (xs := xs2) hm r2 (by rw [hxs2]; exact hc.splice q1 (hd.le (Le.refl _) l1) off) (fun z hz => by
          rw [hxs2] at hz
          simp only [splice, List.mem_append] at hz
          rcases hz with hz | hz | hz
          · exact h1 z (List.mem_of_mem_take hz)
          · exact q2 z hz
          · exact h1 z (List.mem_of_mem_drop hz)) (Disj.or' (hd.le (Le.refl _) l2) rd) he
        refine ⟨xs', ?_, Reps.wider (Le.refl _) (fun _ _ h => h) (Le.or (Le.or (Le.left _ _) (l1.trans (Le.right _ _))) (l2.trans (Le.right _ _))) f2, f3, f4.trans hsz⟩
        have hcond : (decide (u.cells.size ≠ size) || decide (off + u.cells.size > xs.size)) = false := by
          have a1 : u.cells.size = size := by omega
          have a2 : ¬ (off + u.cells.size > xs.size) := by omega
          simp [a1, a2]
          omega
        simp only [Instr.fill, hpl]
        rw [if_neg (by rw [hcond]; simp)]
        exact f1
      · cases he

/-- What a struct or an array is built of. -/
def builtA (P : Program) (t : TypeId) (parts : List (Nat × AV)) : Option (List AV) :=
  match P.info? t, P.underlying t with
  | some it, some (.array _ e) =>
    match it.zero, P.info? e with
    | some z, some ie => if z.cells.toList.all (·.oneCell') then fillA (fun i => some (i * ie.size, ie.size)) (z.cells.toList.map c1) parts else none
    | _, _ => none
  | some it, some (.struct fields) =>
    match it.zero, fields.toList.mapM (fun f => (P.info? f.type).map fun i => (f.offset, i.size)) with
    | some z, some places => if z.cells.toList.all (·.oneCell') then fillA (places.toArray[·]?) (z.cells.toList.map c1) parts else none
    | _, _ => none
  | _, _ => none
theorem builtA_ok {t : TypeId} {parts : List (Nat × AV)} {vals : List (Nat × Value)} {G : Foot} {cs : List AV} (hm : parts.map (·.1) = vals.map (·.1)) (hp : Reps w Sh K (parts.map (·.2)) G (vals.map (·.2))) (h : builtA P t parts = some cs) :
    ∃ xs, P.built t vals = some xs ∧ Reps w Sh K cs G xs.toList ∧ ∀ u ∈ xs.toList, u.oneCell' = true := by
  have fin : ∀ (place : Nat → Option (Nat × Nat)) (z : Value), z.cells.toList.all (·.oneCell') = true → fillA place (z.cells.toList.map c1) parts = some cs → ∃ xs, Instr.fill place z.cells vals = some xs ∧ Reps w Sh K cs G xs.toList ∧ ∀ u ∈ xs.toList, u.oneCell' = true := by
    intro place z hz hf
    obtain ⟨xs', f1, f2, f3, f4⟩ := fillA_ok parts vals (F := noF) hm hp (Reps.c1 _) (fun u hu => List.all_eq_true.1 hz u hu) (Disj.no' _) hf
    exact ⟨xs', f1, Reps.wider (Le.refl _) (fun _ _ h => h) (Le.or (Le.no _) (Le.refl _)) f2, f3⟩
  unfold builtA at h
  unfold Program.built
  cases hit : P.info? t with
  | none => simp [hit] at h
  | some it =>
    cases hu : P.underlying t with
    | none => simp [hit, hu] at h
    | some d =>
      cases hz : it.zero with
      | none => cases d <;> simp [hit, hu, hz] at h
      | some z =>
        cases d <;> try (simp [hit, hu] at h; done)
        case array n e =>
          cases hie : P.info? e with
          | none => simp [hit, hu, hz, hie] at h
          | some ie =>
            simp only [hit, hu, hz, hie] at h ⊢
            split at h
            · rename_i hall; exact fin _ z hall h
            · cases h
        case struct fields =>
          cases hp' : fields.toList.mapM (fun f => (P.info? f.type).map fun i => (f.offset, i.size)) with
          | none => simp [hit, hu, hz, hp'] at h
          | some places =>
            simp only [hit, hu, hz, hp'] at h ⊢
            split at h
            · rename_i hall; exact fin _ z hall h
            · cases h
theorem Inv.ovs (I : Inv w Sh Fs V σ) (hA : VA a V) : ∀ (parts : List (Nat × Operand)), Reps w Sh (KS w V σ) ((parts.map fun x => (x.1, Eng.ov σ x.2)).map (·.2)) noF ((parts.map fun x => (x.1, a.eval x.2)).map (·.2))
  | [] => by simp [Reps]
  | x :: xs => by
    have := I.ovs hA xs
    simp only [List.map_cons, Reps]
    exact ⟨_, _, noF, noF, rfl, I.ov hA x.2, this, Disj.no _, Le.refl _, Le.refl _⟩
theorem gives_build (I : Inv w Sh Fs V σ) (hA : VA a V) {t : TypeId} {parts : Array (Nat × Operand)} {cs : List AV} (ho : o.op = .build t parts) (hb : builtA P t (parts.toList.map fun x => (x.1, ov σ x.2)) = some cs) : Gives P w Sh V σ (execOp a.eval o) (.ag cs) := by
  obtain ⟨xs, h1, h2, h3⟩ := builtA_ok (vals := parts.toList.map fun x => (x.1, a.eval x.2)) (by simp [List.map_map, Function.comp_def]) (I.ovs hA parts.toList) hb
  refine Gives.same (v := .agg xs) ?_ ?_
  · have hp : (parts.map fun (i, x) => (i, a.eval x)).toList = parts.toList.map fun x => (x.1, a.eval x.2) := by simp
    rw [← hp] at h1
    simp only [execOp, ho, Sem.run_bind, run_build w t _ xs h1, Result.andThen_ok, Sem.run_pure]
  · simp only [Rep]; exact ⟨xs, rfl, h3, h2⟩
end

/-- What is loaded. -/
inductive LD (P : Program) (σ : Nat → AV) (t : TypeId) (x : AV) : AV → Prop
  | one (c : AV) (ht : aggT P t = some false) (hc : cell σ x 0 = some c) : LD P σ t x c
  | many (L : List AV) (s : Nat) (ht : aggT P t = some true) (hs : szT P t = some s) (hl : L.length = s) (h0 : 0 < s) (hc : ∀ k, k < s → cell σ x k = L[k]?) : LD P σ t x (.ag L)
/-- The quiet operations, and what each gives. -/
inductive QO (P : Program) (σ : Nat → AV) : Op → AV → Prop
  | move (x : Operand) : QO P σ (.move x) (ov σ x)
  | assign (x : Operand) : QO P σ (.assign x) (ov σ x)
  | pick (c x y : Operand) (t : Bool) (hc : ov σ c = .sc (.bool t)) : QO P σ (.pick c x y) (bif t then ov σ x else ov σ y)
  | pure (op : Op) (c : Value) (h : ∀ (ρ : Operand → Value) (o : Oper) (w : World), o.op = op → (∀ x v, toV (ov σ x) = some v → ρ x = v) → (execOp ρ o).run P w = .ok (.value c) w) : QO P σ op (cAV c)
  | load (t : TypeId) (x : Operand) (c : AV) (h : LD P σ t (ov σ x) c) : QO P σ (.load t x) c
  | nilCheck (x : Operand) (c : AV) (hc : adv σ (ov σ x) 0 = some c) : QO P σ (.nilCheck x) c
  | fieldAddr (s : TypeId) (x : Operand) (f n : Nat) (fs : Array Field) (fd : Field) (c : AV) (hs : P.underlying s = some (.struct fs)) (hf : fs[f]? = some fd) (hn : szT P fd.type = some n) (h0 : 0 < n) (hc : adv σ (ov σ x) fd.offset = some c) : QO P σ (.fieldAddr s x f) c
  | indexA (t : TypeId) (x ix : Operand) (len n : Nat) (e : TypeId) (k : IntKind) (i : Int) (c : AV) (ht : P.underlying t = some (.array len e)) (hn : szT P e = some n) (hi : ov σ ix = .sc (.int k i)) (h0 : 0 ≤ i) (h1 : i < len) (hc : adv σ (ov σ x) (i.toNat * n) = some c) : QO P σ (.indexAddr t x ix) c
  | indexV (t : TypeId) (x ix : Operand) (e sz : Nat) (k : IntKind) (i : Int) (r off n m e' sz' : Nat) (p : List Nat) (cs : List AV) (ht : P.underlying t = some (.slice e)) (hs : szT P e = some sz) (hi : ov σ ix = .sc (.int k i)) (hx : ov σ x = .vw r p off n) (hn : getN p (σ r) = some (.ow e' sz' m cs)) (hlen : off + n * sz ≤ cs.length) (hz : 0 < sz) (h0 : 0 ≤ i) (h1 : i < n) : QO P σ (.indexAddr t x ix) (.ad r p (off + i.toNat * sz))
  | indexI (t : TypeId) (x ix : Operand) (e sz : Nat) (k : IntKind) (i : Int) (n : Nat) (cs : List AV) (ht : P.underlying t = some (.slice e)) (hs : szT P e = some sz) (hi : ov σ ix = .sc (.int k i)) (hx : ov σ x = .im n cs) (h0 : 0 ≤ i) (h1 : i < n) (hlen : i.toNat * sz < cs.length) : QO P σ (.indexAddr t x ix) (.ip (cs.drop (i.toNat * sz)))
  | sliceV (t : TypeId) (x : Operand) (lo hi : Option Operand) (e sz : Nat) (l h : Int) (r off n m e' sz' : Nat) (p : List Nat) (cs : List AV) (ht : P.underlying t = some (.slice e)) (hs : szT P e = some sz) (hz : 0 < sz) (hx : ov σ x = .vw r p off n) (hn : getN p (σ r) = some (.ow e' sz' m cs)) (hl : bnd σ 0 lo = some l) (hh : bnd σ n hi = some h) (h0 : 0 ≤ l) (h1 : l ≤ h) (h2 : h ≤ n) : QO P σ (.slice t x lo hi none) (.vw r p (off + l.toNat * sz) (h.toNat - l.toNat))
  | sliceI (t : TypeId) (x : Operand) (lo hi : Option Operand) (e sz : Nat) (l h : Int) (n : Nat) (cs : List AV) (ht : P.underlying t = some (.slice e)) (hs : szT P e = some sz) (hz : 0 < sz) (hx : ov σ x = .im n cs) (hl : bnd σ 0 lo = some l) (hh : bnd σ n hi = some h) (h0 : 0 ≤ l) (h1 : l ≤ h) (h2 : h ≤ n) : QO P σ (.slice t x lo hi none) (.im (h.toNat - l.toNat) ((cs.drop (l.toNat * sz)).take ((h.toNat - l.toNat) * sz)))
  | sliceN (t : TypeId) (x : Operand) (lo hi : Option Operand) (e sz : Nat) (ht : P.underlying t = some (.slice e)) (hs : szT P e = some sz) (hx : ov σ x = .nl) (hl : bnd σ 0 lo = some 0) (hh : bnd σ 0 hi = some 0) : QO P σ (.slice t x lo hi none) .nl
  | lenV (t : TypeId) (x : Operand) (e : TypeId) (r off n e' sz' m : Nat) (p : List Nat) (cs : List AV) (ht : P.underlying t = some (.slice e)) (hx : ov σ x = .vw r p off n) (hn : getN p (σ r) = some (.ow e' sz' m cs)) : QO P σ (.call { callee := .builtin .len, args := #[x], argTypes := #[t] }) (.sc (.int .i64 n))
  | lenI (t : TypeId) (x : Operand) (e : TypeId) (n : Nat) (cs : List AV) (ht : P.underlying t = some (.slice e)) (hx : ov σ x = .im n cs) : QO P σ (.call { callee := .builtin .len, args := #[x], argTypes := #[t] }) (.sc (.int .i64 n))
  | lenN (t : TypeId) (x : Operand) (e : TypeId) (ht : P.underlying t = some (.slice e)) (hx : ov σ x = .nl) : QO P σ (.call { callee := .builtin .len, args := #[x], argTypes := #[t] }) (.sc (.int .i64 0))
  | alloc (e : TypeId) (z : Value) (hz : zeroT P e = some z) (h1 : z.cells.toList.all (·.oneCell') = true) : QO P σ (.alloc e) (.op (z.cells.toList.map c1))
  | makeSlice (t e sz by_ : Nat) (l c : Operand) (k k' : IntKind) (n : Nat) (z : Value) (ht : P.underlying t = some (.slice e)) (hs : szT P e = some sz) (hb : bytesT P e = some by_) (hz : zeroT P e = some z) (hzs : z.cells.size = sz) (h0 : 0 < sz) (hl : ov σ l = .sc (.int k n)) (hc : ov σ c = .sc (.int k' n)) (h63 : n ≤ maxLen) (hby : n * by_ ≤ 140737488355328) (h1 : z.cells.toList.all (·.oneCell') = true) : QO P σ (.makeSlice t l c) (.ow e sz n ((madeCells z.cells (n * sz)).toList.map c1))
  | build (t : TypeId) (parts : Array (Nat × Operand)) (cs : List AV) (hb : builtA P t (parts.toList.map fun x => (x.1, ov σ x.2)) = some cs) : QO P σ (.build t parts) (.ag cs)
  | extract (x : Operand) (i : Nat) (cs : List AV) (c : AV) (hx : ov σ x = .tu cs) (hc : cs[i]? = some c) : QO P σ (.extract x i) c
  | field1 (t : TypeId) (x : Operand) (i : Nat) (cs : List AV) (c : AV) (fs : Array Field) (fd : Field) (ht : P.underlying t = some (.struct fs)) (hf : fs[i]? = some fd) (hg : aggT P fd.type = some false) (hx : ov σ x = .ag cs) (hc : cs[fd.offset]? = some c) : QO P σ (.field t x i) c
  | fieldA (t : TypeId) (x : Operand) (i s : Nat) (cs : List AV) (fs : Array Field) (fd : Field) (ht : P.underlying t = some (.struct fs)) (hf : fs[i]? = some fd) (hg : aggT P fd.type = some true) (hs : szT P fd.type = some s) (hx : ov σ x = .ag cs) : QO P σ (.field t x i) (.ag ((cs.drop fd.offset).take s))
  | index1 (t : TypeId) (x ix : Operand) (len n : Nat) (e : TypeId) (k : IntKind) (i : Int) (cs : List AV) (c : AV) (ht : P.underlying t = some (.array len e)) (hg : aggT P e = some false) (hn : szT P e = some n) (hi : ov σ ix = .sc (.int k i)) (h0 : 0 ≤ i) (h1 : i < len) (hx : ov σ x = .ag cs) (hc : cs[i.toNat * n]? = some c) : QO P σ (.index t x ix) c

section
variable {P : Program} {w : World} {Sh : Foot} {Fs : Nat → Foot} {V : Nat → Value} {σ : Nat → AV} {a : Act} {o : Oper}
theorem QO.sound (I : Inv w Sh Fs V σ) (hA : VA a V) {op : Op} {av : AV} (h : QO P σ op av) (ho : o.op = op) : Gives P w Sh V σ (execOp a.eval o) av := by
  cases h with
  | move x => exact Gives.same (v := a.eval x) (by simp [execOp, ho]) (I.ov hA x)
  | assign x => exact Gives.same (v := a.eval x) (by simp [execOp, ho]) (I.ov hA x)
  | pick c x y t hc =>
    have e := ov_int I hA hc
    cases t
    · exact Gives.same (v := a.eval y) (by simp [execOp, ho, e, asBool]) (I.ov hA y)
    · exact Gives.same (v := a.eval x) (by simp [execOp, ho, e, asBool]) (I.ov hA x)
  | pure _ c h => exact gives_pure I hA fun ρ w hρ => h ρ o w ho hρ
  | load t x c h =>
    cases h with
    | one c ht hc => exact gives_load1 I hA ho ht hc
    | many L s ht hs hl h0 hc => exact gives_loadA I hA ho ht hs hl h0 hc
  | nilCheck x c hc => exact gives_nilCheck I hA ho hc
  | fieldAddr s x f n fs fd c hs hf hn h0 hc => exact gives_fieldAddr I hA ho hs hf hn h0 hc
  | indexA t x ix len n e k i c ht hn hi h0 h1 hc => exact gives_indexA I hA ho ht hn (ov_int I hA hi) h0 h1 hc
  | indexV t x ix e sz k i r off n m e' sz' p cs ht hs hi hx hn hlen hz h0 h1 => exact gives_indexV I hA ho ht hs (ov_int I hA hi) hx hn hlen hz h0 h1
  | indexI t x ix e sz k i n cs ht hs hi hx h0 h1 hlen => exact gives_indexI I hA ho ht hs (ov_int I hA hi) hx h0 h1 hlen
  | sliceV t x lo hi e sz l h r off n m e' sz' p cs ht hs hz hx hn hl hh h0 h1 h2 => exact gives_sliceV I hA ho ht hs hz hx hn hl hh h0 h1 h2
  | sliceI t x lo hi e sz l h n cs ht hs hz hx hl hh h0 h1 h2 => exact gives_sliceI I hA ho ht hs hz hx hl hh h0 h1 h2
  | sliceN t x lo hi e sz ht hs hx hl hh => exact gives_sliceN I hA ho ht hs hx hl hh
  | lenV t x e r off n e' sz' m p cs ht hx hn => exact gives_lenV I hA ho ht hx hn
  | lenI t x e n cs ht hx => exact gives_lenI I hA ho ht hx
  | lenN t x e ht hx => exact gives_lenN I hA ho ht hx
  | alloc e z hz h1 => exact gives_alloc I hA ho hz h1
  | makeSlice t e sz by_ l c k k' n z ht hs hb hz hzs h0 hl hc h63 hby h1 => exact gives_makeSlice I hA ho ht hs hb hz hzs h0 (ov_int I hA hl) (ov_int I hA hc) h63 hby h1
  | build t parts cs hb => exact gives_build I hA ho hb
  | extract x i cs c hx hc => exact gives_extract I hA ho hx hc
  | field1 t x i cs c fs fd ht hf hg hx hc => exact gives_field1 I hA ho ht hf hg hx hc
  | fieldA t x i s cs fs fd ht hf hg hs hx => exact gives_fieldA I hA ho ht hf hg hs hx
  | index1 t x ix len n e k i cs c ht hg hn hi h0 h1 hx hc => exact gives_index1 I hA ho ht hg hn (ov_int I hA hi) h0 h1 hx hc
end
end Go.Eng
/- The engine, part H: what is owned is taken out of a register, and written into. -/
namespace Go.Eng
open Go
set_option linter.unusedVariables false
set_option linter.unusedSimpArgs false

mutual
theorem mask_no : ∀ (a : AV), mask (fun _ _ => false) a = a
  | .vw .. => by simp [mask]
  | .ad .. => by simp [mask]
  | .ag cs => by simp [mask, maskL_no cs]
  | .tu cs => by simp [mask, maskL_no cs]
  | .sc _ => rfl
  | .nl => rfl
  | .im .. => rfl
  | .ow .. => rfl
  | .ip _ => rfl
  | .op _ => rfl
  | .dead => rfl
theorem maskL_no : ∀ (cs : List AV), maskL (fun _ _ => false) cs = cs
  | [] => rfl
  | c :: cs => by simp [maskL, mask_no c, maskL_no cs]
end
def setS (σ : Nat → AV) (r : Nat) (p : List Nat) (x : AV) : Nat → AV := upd σ r (setN p (σ r) x)
theorem modS_no (σ : Nat → AV) (r : Nat) (p : List Nat) (x : AV) : modS σ r p (fun _ _ => false) x = setS σ r p x := by
  funext t; simp [modS, setS, mask_no]

def isPl : AV → Bool
  | .sc _ | .nl | .im _ _ | .ip _ => true
  | _ => false
/-- What is owned leaves its place. -/
inductive TakeL : (Nat → AV) → List AV → List AV → (Nat → AV) → Prop
  | nil (σ) : TakeL σ [] [] σ
  | plain {σ σ' : Nat → AV} {a : AV} {as ts : List AV} (h : isPl a = true) (k : TakeL σ as ts σ') : TakeL σ (a :: as) (a :: ts) σ'
  | vw {σ σ' : Nat → AV} {r n e sz m : Nat} {p : List Nat} {cs as ts : List AV} (hn : getN p (σ r) = some (.ow e sz m cs)) (hm : n ≤ m) (k : TakeL (setS σ r p .dead) as ts σ') : TakeL σ (.vw r p 0 n :: as) (.ow e sz n (cs.take (n * sz)) :: ts) σ'
  | ad {σ σ' : Nat → AV} {r : Nat} {p : List Nat} {cs as ts : List AV} (hn : getN p (σ r) = some (.op cs)) (k : TakeL (setS σ r p .dead) as ts σ') : TakeL σ (.ad r p 0 :: as) (.op cs :: ts) σ'
  | ag {σ σ1 σ' : Nat → AV} {cs ds as ts : List AV} (h : TakeL σ cs ds σ1) (k : TakeL σ1 as ts σ') : TakeL σ (.ag cs :: as) (.ag ds :: ts) σ'
  | tu {σ σ1 σ' : Nat → AV} {cs ds as ts : List AV} (h : TakeL σ cs ds σ1) (k : TakeL σ1 as ts σ') : TakeL σ (.tu cs :: as) (.tu ds :: ts) σ'

section
variable {P : Program} {w w' : World} {Sh Sh' : Foot} {V : Nat → Value} {K : Value → AV → Prop}
variable {a : Act} {o : Oper}

theorem KS.mono {w' : World} {σ σ' : Nat → AV} (hat : ∀ r q h x, At w' (V r) (σ' r) q h x → ∃ x', At w (V r) (σ r) q h x') : ∀ v a, KS w V σ v a → KS w' V σ' v a := by
  intro v a hk
  cases a <;> simp only [KS] at hk ⊢
  · intro h x hx; obtain ⟨x', hx'⟩ := hat _ _ h x hx; exact hk h x' hx'
  · intro h x hx; obtain ⟨x', hx'⟩ := hat _ _ h x hx; exact hk h x' hx'
theorem Rep.trunc {e sz m n : Nat} {cs : List AV} {F : Foot} {A : Option Addr} {m' cap : Nat} (h : Rep w Sh K (.ow e sz m cs) F (.slice A m' cap)) (hn : n ≤ m) : Rep w Sh KF (.ow e sz n (cs.take (n * sz))) F (.slice A n cap) := by
  simp only [Rep] at h ⊢
  obtain ⟨xs, G, ho, hz, hg, h1, hle, hr⟩ := h
  have hmul : n * sz ≤ m * sz := Nat.mul_le_mul_right _ hn
  refine ⟨xs.take (n * sz), G, ⟨by rw [List.length_take, ho.1]; omega, ?_⟩, hz, fun g e => hg g (by cases A <;> exact e), fun u hu => h1 u (List.mem_of_mem_take hu), hle, hr.take _⟩
  rcases ho.2 with ⟨e, rfl⟩ | ⟨g, cap', cur, e, hb, hh, h3, h4, h5, h6⟩
  · cases e
    have : n = 0 := by omega
    subst this
    exact .inl ⟨rfl, rfl⟩
  · cases e
    refine .inr ⟨g, cap, cur, rfl, hb, hh, by omega, h4, h5, ?_⟩
    rw [← h6, List.take_take, Nat.min_eq_left hmul]
theorem Rep.kf_own {a : AV} (ha : (∃ e sz n cs, a = .ow e sz n cs) ∨ ∃ cs, a = .op cs) {F : Foot} {v : Value} (h : Rep w Sh K a F v) : Rep w Sh KF a F v := by
  rcases ha with ⟨e, sz, n, cs, rfl⟩ | ⟨cs, rfl⟩ <;> simpa only [Rep] using h

/-- One thing that is owned is taken out. -/
theorem Inv.out {Fs : Nat → Foot} {σ : Nat → AV} (I : Inv w Sh Fs V σ) {r : Nat} {p : List Nat} {x : AV} (hx : getN p (σ r) = some x) :
    ∃ f u Fx Fs', FK f ∧ Rep w Sh (f (KS w V σ)) x Fx u ∧ At w (V r) (σ r) p u x ∧ Inv w Sh Fs' V (setS σ r p .dead) ∧ (∀ t, Le (Fs' t) (Fs t)) ∧ (∀ t, Disj Fx (Fs' t)) ∧ Le Fx (Fs r) ∧ (∀ v a, KS w V σ v a → KS w V (setS σ r p .dead) v a) := by
  obtain ⟨f, u, Fx, Fr, hf, h1, h2, h3, h4, h5, h6⟩ := I.mod hx
  obtain ⟨I', hat⟩ := h6 (w' := w) (Sh' := Sh) (G := noF) (Fx' := noF) (x' := .dead) (bad := fun _ _ => false) (Keeps.refl _ _) (Disj.no' _) (fun _ _ => Disj.no' _) (Disj.no _) (Le.refl _) (fun t _ => I.shd t) ((I.shd r).le h5 (Le.refl _)) (by simp only [Rep]) (Disj.no' _) (fun _ _ => Disj.no' _) (Disj.no' _) (fun _ _ f => f.elim) I.sbd (fun j t h y _ k => by cases k)
  rw [modS_no] at I' hat
  refine ⟨f, u, Fx, _, hf, h1, h2, I', fun t => ?_, fun t => ?_, h4, KS.mono (fun r q h x k => hat r q h x rfl k)⟩
  · by_cases e : t = r
    · subst e; rw [upd_same]; exact Le.or h5 (Le.no _)
    · rw [upd_ne _ _ _ e]; exact Le.refl _
  · by_cases e : t = r
    · subst e; rw [upd_same]; exact Disj.or h3 (Disj.no _)
    · rw [upd_ne _ _ _ e]; exact (I.dis r t (Ne.symm e)).le h4 (Le.refl _)

theorem TakeL.sound {σ σ' : Nat → AV} {avs ts : List AV} (h : TakeL σ avs ts σ') : ∀ {Fs : Nat → Foot} {vs : List Value}, Inv w Sh Fs V σ → Reps w Sh (KS w V σ) avs noF vs →
    ∃ Fs' Ft, Inv w Sh Fs' V σ' ∧ Reps w Sh KF ts Ft vs ∧ (∀ r, Le (Fs' r) (Fs r)) ∧ (∀ r, Disj Ft (Fs' r)) ∧ (∀ b o, Ft b o → ∃ r, Fs r b o) ∧ (∀ v a, KS w V σ v a → KS w V σ' v a) := by
  induction h with
  | nil σ =>
    intro Fs vs I hr
    simp only [Reps] at hr; subst hr
    exact ⟨Fs, noF, I, by simp [Reps], fun _ => Le.refl _, fun _ => Disj.no' _, fun _ _ f => f.elim, fun _ _ h => h⟩
  | @plain σ σ' c as ts hp k ih =>
    intro Fs vs I hr
    simp only [Reps] at hr
    obtain ⟨x, xs', F1, F2, rfl, h1, h2, hd, l1, l2⟩ := hr
    obtain ⟨Fs', Ft, i1, i2, i3, i4, i5, i6⟩ := ih I (Reps.wider (Le.refl _) (fun _ _ h => h) l2 h2)
    refine ⟨Fs', Ft, i1, ?_, i3, i4, i5, i6⟩
    have hx : Rep w Sh KF c noF x := by
      cases c <;> simp only [isPl, Bool.false_eq_true] at hp <;> simpa only [Rep] using h1
    simp only [Reps]
    exact ⟨x, xs', noF, Ft, rfl, hx, i2, Disj.no' _, Le.no _, Le.refl _⟩
  | @vw σ σ' r n e sz m p cs as ts hn hm k ih =>
    intro Fs vs I hr
    simp only [Reps] at hr
    obtain ⟨x, xs', F1, F2, rfl, h1, h2, hd, l1, l2⟩ := hr
    obtain ⟨f, u, Fx, Fs1, hf, g1, g2, I1, g3, g4, g5, g6⟩ := I.out hn
    obtain ⟨Fs', Ft, i1, i2, i3, i4, i5, i6⟩ := ih I1 (Reps.wider (Le.refl _) g6 l2 h2)
    have hdx : Disj Fx Ft := fun b o hx ht => by obtain ⟨t, hh⟩ := i5 b o ht; exact g4 t b o hx hh
    simp only [Rep] at h1
    obtain ⟨A, m', cap, e1, e2, -⟩ := h1.1 _ _ g2
    obtain ⟨e3, e4⟩ := e2 rfl
    rw [e1] at g1
    have hx := g1.trunc (n := n) hm
    refine ⟨Fs', Or Fx Ft, i1, ?_, fun t => (i3 t).trans (g3 t), fun t => Disj.or' ((g4 t).le (Le.refl _) (i3 t)) (i4 t), fun b o hh => ?_, fun v a h => i6 v a (g6 v a h)⟩
    · simp only [Reps]
      rw [e3]
      exact ⟨_, xs', Fx, Ft, rfl, hx, i2, hdx, Le.left _ _, Le.right _ _⟩
    · rcases hh with hh | hh
      · exact ⟨r, g5 b o hh⟩
      · obtain ⟨t, ht⟩ := i5 b o hh; exact ⟨t, g3 t b o ht⟩
  | @ad σ σ' r p cs as ts hn k ih =>
    intro Fs vs I hr
    simp only [Reps] at hr
    obtain ⟨x, xs', F1, F2, rfl, h1, h2, hd, l1, l2⟩ := hr
    obtain ⟨f, u, Fx, Fs1, hf, g1, g2, I1, g3, g4, g5, g6⟩ := I.out hn
    obtain ⟨Fs', Ft, i1, i2, i3, i4, i5, i6⟩ := ih I1 (Reps.wider (Le.refl _) g6 l2 h2)
    have hdx : Disj Fx Ft := fun b o hx ht => by obtain ⟨t, hh⟩ := i5 b o ht; exact g4 t b o hx hh
    simp only [Rep] at h1
    obtain ⟨ad, e1, e2⟩ := h1.1 _ _ g2
    have hux : u = x := by
      have g1' := g1
      simp only [Rep] at g1'
      obtain ⟨ad', xs, G, rfl, -⟩ := g1'
      rcases e2 with e2 | ⟨_, _, e2⟩
      · cases e2; rw [e1]; simp [Addr.add]
      · cases e2
    subst hux
    refine ⟨Fs', Or Fx Ft, i1, ?_, fun t => (i3 t).trans (g3 t), fun t => Disj.or' ((g4 t).le (Le.refl _) (i3 t)) (i4 t), fun b o hh => ?_, fun v a h => i6 v a (g6 v a h)⟩
    · simp only [Reps]
      exact ⟨_, xs', Fx, Ft, rfl, g1.kf_own (.inr ⟨cs, rfl⟩), i2, hdx, Le.left _ _, Le.right _ _⟩
    · rcases hh with hh | hh
      · exact ⟨r, g5 b o hh⟩
      · obtain ⟨t, ht⟩ := i5 b o hh; exact ⟨t, g3 t b o ht⟩
  | @ag σ σ1 σ' cs ds as ts h k ih1 ih2 =>
    intro Fs vs I hr
    simp only [Reps] at hr
    obtain ⟨x, xs', F1, F2, rfl, h1, h2, hd, l1, l2⟩ := hr
    simp only [Rep] at h1
    obtain ⟨ys, rfl, h1a, h1b⟩ := h1
    obtain ⟨Fs1, Ft1, j1, j2, j3, j4, j5, j6⟩ := ih1 I (Reps.wider (Le.refl _) (fun _ _ h => h) l1 h1b)
    obtain ⟨Fs', Ft, i1, i2, i3, i4, i5, i6⟩ := ih2 j1 (Reps.wider (Le.refl _) j6 l2 h2)
    have hdx : Disj Ft1 Ft := fun b o hx ht => by obtain ⟨t, hh⟩ := i5 b o ht; exact j4 t b o hx hh
    refine ⟨Fs', Or Ft1 Ft, i1, ?_, fun t => (i3 t).trans (j3 t), fun t => Disj.or' ((j4 t).le (Le.refl _) (i3 t)) (i4 t), fun b o hh => ?_, fun v a h => i6 v a (j6 v a h)⟩
    · simp only [Reps]
      refine ⟨_, xs', Ft1, Ft, rfl, ?_, i2, hdx, Le.left _ _, Le.right _ _⟩
      simp only [Rep]
      exact ⟨ys, rfl, h1a, j2⟩
    · rcases hh with hh | hh
      · exact j5 b o hh
      · obtain ⟨t, ht⟩ := i5 b o hh; exact ⟨t, j3 t b o ht⟩
  | @tu σ σ1 σ' cs ds as ts h k ih1 ih2 =>
    intro Fs vs I hr
    simp only [Reps] at hr
    obtain ⟨x, xs', F1, F2, rfl, h1, h2, hd, l1, l2⟩ := hr
    simp only [Rep] at h1
    obtain ⟨ys, rfl, h1b⟩ := h1
    obtain ⟨Fs1, Ft1, j1, j2, j3, j4, j5, j6⟩ := ih1 I (Reps.wider (Le.refl _) (fun _ _ h => h) l1 h1b)
    obtain ⟨Fs', Ft, i1, i2, i3, i4, i5, i6⟩ := ih2 j1 (Reps.wider (Le.refl _) j6 l2 h2)
    have hdx : Disj Ft1 Ft := fun b o hx ht => by obtain ⟨t, hh⟩ := i5 b o ht; exact j4 t b o hx hh
    refine ⟨Fs', Or Ft1 Ft, i1, ?_, fun t => (i3 t).trans (j3 t), fun t => Disj.or' ((j4 t).le (Le.refl _) (i3 t)) (i4 t), fun b o hh => ?_, fun v a h => i6 v a (j6 v a h)⟩
    · simp only [Reps]
      refine ⟨_, xs', Ft1, Ft, rfl, ?_, i2, hdx, Le.left _ _, Le.right _ _⟩
      simp only [Rep]
      exact ⟨ys, rfl, j2⟩
    · rcases hh with hh | hh
      · exact j5 b o hh
      · obtain ⟨t, ht⟩ := i5 b o hh; exact ⟨t, j3 t b o ht⟩

/-! One cell is written. -/
def isC (r : Nat) (p : List Nat) (i : Nat) : Nat → List Nat → Bool := fun r' q => r' == r && (p ++ [i]).isPrefixOf q
/-- At a node. -/
theorem Rep.setc {nd : AV} {F Fc : Foot} {u v : Value} {cs : List AV} {i : Nat} {c : AV} (h : Rep w Sh K nd F u) (hk : (∃ e sz n, nd = .ow e sz n cs) ∨ nd = .op cs) (hi : i < cs.length) (hv : v.oneCell' = true) (hc : Rep w Sh KF c Fc v) (hd : Disj Fc F) (hsh : Disj F Sh) :
    ∃ ad0 y, (u = .pointer (some ad0) ∨ ∃ m cap, u = .slice (some ad0) m cap) ∧ w.cell? (ad0.add i) = some y ∧ w.frozen? (ad0.add i) = false ∧ F ad0.block (ad0.off + i) ∧
      Rep (w.setCell (ad0.add i) v) Sh KF (withKids nd (cs.set i c)) (Or F Fc) u ∧
      (∀ j t h y, j ≠ i → At (w.setCell (ad0.add i) v) u (withKids nd (cs.set i c)) (j :: t) h y → At w u nd (j :: t) h y) := by
  rcases hk with ⟨e, sz, n, rfl⟩ | rfl
  · simp only [Rep] at h
    obtain ⟨xs, H, ho, hz, hg, h1, hle, hr⟩ := h
    have hci : ∃ c0, cs[i]? = some c0 := ⟨_, List.getElem?_eq_getElem hi⟩
    obtain ⟨c0, hc0⟩ := hci
    obtain ⟨y, Fj, Fo, e1, e2, e3, e4, e5, e6, e7⟩ := hr.lens hc0
    obtain ⟨hlt, -⟩ := List.getElem?_eq_some_iff.1 e1
    rcases ho.2 with ⟨rfl, rfl⟩ | ⟨g, cap, cur, rfl, hb, hh, h3, h4, h5, h6⟩
    · have : xs = [] := List.eq_nil_of_length_eq_zero (by simpa using ho.1)
      subst this; simp at hlt
    · have hgb := hg g rfl
      have hcell : ∀ i u, xs[i]? = some u → w.cell? ((⟨g, 0, none⟩ : Addr).add i) = some u := ho.cells (g := g) rfl
      let G : Foot := fun b o => b = g ∧ o = i
      have hks : Keeps G w (w.setCell ((⟨g, 0, none⟩ : Addr).add i) v) := Keeps.setCell (by rw [add_block, add_off]; exact ⟨rfl, Nat.zero_add i⟩)
      have hGF : Le G F := fun b o ⟨e, _⟩ => by subst e; exact hgb.1 o
      have hGH : Disj G H := fun b o ⟨e, _⟩ f => by subst e; exact hgb.2 o f
      have hset := e6 (K' := KF) (c' := c) (u' := v) (Fj' := Fc) hks (hGH.le (Le.refl _) e5) ((hsh.symm).le (Le.refl _) hGF) (Le.refl _) (fun _ _ x => x) (Rep.frame hks ((hsh.symm).le (Le.refl _) hGF) (Le.refl _) c (fun _ _ x => x) (hd.symm.le hGF (Le.refl _)) (Le.refl _) hc) (hd.le (Le.refl _) (e5.trans hle))
      refine ⟨⟨g, 0, none⟩, y, .inr ⟨_, _, rfl⟩, hcell _ _ e1, ?_, hgb.1 _, ?_, ?_⟩
      · unfold World.frozen?
        rw [add_block]
        simp only [hh]
        simp
      · simp only [withKids, Rep]
        have hi2 : i < n * sz := by rw [← ho.1]; exact hlt
        refine ⟨xs.set i v, Or Fo Fc, ⟨by rw [List.length_set]; exact ho.1, .inr ⟨g, cap, cur.setIfInBounds i v, rfl, hb, ?_, h3, h4, by simpa using h5, ?_⟩⟩, hz, fun g' e' => ?_, fun z hz => ?_, Le.or ((e5.trans hle).trans (Le.left _ _)) (Le.right _ _), hset⟩
        · have hsp : ((⟨g, 0, none⟩ : Addr).add i).spot = none := by unfold Addr.add; split <;> rfl
          have hof : ((⟨g, 0, none⟩ : Addr).add i).off = i := by rw [add_off]; exact Nat.zero_add i
          simp [World.setCell, Array.getElem?_modify, add_block, hh, hsp, hof]
        · rw [Array.toList_setIfInBounds, List.take_set, h6]
        · cases e'
          exact ⟨fun o => .inl (hgb.1 o), fun o f => f.elim (fun f => hgb.2 o (e5 _ _ f)) (fun f => hd _ _ f (hgb.1 o))⟩
        · rcases List.mem_or_eq_of_mem_set hz with hz | rfl
          · exact h1 z hz
          · exact hv
      · intro j t h y' hj hat
        simp only [withKids] at hat
        cases hat with
        | ow hc2 hu2 hp2 =>
          rw [List.getElem?_set_ne (Ne.symm hj)] at hc2
          obtain ⟨u', Fi, f1, f2, f3⟩ := e7 hj hc2
          have hne : w.cell? ((⟨g, 0, none⟩ : Addr).add j) = some u' := hcell _ _ f1
          have := hks.cell hne (by rw [add_block, add_off]; rintro ⟨_, e⟩; exact hj (by simpa using e))
          rw [this] at hu2; cases hu2
          exact .ow hc2 hne (hp2.frame hks f2 (hGH.le (Le.refl _) (f3.trans e5)))
  · simp only [Rep] at h
    obtain ⟨ad, xs, H, rfl, hcc, h1, hle, hr⟩ := h
    obtain ⟨c0, hc0⟩ : ∃ c0, cs[i]? = some c0 := ⟨_, List.getElem?_eq_getElem hi⟩
    obtain ⟨y, Fj, Fo, e1, e2, e3, e4, e5, e6, e7⟩ := hr.lens hc0
    obtain ⟨c1, c2, c3, c4⟩ := hcc i y e1
    let G : Foot := fun b o => b = ad.block ∧ o = ad.off + i
    have hks : Keeps G w (w.setCell (ad.add i) v) := Keeps.setCell (by rw [add_block, add_off]; exact ⟨rfl, rfl⟩)
    have hGF : Le G F := fun b o ⟨e, e'⟩ => by subst e; subst e'; exact c3
    have hGH : Disj G H := fun b o ⟨e, e'⟩ f => by subst e; subst e'; exact c4 f
    have hset := e6 (K' := KF) (c' := c) (u' := v) (Fj' := Fc) hks (hGH.le (Le.refl _) e5) ((hsh.symm).le (Le.refl _) hGF) (Le.refl _) (fun _ _ x => x) (Rep.frame hks ((hsh.symm).le (Le.refl _) hGF) (Le.refl _) c (fun _ _ x => x) (hd.symm.le hGF (Le.refl _)) (Le.refl _) hc) (hd.le (Le.refl _) (e5.trans hle))
    have hcellj : ∀ j z, j ≠ i → xs[j]? = some z → (w.setCell (ad.add i) v).cell? (ad.add j) = some z := fun j z hj hz => hks.cell (hcc j z hz).1 (by rw [add_block, add_off]; rintro ⟨_, e⟩; exact hj (by omega))
    have hcelli : (w.setCell (ad.add i) v).cell? (ad.add i) = some v := by
      obtain ⟨arr, t, fr, hb, hs, ha⟩ := cell?_cells c1
      refine cell?_of (arr := arr.setIfInBounds (ad.add i).off v) (t := t) (fr := fr) ?_ hs ?_
      · simp [World.setCell, Array.getElem?_modify, hb, hs]
      · have := (Array.getElem?_eq_some_iff.1 ha).1
        simp [this]
    refine ⟨ad, y, .inl rfl, c1, c2, c3, ?_, ?_⟩
    · simp only [withKids, Rep]
      refine ⟨ad, xs.set i v, Or Fo Fc, rfl, fun j z hj => ?_, fun z hz => ?_, Le.or ((e5.trans hle).trans (Le.left _ _)) (Le.right _ _), hset⟩
      · by_cases e : j = i
        · subst e
          have hlt := (List.getElem?_eq_some_iff.1 e1).1
          rw [List.getElem?_set_self hlt] at hj; cases hj
          have hfz : (w.setCell (ad.add j) v).frozen? (ad.add j) = w.frozen? (ad.add j) := by
            obtain ⟨arr, t, fr, hb, hs, ha⟩ := cell?_cells c1
            simp [World.frozen?, World.setCell, Array.getElem?_modify, hb]
          exact ⟨hcelli, hfz.trans c2, .inl c3, fun f => f.elim (fun f => c4 (e5 _ _ f)) (fun f => hd _ _ f c3)⟩
        · rw [List.getElem?_set_ne (Ne.symm e)] at hj
          obtain ⟨d1, d2, d3, d4⟩ := hcc j z hj
          have hnf : ¬ G (ad.add j).block (ad.add j).off := by rw [add_block, add_off]; rintro ⟨_, e'⟩; exact e (by omega)
          exact ⟨hks.cell d1 hnf, (hks.frozen d1 hnf).trans d2, .inl d3, fun f => f.elim (fun f => d4 (e5 _ _ f)) (fun f => hd _ _ f d3)⟩
      · rcases List.mem_or_eq_of_mem_set hz with hz | rfl
        · exact h1 z hz
        · exact hv
    · intro j t h y' hj hat
      simp only [withKids] at hat
      cases hat with
      | op hc2 hu2 hp2 =>
        rw [List.getElem?_set_ne (Ne.symm hj)] at hc2
        obtain ⟨u', Fi, f1, f2, f3⟩ := e7 hj hc2
        rw [hcellj j u' hj f1] at hu2; cases hu2
        exact .op hc2 (hcc j _ f1).1 (hp2.frame hks f2 (hGH.le (Le.refl _) (f3.trans e5)))
end
end Go.Eng
/- The engine, part I: stores, appends, new variables and rows of what was owned elsewhere. -/
namespace Go.Eng
open Go
set_option linter.unusedVariables false
set_option linter.unusedSimpArgs false

def T (Fs : Nat → Foot) : Foot := fun b o => ∃ r, Fs r b o
/-- What was owned and read before, and behind. -/
structure Ext (w : World) (Sh F : Foot) (w' : World) (Sh' F' : Foot) : Prop where
  keeps : Keeps F w w'
  sh : Le Sh Sh'
  new : ∀ b o, Sh' b o → Sh b o ∨ F b o ∨ w.heap.size ≤ b
  own : ∀ b o, F' b o → F b o ∨ w.heap.size ≤ b
theorem Ext.refl (w : World) (Sh F : Foot) : Ext w Sh F w Sh F := ⟨Keeps.refl _ _, Le.refl _, fun _ _ h => .inl h, fun _ _ h => .inl h⟩
theorem Ext.trans {w w1 w2 : World} {Sh Sh1 Sh2 F F1 F2 : Foot} (h : Ext w Sh F w1 Sh1 F1) (k : Ext w1 Sh1 F1 w2 Sh2 F2) : Ext w Sh F w2 Sh2 F2 := by
  have hs := h.keeps.size
  refine ⟨h.keeps.trans k.keeps (Le.refl _) (fun b o hb f => ?_), h.sh.trans k.sh, fun b o f => ?_, fun b o f => ?_⟩
  · rcases h.own b o f with f | f
    · exact f
    · omega
  · rcases k.new b o f with f | f | f
    · exact h.new b o f
    · rcases h.own b o f with f | f
      · exact .inr (.inl f)
      · exact .inr (.inr f)
    · exact .inr (.inr (by omega))
  · rcases k.own b o f with f | f
    · exact h.own b o f
    · exact .inr (by omega)

/-- Cells are written one behind the other. -/
inductive StoreL : (Nat → AV) → Nat → List Nat → Nat → List AV → (Nat → AV) → Prop
  | nil (σ r p i) : StoreL σ r p i [] σ
  | cons {σ σ' : Nat → AV} {r i : Nat} {p : List Nat} {nd c : AV} {cs vs : List AV} (hn : getN p (σ r) = some nd) (hk : (∃ e sz n, nd = .ow e sz n cs) ∨ nd = .op cs) (hi : i < cs.length)
      (k : StoreL (modS σ r p (isC r p i) (withKids nd (cs.set i c))) r p (i + 1) vs σ') : StoreL σ r p i (c :: vs) σ'

section
variable {P : Program} {w w' : World} {Sh Sh' : Foot} {V : Nat → Value} {K : Value → AV → Prop}
variable {a : Act} {o : Oper}

theorem isPrefixOf_self_snoc (p : List Nat) (i : Nat) : (p ++ [i]).isPrefixOf p = false := by
  cases h : (p ++ [i]).isPrefixOf p
  · rfl
  · have := (List.isPrefixOf_iff_prefix.1 h).length_le
    simp at this
    omega
theorem isC_other {r i j : Nat} {p t : List Nat} (h : isC r p i r (p ++ j :: t) = false) : j ≠ i := by
  rintro rfl
  have hp : (p ++ [j]).isPrefixOf (p ++ j :: t) = true := by
    rw [List.isPrefixOf_iff_prefix]
    exact ⟨t, by simp⟩
  simp [isC, hp] at h
theorem StoreL.sound {σ σ' : Nat → AV} {r i : Nat} {p : List Nat} {vs : List AV} (h : StoreL σ r p i vs σ') : ∀ {w : World} {Fs : Nat → Foot} {Ft : Foot} {ys : List Value} {ad : Addr} {k : Nat}, Inv w Sh Fs V σ → Reps w Sh KF vs Ft ys → (∀ u ∈ ys, u.oneCell' = true) → (∀ t, Disj Ft (Fs t)) → Disj Ft Sh → (∀ b o, Ft b o → b < w.heap.size) →
    (∀ h x, At w (V r) (σ r) p h x → ∃ ad0, (h = .pointer (some ad0) ∨ ∃ m cap, h = .slice (some ad0) m cap) ∧ ad.add k = ad0.add i) →
    ∃ w' Fs', (storeCells ad ys k).run P w = .ok () w' ∧ Inv w' Sh Fs' V σ' ∧ Keeps (Or (T Fs) Ft) w w' ∧ w'.heap.size = w.heap.size ∧ (∀ b o, T Fs' b o → T Fs b o ∨ Ft b o) := by
  induction h with
  | nil σ r p i =>
    intro w Fs Ft ys ad k I hr h1 hd hs hb hat
    simp only [Reps] at hr; subst hr
    exact ⟨w, Fs, rfl, I, Keeps.refl _ _, rfl, fun _ _ h => .inl h⟩
  | @cons σ σ' r i p nd c cs vs hn hk hi k ih =>
    intro w Fs Ft ys ad kk I hr h1 hd hs hb hat
    simp only [Reps] at hr
    obtain ⟨v, ys', F1, F2, rfl, r1, r2, rd, l1, l2⟩ := hr
    have hv : v.oneCell' = true := h1 v (by simp)
    obtain ⟨f, u, Fx, Fr, hf, g1, g2, g3, g4, g5, g6⟩ := I.mod hn
    obtain ⟨ad1, y, e1, e2, e3, e4, e5, e6⟩ := g1.setc hk hi hv r1 ((hd r).le l1 g4) ((I.shd r).le g4 (Le.refl _))
    obtain ⟨ad0, q1, q2⟩ := hat _ _ g2
    have hadd : ad0 = ad1 := by
      rcases q1 with q1 | ⟨_, _, q1⟩ <;> rcases e1 with e1 | ⟨_, _, e1⟩ <;> rw [q1] at e1 <;> cases e1 <;> rfl
    subst hadd
    rw [← q2] at e2 e3 e5 e6
    have hcf : Keeps (fun b o => b = ad0.block ∧ o = ad0.off + i) w (w.setCell (ad.add kk) v) := Keeps.setCell (by rw [q2, add_block, add_off]; exact ⟨rfl, rfl⟩)
    have hC : Le (fun b o => b = ad0.block ∧ o = ad0.off + i) Fx := fun b o ⟨x, y⟩ => by subst x; subst y; exact e4
    obtain ⟨I', hat'⟩ := g6 (w' := w.setCell (ad.add kk) v) (Sh' := Sh) (Fx' := Or Fx F1) (x' := withKids nd (cs.set i c)) (bad := isC r p i) hcf (g3.le hC (Le.refl _)) (fun t ht => (I.dis r t (Ne.symm ht)).le (hC.trans g4) (Le.refl _)) (((I.shd r).symm).le (Le.refl _) (hC.trans g4)) (Le.refl _) (fun t _ => I.shd t) ((I.shd r).le g5 (Le.refl _)) e5 (Disj.or' g3 ((hd r).le l1 g5)) (fun t ht => Disj.or' ((I.dis r t (Ne.symm ht)).le g4 (Le.refl _)) ((hd t).le l1 (Le.refl _))) (Disj.or' ((I.shd r).le g4 (Le.refl _)) (hs.le l1 (Le.refl _)))
      (fun b o hh => by
        have hsz : (w.setCell (ad.add kk) v).heap.size = w.heap.size := by simp [World.setCell]
        rw [hsz]
        exact hh.elim (fun hh => I.bnd r b o (g4 b o hh)) (fun hh => hb b o (l1 b o hh))) (fun b o hh => Nat.lt_of_lt_of_le (I.sbd b o hh) hcf.size) (fun j t h y hb hy => ⟨y, e6 j t h y (isC_other hb) hy⟩)
    have hsz : (w.setCell (ad.add kk) v).heap.size = w.heap.size := by simp [World.setCell]
    have hFs' : ∀ t, Disj F2 (upd Fs r (Or Fr (Or Fx F1)) t) := by
      intro t
      by_cases e : t = r
      · subst e; rw [upd_same]
        exact Disj.or ((hd t).le l2 g5) (Disj.or ((hd t).le l2 g4) rd.symm)
      · rw [upd_ne _ _ _ e]; exact (hd t).le l2 (Le.refl _)
    obtain ⟨w2, Fs2, s1, s2, s3, s4, s5⟩ := ih (w := w.setCell (ad.add kk) v) (Ft := F2) (ys := ys') (ad := ad) (k := kk + 1) I' (Reps.frame hcf (((I.shd r).symm).le (Le.refl _) (hC.trans g4)) (Le.refl _) vs (fun _ _ h => h) ((hd r).symm.le (hC.trans g4) l2) (Le.refl _) r2) (fun z hz => h1 z (List.mem_cons_of_mem _ hz)) hFs' (hs.le l2 (Le.refl _)) (fun b o hh => by rw [hsz]; exact hb b o (l2 b o hh))
      (fun h x hx => by
        obtain ⟨y', hy'⟩ := hat' r p h x (by simp [isC, isPrefixOf_self_snoc]) hx
        obtain ⟨ad2, p1, p2⟩ := hat h y' hy'
        refine ⟨ad2, p1, ?_⟩
        rw [← add_add, ← add_add, p2])
    refine ⟨w2, Fs2, ?_, s2, ?_, s4.trans hsz, fun b o hh => ?_⟩
    · simp only [storeCells, Sem.run_bind, run_store P w _ v .plain hv, e2, e3, Bool.false_eq_true, if_false, Result.andThen_ok, s1]
    · refine (hcf.mono (fun b o hh => .inl ⟨r, g4 _ _ (hC b o hh)⟩)).trans s3 (Le.refl _) (fun b o hb' hh => ?_)
      rcases hh with ⟨t, hh⟩ | hh
      · by_cases e : t = r
        · subst e; rw [upd_same] at hh
          rcases hh with hh | hh | hh
          · exact .inl ⟨t, g5 b o hh⟩
          · exact .inl ⟨t, g4 b o hh⟩
          · exact .inr (l1 b o hh)
        · rw [upd_ne _ _ _ e] at hh; exact .inl ⟨t, hh⟩
      · exact .inr (l2 b o hh)
    · rcases s5 b o hh with ⟨t, hh⟩ | hh
      · by_cases e : t = r
        · subst e; rw [upd_same] at hh
          rcases hh with hh | hh | hh
          · exact .inl ⟨t, g5 b o hh⟩
          · exact .inl ⟨t, g4 b o hh⟩
          · exact .inr (l1 b o hh)
        · rw [upd_ne _ _ _ e] at hh; exact .inl ⟨t, hh⟩
      · exact .inr (l2 b o hh)
end
end Go.Eng
/- The engine, part J: the relation: operations, code, functions; what each comes to. -/
namespace Go.Eng
open Go
set_option linter.unusedVariables false
set_option linter.unusedSimpArgs false

mutual
def hard : AV → AV
  | .ow _ _ n cs => .im n (hardL cs)
  | .op cs => .ip (hardL cs)
  | .ag cs => .ag (hardL cs)
  | .tu cs => .tu (hardL cs)
  | .vw _ _ _ _ => .dead
  | .ad _ _ _ => .dead
  | .sc v => .sc v
  | .nl => .nl
  | .im n cs => .im n cs
  | .ip cs => .ip cs
  | .dead => .dead
def hardL : List AV → List AV
  | [] => []
  | c :: cs => hard c :: hardL cs
end
/-- A copy that is only read, of what a reference leads to. -/
inductive Frz (σ : Nat → AV) : AV → AV → Prop
  | plain (a) (h : isPl a = true) : Frz σ a a
  | vw (r off n e sz m : Nat) (p : List Nat) (cs : List AV) (hn : getN p (σ r) = some (.ow e sz m cs)) (hl : off + n * sz ≤ cs.length) : Frz σ (.vw r p off n) (.im n (hardL ((cs.drop off).take (n * sz))))
  | ad (r i : Nat) (p : List Nat) (cs : List AV) (hn : nodeCells σ r p = some cs) : Frz σ (.ad r p i) (.ip (hardL (cs.drop i)))
/-- Several, structs among them. -/
inductive FrzL (σ : Nat → AV) : List AV → List AV → Prop
  | nil : FrzL σ [] []
  | cons {a b : AV} {as bs : List AV} (h : Frz σ a b) (k : FrzL σ as bs) : FrzL σ (a :: as) (b :: bs)
  | ag {cs ds as bs : List AV} (h : FrzL σ cs ds) (k : FrzL σ as bs) : FrzL σ (.ag cs :: as) (.ag ds :: bs)

/-! No part that is only read. -/
mutual
def noIm : AV → Bool
  | .im _ cs => cs.isEmpty
  | .ip _ => false
  | .ow _ _ _ cs => noImL cs
  | .op cs => noImL cs
  | .ag cs => noImL cs
  | .tu cs => noImL cs
  | _ => true
def noImL : List AV → Bool
  | [] => true
  | c :: cs => noIm c && noImL cs
end
/-! No reference at the top, or in a struct. -/
mutual
def noRf : AV → Bool
  | .vw _ _ _ _ => false
  | .ad _ _ _ => false
  | .ag cs => noRfL cs
  | .tu cs => noRfL cs
  | _ => true
def noRfL : List AV → Bool
  | [] => true
  | c :: cs => noRf c && noRfL cs
end

/-- What is handed over whole is taken out of its place. -/
inductive TakeF : (Nat → AV) → List AV → List AV → (Nat → AV) → Prop
  | nil (σ) : TakeF σ [] [] σ
  | plain {σ σ' : Nat → AV} {a : AV} {as ts : List AV} (h : isPl a = true) (k : TakeF σ as ts σ') : TakeF σ (a :: as) (a :: ts) σ'
  | vw {σ σ' : Nat → AV} {r n e sz : Nat} {p : List Nat} {cs as ts : List AV} (hn : getN p (σ r) = some (.ow e sz n cs)) (hl : cs.length = n * sz) (k : TakeF (setS σ r p .dead) as ts σ') : TakeF σ (.vw r p 0 n :: as) (.ow e sz n cs :: ts) σ'
  | ad {σ σ' : Nat → AV} {r : Nat} {p : List Nat} {cs as ts : List AV} (hn : getN p (σ r) = some (.op cs)) (k : TakeF (setS σ r p .dead) as ts σ') : TakeF σ (.ad r p 0 :: as) (.op cs :: ts) σ'
  | ag {σ σ1 σ' : Nat → AV} {cs ds as ts : List AV} (h : TakeF σ cs ds σ1) (k : TakeF σ1 as ts σ') : TakeF σ (.ag cs :: as) (.ag ds :: ts) σ'
theorem TakeF.takeL {σ σ' : Nat → AV} {as ts : List AV} (h : TakeF σ as ts σ') : TakeL σ as ts σ' := by
  induction h with
  | nil σ => exact .nil σ
  | plain h k ih => exact .plain h ih
  | vw hn hl k ih =>
    have := TakeL.vw hn (Nat.le_refl _) ih
    rwa [List.take_of_length_le (by omega)] at this
  | ad hn k ih => exact .ad hn ih
  | ag h k ih1 ih2 => exact .ag ih1 ih2
/-- What is handed over: own (true: it comes back turned), or only read. -/
inductive PassL (σe : Nat → AV) : (Nat → AV) → List Bool → List AV → List AV → (Nat → AV) → Prop
  | nil (σ) : PassL σe σ [] [] [] σ
  | own {σ σ1 σ2 : Nat → AV} {a t : AV} {ms : List Bool} {as ts : List AV} (h : TakeF σ [a] [t] σ1) (k : PassL σe σ1 ms as ts σ2) : PassL σe σ (true :: ms) (a :: as) (t :: ts) σ2
  | ro {σ σ2 : Nat → AV} {a b : AV} {ms : List Bool} {as ts : List AV} (h : FrzL σe [a] [b]) (k : PassL σe σ ms as ts σ2) : PassL σe σ (false :: ms) (a :: as) (b :: ts) σ2
  | own2 {σ σ2 : Nat → AV} {r i : Nat} {p : List Nat} {cs : List AV} {ms : List Bool} {as ts : List AV} (hn : getN p (σ r) = some (.op cs)) (k : PassL σe (setS σ r p .dead) ms as ts σ2) : PassL σe σ (true :: true :: ms) (.ad r p 0 :: .ad r p i :: as) (.op (cs.take i) :: .op (cs.drop i) :: ts) σ2
/-! The places that references name. -/
mutual
def refs : AV → List (Nat × List Nat)
  | .vw r p _ _ => [(r, p)]
  | .ad r p _ => [(r, p)]
  | .ag cs => refsL cs
  | .tu cs => refsL cs
  | _ => []
def refsL : List AV → List (Nat × List Nat)
  | [] => []
  | c :: cs => refs c ++ refsL cs
end
def owRefs : List Bool → List AV → List (Nat × List Nat)
  | true :: ms, a :: as => refs a ++ owRefs ms as
  | _ :: ms, _ :: as => owRefs ms as
  | _, _ => []
/-- It comes back. -/
def isU (r : Nat) (p : List Nat) : Nat → List Nat → Bool := fun r' q => r' == r && (p.isPrefixOf q && decide (p.length < q.length))
inductive BackL : (Nat → AV) → List Bool → List AV → List AV → (Nat → AV) → Prop
  | nil (σ) : BackL σ [] [] [] σ
  | skip {σ σ' : Nat → AV} {a t : AV} {m : Bool} {ms : List Bool} {as ts : List AV} (k : BackL σ ms as ts σ') : BackL σ (m :: ms) (a :: as) (t :: ts) σ'
  | vw {σ σ' : Nat → AV} {r n : Nat} {p : List Nat} {t : AV} {ms : List Bool} {as ts : List AV} (hn : getN p (σ r) = some .dead) (k : BackL (modS σ r p (isU r p) t) ms as ts σ') : BackL σ (true :: ms) (.vw r p 0 n :: as) (t :: ts) σ'
  | ad {σ σ' : Nat → AV} {r : Nat} {p : List Nat} {t : AV} {ms : List Bool} {as ts : List AV} (hn : getN p (σ r) = some .dead) (k : BackL (modS σ r p (isU r p) t) ms as ts σ') : BackL σ (true :: ms) (.ad r p 0 :: as) (t :: ts) σ'
  | ag {σ σ1 σ' : Nat → AV} {cs ds : List AV} {ms : List Bool} {as ts : List AV} (h : BackL σ (List.replicate cs.length true) cs ds σ1) (k : BackL σ1 ms as ts σ') : BackL σ (true :: ms) (.ag cs :: as) (.ag ds :: ts) σ'
  | ad2 {σ σ' : Nat → AV} {r i : Nat} {p : List Nat} {d1 d2 : List AV} {ms : List Bool} {as ts : List AV} (hn : getN p (σ r) = some .dead) (hi : d1.length = i) (k : BackL (modS σ r p (isU r p) (.op (d1 ++ d2))) ms as ts σ') : BackL σ (true :: true :: ms) (.ad r p 0 :: .ad r p i :: as) (.op d1 :: .op d2 :: ts) σ'

/-- No one of them lies in another. -/
def stab (S : List (Nat × List Nat)) : Bool := S.all fun x => S.all fun y => !(isU x.1 x.2 y.1 y.2)
inductive Ex where
  | normal
  | exit (id : Nat)
  | ret
  deriving DecidableEq
def Ex.toExit : Ex → Exit
  | .normal => .normal
  | .exit id => .exit id
  | .ret => .ret
def Ex.inB (id : Nat) : Ex → Ex
  | .exit j => if j = id then .normal else .exit j
  | e => e

def Drop (σ σ' : Nat → AV) : Prop := ∀ t, σ' t = .dead ∨ σ' t = σ t
def putD (σ : Nat → AV) (d : Option Nat) (av : AV) : Nat → AV :=
  match d with
  | some d => put σ d av
  | none => σ
/-- What a function begins with. -/
def enter (args : List AV) : Nat → AV := fun t => if t < HB then (if t < args.length then refT (HB + t) [] (args.getD t .dead) else .dead) else args.getD (t - HB) .dead
def fins (n : Nat) (σ : Nat → AV) : List AV := (List.range n).map fun i => σ (HB + i)
def resOf : List AV → AV
  | [r] => r
  | rs => .tu rs
/-- What is handed back. -/
inductive ResL (P : Program) (σ : Nat → AV) : List ResultVar → List AV → Prop
  | nil : ResL P σ [] []
  | tmp (t : Nat) {rs : List ResultVar} {as : List AV} (k : ResL P σ rs as) : ResL P σ (.tmp t :: rs) (ov σ (.tmp t) :: as)
  | cell (a : Nat) (t : TypeId) {c : AV} {rs : List ResultVar} {as : List AV} (h : LD P σ t (ov σ (.tmp a)) c) (k : ResL P σ rs as) : ResL P σ (.cell a t :: rs) (c :: as)
def codeOk (N : Nat) : Code → Bool
  | .region _ ops _ => ops.toList.all fun o => match o.dst with | some d => decide (d < N) | none => true
  | .seq a b => codeOk N a && codeOk N b
  | .cond _ a b => codeOk N a && codeOk N b
  | .block _ a => codeOk N a
  | .loop a => codeOk N a
  | .scope a => codeOk N a
  | _ => true

/-- Drawn regions: who stands ahead of whom; what one may not look at; what one turns. -/
def dstOf (ops : Array Oper) (i : Nat) : Option Nat := (ops[i]?).bind (·.dst)
def ordd (anc : List (List Nat)) (i j : Nat) : Bool := decide (j = i) || ((anc.getD i []).contains j || (anc.getD j []).contains i)
/-- What an operation that is not quiet turns, beside where its result goes (if it may stand unordered). -/
def gTn : List (Nat × List Nat) → Nat → Option (List Nat)
  | [], _ => none
  | (k, T) :: g, i => bif Nat.beq k i then some T else gTn g i
def hides (ops : Array Oper) (anc : List (List Nat)) (i : Nat) : List Nat :=
  (List.range ops.size).filterMap fun j => if ordd anc i j then none else dstOf ops j
def hidesG (ops : Array Oper) (anc : List (List Nat)) (gen : List (Nat × List Nat)) (i : Nat) : List Nat :=
  (List.range ops.size).flatMap fun j => if ordd anc i j then [] else (dstOf ops j).toList ++ (gTn gen j).getD []
def gmix (ops : Array Oper) (anc : List (List Nat)) (gen : List (Nat × List Nat)) (i : Nat) : Bool :=
  (List.range ops.size).any fun j => !(ordd anc i j) && (gTn gen j).isSome
def maskR (M : List Nat) (σ : Nat → AV) : Nat → AV := fun t => if M.contains t then .dead else σ t
/-- What a result may not refer to. -/
def badD (d : Nat) (HD H : List Nat) (gm : Bool) (T : List Nat) : Nat → List Nat → Bool := fun r p => r == d || (HD.contains r || ((H.contains r || (gm && !(T.contains r))) && !p.isEmpty))
/-- What hidden registers, and what the others, may not refer to while one is at work that turns something. -/
def badC (D H : List Nat) : Nat → List Nat → Bool := fun r p => D.contains r || (!(H.contains r) && !p.isEmpty)
def badE (H : List Nat) : Nat → List Nat → Bool := fun r p => H.contains r && !p.isEmpty
/-- One is put over the other at some registers. -/
def over (W : List Nat) (ρ σ : Nat → AV) : Nat → AV := fun t => if W.contains t then ρ t else σ t
def apartL (A B : List Nat) : Bool := A.all fun x => !(B.contains x)
def drawOk (ops : Array Oper) (anc : List (List Nat)) (quiet : List Nat) (gen : List (Nat × List Nat)) : Bool :=
  (List.range ops.size).all fun i =>
    (((ops[i]?).map fun o => o.after.toList.all fun e => !(Region.binds .any e) || decide (e.on < i)).getD true) &&
    ((anc.getD i []).all fun j => decide (j < i) && ((ops[i]?).map fun o => o.after.toList.any fun e => Region.binds .any e && (e.on == j || (anc.getD e.on []).contains j)).getD false) &&
    (List.range i).all fun j => (anc.getD i []).contains j || ((quiet.contains i || (gTn gen i).isSome) && (quiet.contains j || (gTn gen j).isSome) && apartL ((dstOf ops i).toList ++ (gTn gen i).getD []) ((dstOf ops j).toList ++ (gTn gen j).getD []))
def freeOf (σ : Nat → AV) (d : Nat) : Prop := ∀ t, mask (isR d) (σ t) = σ t

inductive Job where
  | qe (o : Oper) (σ : Nat → AV) (av : AV)
  | op (o : Oper) (σ σ' : Nat → AV)
  | ops (all : Array Oper) (l : List Oper) (σ σ' : Nat → AV)
  | drawn (all : Array Oper) (anc : List (List Nat)) (quiet : List Nat) (gen : List (Nat × List Nat)) (l : List Nat) (σ σ' : Nat → AV)
  | code (c : Code) (σ : Nat → AV) (ex : Ex) (σ' : Nat → AV)
  | fn (f : FuncId) (args : List AV) (res : AV) (fin : List AV)

/-- May an operation go on? (some true), or is it passed over (some false). -/
def goes (all : Array Oper) (σ : Nat → AV) (o : Oper) : Option Bool :=
  match o.guard with
  | none => some true
  | some (j, want) => match dstOf all j with
    | some d => bif Nat.blt d HB then (match σ d with | .sc (.bool b) => some (b == want) | .tu [] => some false | _ => none) else none
    | none => none

def isPlA : AV → Bool
  | .ag cs => cs.all isPl
  | a => isPl a
/-- Cells that may be copied. -/
inductive Cpy (σ : Nat → AV) : AV → Nat → List AV → Prop
  | im (m : Nat) (cs : List AV) : Cpy σ (.im m cs) m cs
  | vw (r off m e sz k : Nat) (p : List Nat) (cs : List AV) (hn : getN p (σ r) = some (.ow e sz k cs)) (hl : off + m * sz ≤ cs.length) (hp : ((cs.drop off).take (m * sz)).all isPl = true) : Cpy σ (.vw r p off m) m ((cs.drop off).take (m * sz))
/-- What stands ahead of what is appended. -/
inductive Base (e sz : Nat) : AV → Nat → List AV → Prop
  | nl : Base e sz .nl 0 []
  | ow (n : Nat) (cs : List AV) : Base e sz (.ow e sz n cs) n cs
def roPl : List Bool → List AV → Bool
  | false :: ms, a :: as => isPlA a && roPl ms as
  | _ :: ms, _ :: as => roPl ms as
  | _, _ => true
def owNo : List Bool → List AV → Bool
  | true :: ms, t :: ts => noIm t && owNo ms ts
  | _ :: ms, _ :: ts => owNo ms ts
  | _, _ => true
/-- What may stand in for an empty slice. -/
inductive CastN : AV → Prop
  | im : CastN (.im 0 [])
  | ow (e sz : Nat) (h : 0 < sz) : CastN (.ow e sz 0 [])
def isOw : AV → Bool
  | .ow .. | .op _ => true
  | _ => false

/-- A struct that came in is laid into a variable: its own parts go there; where it came in refers to them, so that they go home when the function ends. -/
inductive HomeL (r d : Nat) : Nat → List AV → List AV → List AV → Prop
  | nil (i : Nat) : HomeL r d i [] [] []
  | vw {i n e sz : Nat} {cs as bs hs : List AV} (k : HomeL r d (i + 1) as bs hs) : HomeL r d i (.vw r [i] 0 n :: as) (.ow e sz n cs :: bs) (.vw d [i] 0 n :: hs)
  | pl {i : Nat} {a b : AV} {as bs hs : List AV} (h : isPl b = true) (k : HomeL r d (i + 1) as bs hs) : HomeL r d i (a :: as) (b :: bs) (b :: hs)
/-- Of what is only read behind a pointer, more is told than is asked. -/
inductive CutL : List AV → List AV → Prop
  | nil : CutL [] []
  | same (a : AV) {as bs : List AV} (k : CutL as bs) : CutL (a :: as) (a :: bs)
  | cut (cs rest : List AV) {as bs : List AV} (k : CutL as bs) : CutL (.ip cs :: as) (.ip (cs ++ rest) :: bs)
/-- What came in, as references. -/
def finR (n : Nat) (σ : Nat → AV) : List AV := (List.range n).map fun i => refT (HB + i) [] (σ (HB + i))

inductive Ev (P : Program) (X : FuncId → List AV → AV → List AV → Prop) : Job → Prop
  | qo {o : Oper} {σ : Nat → AV} {av : AV} (h : QO P σ o.op av) : Ev P X (.qe o σ av)
  | qcall {o : Oper} {σ : Nat → AV} {f : FuncId} {xs : Array Operand} {ts : Array TypeId} {args fin : List AV} {res : AV} (ho : o.op = .call { callee := .value (.func f), args := xs, argTypes := ts })
      (ha : FrzL σ (xs.toList.map (ov σ)) args) (hf : Ev P X (.fn f args res fin)) (hn : noIm res = true ∨ (xs.toList.map (ov σ)).all isPlA = true) : Ev P X (.qe o σ res)
  | quiet {o : Oper} {σ : Nat → AV} {av : AV} (h : Ev P X (.qe o σ av)) : Ev P X (.op o σ (putD σ o.dst av))
  | take {o : Oper} {σ σ1 : Nat → AV} {x : Operand} {t : AV} {d : Nat} (ho : o.op = .move x ∨ o.op = .assign x) (hd : o.dst = some d) (h : TakeL σ [ov σ x] [t] σ1) : Ev P X (.op o σ (put σ1 d t))
  | store {o : Oper} {σ σ1 σ2 : Nat → AV} {t : TypeId} {x y : Operand} {r i : Nat} {p : List Nat} {tr : AV} {vs : List AV} (ho : o.op = .store t x y) (hx : ov σ x = .ad r p i) (hr : (nodeCells σ1 r p).isSome = true) (h : TakeL σ [ov σ y] [tr] σ1) (hv : acells tr = some vs) (hs : szT P t = some vs.length) (hS : StoreL σ1 r p i vs σ2) : Ev P X (.op o σ (putD σ2 o.dst .dead))
  | box {o : Oper} {σ σ1 : Nat → AV} {e : TypeId} {x : Operand} {t : AV} {cs : List AV} {d : Nat} (ho : o.op = .box e x) (hd : o.dst = some d) (h : TakeL σ [ov σ x] [t] σ1) (hc : acells t = some cs) : Ev P X (.op o σ (put σ1 d (.op cs)))
  | boxH {o : Oper} {σ σ1 : Nat → AV} {e : TypeId} {t r d : Nat} {as bs bs1 cs hs : List AV} (ho : o.op = .box e (.tmp t)) (hd : o.dst = some d) (hr : HB ≤ r) (ha : ov σ (.tmp t) = .ag as) (hb : σ r = .ag bs) (hh : HomeL r d 0 as bs hs) (h : TakeL σ [.ag as] [.ag cs] σ1) (h1 : σ1 r = .ag bs1) (hl : bs1.length = bs.length) (hc : cs.length = bs.length) : Ev P X (.op o σ (upd (put σ1 d (.op cs)) r (.ag hs)))
  | buildS {o : Oper} {σ σ1 : Nat → AV} {t e sz len : Nat} {parts : Array (Nat × Operand)} {us cs : List AV} {z : Value} {d : Nat} (ho : o.op = .buildSlice t len parts) (hd : o.dst = some d) (ht : P.underlying t = some (.slice e)) (hs : szT P e = some sz) (hz : zeroT P e = some z) (hzs : z.cells.size = sz) (h0 : 0 < sz) (hl : len * sz ≤ 16777216) (h1 : z.cells.toList.all (·.oneCell') = true)
      (h : TakeL σ (parts.toList.map fun x => ov σ x.2) us σ1) (hf : fillA (fun i => some (i * sz, sz)) ((madeCells z.cells (len * sz)).toList.map c1) ((parts.toList.map (·.1)).zip us) = some cs) : Ev P X (.op o σ (put σ1 d (.ow e sz len cs)))
  | appendC {o : Oper} {σ σ1 : Nat → AV} {t e sz by_ n m : Nat} {s x : Operand} {b : AV} {cs L : List AV} {z : Value} {d : Nat} (ho : o.op = .call { callee := .builtin .append, args := #[s, x], argTypes := #[t, t] }) (hd : o.dst = some d) (ht : P.underlying t = some (.slice e)) (hs : szT P e = some sz) (hb : bytesT P e = some by_) (hz : zeroT P e = some z) (hzs : z.cells.size = sz) (h0 : 0 < sz)
      (h : TakeL σ [ov σ s] [b] σ1) (hB : Base e sz b n cs) (hc : Cpy σ (ov σ x) m L) (hL : L.length = m * sz) (h63 : n + m ≤ maxLen) (hby : (n + m) * by_ ≤ 140737488355328) : Ev P X (.op o σ (put σ1 d (.ow e sz (n + m) (cs ++ L))))
  | appendZ {o : Oper} {σ σ1 : Nat → AV} {t tn e sz by_ n m : Nat} {s x : Operand} {b : AV} {cs : List AV} {z : Value} {k kn : IntKind} {d : Nat} (ho : o.op = .call { callee := .builtin .append, args := #[s, x], argTypes := #[t, tn] }) (hd : o.dst = some d) (ht : P.underlying t = some (.slice e)) (htn : P.underlying tn = some (.int kn)) (hs : szT P e = some sz) (hb : bytesT P e = some by_) (hz : zeroT P e = some z) (hzs : z.cells.size = sz) (h0 : 0 < sz) (h1 : z.cells.toList.all (·.oneCell') = true)
      (h : TakeL σ [ov σ s] [b] σ1) (hB : Base e sz b n cs) (hx : ov σ x = .sc (.int k m)) (h63 : n + m ≤ maxLen) (hby : (n + m) * by_ ≤ 140737488355328) : Ev P X (.op o σ (put σ1 d (.ow e sz (n + m) (cs ++ (Builtin.zeroCells z.cells m).toList.map c1))))
  | appendN {o : Oper} {σ σ1 : Nat → AV} {t e : Nat} {s x : Operand} {b : AV} {d sz : Nat} (ho : o.op = .call { callee := .builtin .append, args := #[s, x], argTypes := #[t, t] }) (hd : o.dst = some d) (ht : P.underlying t = some (.slice e)) (hs : szT P e = some sz)
      (h : TakeL σ [ov σ s] [b] σ1) (hB : b = .nl ∨ ∃ n cs, b = .ow e sz n cs) (hc : ov σ x = .nl) : Ev P X (.op o σ (put σ1 d b))
  | appendM {o : Oper} {σ σ1 σ2 : Nat → AV} {t e sz by_ n m : Nat} {s x : Operand} {b : AV} {cs L : List AV} {z : Value} {d : Nat} (ho : o.op = .call { callee := .builtin .append, args := #[s, x], argTypes := #[t, t] }) (hd : o.dst = some d) (ht : P.underlying t = some (.slice e)) (hs : szT P e = some sz) (hb : bytesT P e = some by_) (hz : zeroT P e = some z) (hzs : z.cells.size = sz) (h0 : 0 < sz)
      (h : TakeL σ [ov σ s, ov σ x] [b, .ow e sz m L] σ1) (hB : Base e sz b n cs) (h63 : n + m ≤ maxLen) (hby : (n + m) * by_ ≤ 140737488355328) : Ev P X (.op o σ (put σ1 d (.ow e sz (n + m) (cs ++ L))))
  | call {o : Oper} {σ σ1 σ2 : Nat → AV} {f : FuncId} {xs : Array Operand} {ts : Array TypeId} {ms : List Bool} {args fin : List AV} {res : AV} (ho : o.op = .call { callee := .value (.func f), args := xs, argTypes := ts })
      (hp : PassL σ1 σ ms (xs.toList.map (ov σ)) args σ1) (hf : Ev P X (.fn f args res fin)) (hn : (noIm res = true ∧ owNo ms fin = true) ∨ roPl ms (xs.toList.map (ov σ)) = true) (hs : stab (owRefs ms (xs.toList.map (ov σ))) = true) (hb : BackL σ1 ms (xs.toList.map (ov σ)) fin σ2) : Ev P X (.op o σ (putD σ2 o.dst res))
  | opsNil (all : Array Oper) (σ : Nat → AV) : Ev P X (.ops all [] σ σ)
  | opsCons {all : Array Oper} {o : Oper} {l : List Oper} {σ σ1 σ2 : Nat → AV} (hg : goes all σ o = some true) (h : Ev P X (.op o σ σ1)) (k : Ev P X (.ops all l σ1 σ2)) : Ev P X (.ops all (o :: l) σ σ2)
  | opsSkip {all : Array Oper} {o : Oper} {l : List Oper} {σ σ2 : Nat → AV} (hg : goes all σ o = some false) (k : Ev P X (.ops all l (putD σ o.dst (.tu [])) σ2)) : Ev P X (.ops all (o :: l) σ σ2)
  | opsDrop {all : Array Oper} {l : List Oper} {σ σ1 σ2 : Nat → AV} (hd : Drop σ σ1) (k : Ev P X (.ops all l σ1 σ2)) : Ev P X (.ops all l σ σ2)
  | opsHard {all : Array Oper} {l : List Oper} {σ σ2 : Nat → AV} {r : Nat} {p : List Nat} {x : AV} (hn : getN p (σ r) = some x) (hx : isOw x = true) (k : Ev P X (.ops all l (setS σ r p (hard x)) σ2)) : Ev P X (.ops all l σ σ2)
  | opsCast {all : Array Oper} {l : List Oper} {σ σ2 : Nat → AV} {r : Nat} {p : List Nat} {x : AV} (hn : getN p (σ r) = some .nl) (hx : CastN x) (k : Ev P X (.ops all l (setS σ r p x) σ2)) : Ev P X (.ops all l σ σ2)
  | drNil (all : Array Oper) (anc : List (List Nat)) (quiet : List Nat) (gen : List (Nat × List Nat)) (σ : Nat → AV) : Ev P X (.drawn all anc quiet gen [] σ σ)
  | drQuiet {all : Array Oper} {anc : List (List Nat)} {quiet : List Nat} {gen : List (Nat × List Nat)} {i d : Nat} {l : List Nat} {o : Oper} {σ σ2 : Nat → AV} {av : AV} (hi : all[i]? = some o) (hq : quiet.contains i = true) (hq2 : gTn gen i = none) (hd : o.dst = some d) (hg : goes all (maskR (hidesG all anc gen i) σ) o = some true) (h : Ev P X (.qe o (maskR (hidesG all anc gen i) σ) av))
      (h1 : σ d = .dead) (h2 : freeOf σ d) (h3 : mask (badD d (hides all anc i) (hidesG all anc gen i) (gmix all anc gen i) []) av = av) (k : Ev P X (.drawn all anc quiet gen l (upd σ d av) σ2)) : Ev P X (.drawn all anc quiet gen (i :: l) σ σ2)
  | drQuietN {all : Array Oper} {anc : List (List Nat)} {quiet : List Nat} {gen : List (Nat × List Nat)} {i : Nat} {l : List Nat} {o : Oper} {σ σ2 : Nat → AV} {av : AV} (hi : all[i]? = some o) (hq : quiet.contains i = true) (hq2 : gTn gen i = none) (hd : o.dst = none) (hg : goes all (maskR (hidesG all anc gen i) σ) o = some true) (h : Ev P X (.qe o (maskR (hidesG all anc gen i) σ) av))
      (k : Ev P X (.drawn all anc quiet gen l σ σ2)) : Ev P X (.drawn all anc quiet gen (i :: l) σ σ2)
  | drSkip {all : Array Oper} {anc : List (List Nat)} {quiet : List Nat} {gen : List (Nat × List Nat)} {i d : Nat} {l : List Nat} {o : Oper} {σ σ2 : Nat → AV} (hi : all[i]? = some o) (hq : quiet.contains i = true) (hq2 : gTn gen i = none) (hd : o.dst = some d) (hg : goes all (maskR (hidesG all anc gen i) σ) o = some false)
      (h1 : σ d = .dead) (h2 : freeOf σ d) (k : Ev P X (.drawn all anc quiet gen l (upd σ d (.tu [])) σ2)) : Ev P X (.drawn all anc quiet gen (i :: l) σ σ2)
  | drGen {all : Array Oper} {anc : List (List Nat)} {quiet : List Nat} {gen : List (Nat × List Nat)} {i : Nat} {l T : List Nat} {o : Oper} {σ τ' σ2 : Nat → AV} (hi : all[i]? = some o) (hq : quiet.contains i = false) (hT : gTn gen i = some T) (h : Ev P X (.ops all [o] (maskR (hidesG all anc gen i) σ) τ'))
      (hb : ∀ t, (o.dst.toList ++ T).contains t = false → τ' t = maskR (hidesG all anc gen i) σ t)
      (hd : ∀ d, o.dst = some d → σ d = .dead ∧ freeOf σ d ∧ mask (badD d (hides all anc i) (hidesG all anc gen i) (gmix all anc gen i) T) (τ' d) = τ' d)
      (ht : ∀ t ∈ T, noRf (σ t) = true ∧ noRf (τ' t) = true)
      (hc : ∀ t, ((hidesG all anc gen i).contains t = true → mask (badC o.dst.toList (hidesG all anc gen i)) (σ t) = σ t) ∧ ((hidesG all anc gen i).contains t = false → mask (badE (hidesG all anc gen i)) (σ t) = σ t))
      (k : Ev P X (.drawn all anc quiet gen l (over (o.dst.toList ++ T) τ' σ) σ2)) : Ev P X (.drawn all anc quiet gen (i :: l) σ σ2)
  | drMut {all : Array Oper} {anc : List (List Nat)} {quiet : List Nat} {gen : List (Nat × List Nat)} {i : Nat} {l : List Nat} {o : Oper} {σ σ1 σ2 : Nat → AV} (hi : all[i]? = some o) (hq : quiet.contains i = false) (hq2 : gTn gen i = none) (h : Ev P X (.ops all [o] σ σ1)) (k : Ev P X (.drawn all anc quiet gen l σ1 σ2)) : Ev P X (.drawn all anc quiet gen (i :: l) σ σ2)
  | skip (σ : Nat → AV) : Ev P X (.code .skip σ .normal σ)
  | region {id : Nat} {ops : Array Oper} {σ σ' : Nat → AV} (h : Ev P X (.ops ops ops.toList σ σ')) : Ev P X (.code (.region id ops false) σ .normal σ')
  | regionD {id : Nat} {ops : Array Oper} {anc : List (List Nat)} {quiet : List Nat} {gen : List (Nat × List Nat)} {σ σ' : Nat → AV} (ho : drawOk ops anc quiet gen = true) (h : Ev P X (.drawn ops anc quiet gen (List.range ops.size) σ σ')) : Ev P X (.code (.region id ops true) σ .normal σ')
  | seqN {a b : Code} {σ σ1 σ2 : Nat → AV} {ex : Ex} (h : Ev P X (.code a σ .normal σ1)) (k : Ev P X (.code b σ1 ex σ2)) : Ev P X (.code (.seq a b) σ ex σ2)
  | seqX {a b : Code} {σ σ1 : Nat → AV} {ex : Ex} (h : Ev P X (.code a σ ex σ1)) (hx : ex ≠ .normal) : Ev P X (.code (.seq a b) σ ex σ1)
  | cond {c : Operand} {a b : Code} {σ σ1 : Nat → AV} {ex : Ex} {t : Bool} (hc : ov σ c = .sc (.bool t)) (h : Ev P X (.code (bif t then a else b) σ ex σ1)) : Ev P X (.code (.cond c a b) σ ex σ1)
  | block {id : Nat} {a : Code} {σ σ1 : Nat → AV} {ex : Ex} (h : Ev P X (.code a σ ex σ1)) : Ev P X (.code (.block id a) σ (ex.inB id) σ1)
  | loopN {a : Code} {σ σ1 σ2 : Nat → AV} {ex : Ex} (h : Ev P X (.code a σ .normal σ1)) (k : Ev P X (.code (.loop a) σ1 ex σ2)) : Ev P X (.code (.loop a) σ ex σ2)
  | loopX {a : Code} {σ σ1 : Nat → AV} {ex : Ex} (h : Ev P X (.code a σ ex σ1)) (hx : ex ≠ .normal) : Ev P X (.code (.loop a) σ ex σ1)
  | exit (id : Nat) (σ : Nat → AV) : Ev P X (.code (.exit id) σ (.exit id) σ)
  | ret (σ : Nat → AV) : Ev P X (.code .ret σ .ret σ)
  | drop {c : Code} {σ σ1 σ2 : Nat → AV} {ex : Ex} (hd : Drop σ σ1) (k : Ev P X (.code c σ1 ex σ2)) : Ev P X (.code c σ ex σ2)
  | dropP {c : Code} {σ σ1 σ2 : Nat → AV} {ex : Ex} (k : Ev P X (.code c σ ex σ1)) (hd : Drop σ1 σ2) : Ev P X (.code c σ ex σ2)
  | hard {c : Code} {σ σ2 : Nat → AV} {ex : Ex} {r : Nat} {p : List Nat} {x : AV} (hn : getN p (σ r) = some x) (hx : isOw x = true) (k : Ev P X (.code c (setS σ r p (hard x)) ex σ2)) : Ev P X (.code c σ ex σ2)
  | cast {c : Code} {σ σ2 : Nat → AV} {ex : Ex} {r : Nat} {p : List Nat} {x : AV} (hn : getN p (σ r) = some .nl) (hx : CastN x) (k : Ev P X (.code c (setS σ r p x) ex σ2)) : Ev P X (.code c σ ex σ2)
  | fn {f : FuncId} {F : Func} {c : Code} {args rs as : List AV} {σ1 σ2 : Nat → AV} {ex : Ex} (hF : P.funcs[f]? = some F) (hc : F.body = some c) (hnm : (F.name == "runtime.NumGoroutine") = false) (hN : F.ntmps ≤ HB) (hA : args.length ≤ F.ntmps) (hK : codeOk F.ntmps c = true) (h : Ev P X (.code c (enter args) ex σ1)) (hx : ex = .normal ∨ ex = .ret)
      (hr : ResL P σ1 F.results.toList as) (hT : TakeL σ1 as rs σ2) (hf : (fins args.length σ2).all noRf = true) : Ev P X (.fn f args (resOf rs) (fins args.length σ2))
  | fnT {f : FuncId} {F : Func} {c : Code} {args rs as fin : List AV} {σ1 σ2 : Nat → AV} {ex : Ex} (hF : P.funcs[f]? = some F) (hc : F.body = some c) (hnm : (F.name == "runtime.NumGoroutine") = false) (hN : F.ntmps ≤ HB) (hA : args.length ≤ F.ntmps) (hK : codeOk F.ntmps c = true) (h : Ev P X (.code c (enter args) ex σ1)) (hx : ex = .normal ∨ ex = .ret)
      (hr : ResL P σ1 F.results.toList as) (hl : rs.length = as.length) (hT : TakeL σ1 (as ++ finR args.length σ1) (rs ++ fin) σ2) : Ev P X (.fn f args (resOf rs) fin)
  | fnDead {f : FuncId} {args fin fin' : List AV} {res : AV} (h : Ev P X (.fn f args res fin)) (hd : fin.length = fin'.length ∧ ∀ i : Nat, fin'[i]? = fin[i]? ∨ fin'[i]? = some AV.dead) : Ev P X (.fn f args res fin')
  | fnArg {f : FuncId} {args args' fin : List AV} {res : AV} (h : Ev P X (.fn f args res fin)) (hl : CutL args args') : Ev P X (.fn f args' res fin)
  | ext {f : FuncId} {args fin : List AV} {res : AV} (h : X f args res fin) : Ev P X (.fn f args res fin)
end Go.Eng

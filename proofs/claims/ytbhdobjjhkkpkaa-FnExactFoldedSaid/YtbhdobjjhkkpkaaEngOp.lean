/- What is read as data (an argument of a law) is a tree that is only read. It holds of any program; no condition beyond what each statement names. -/
import Derived.Test.YtbhdobjjhkkpkaaEngB3
import Derived.ChangeArms
import Derived.ProofKit
import Derived.Below
namespace Go.Eng
open Go Go.RowKit
set_option linter.unusedVariables false
set_option linter.unusedSimpArgs false
/-- All that is there. -/
def AllF (w : World) : Foot := fun b _ => b < w.heap.size
/-- What is read as data of the type t is a tree f y, and q holds of y. -/
def OpA (P : Program) (t : TypeId) {α : Type} (f : α → List AV) (q : α → Prop) : Prop :=
  ∀ (H : Type) (enc : TypeId × Value → H) (w : World) (fuel : Nat) (cs : List Value) (x : DataW H × List MemPlace), DataW.trod enc P w 0 (fun _ => true) true fuel t cs = some x → ∃ y : α, Reps w (AllF w) KF (f y) noF cs ∧ (∀ u ∈ cs, u.oneCell' = true) ∧ q y
theorem Reps.one1 {w : World} {Sh : Foot} {a : AV} {v : Value} (h : Rep w Sh KF a noF v) : Reps w Sh KF [a] noF [v] := by
  simp only [Reps]
  exact ⟨v, [], noF, noF, rfl, h, rfl, Disj.no _, Le.refl _, Le.refl _⟩
theorem Or_noF : Or noF noF = noF := by funext b o; simp [Or, noF]
theorem Reps.app0 {w : World} {Sh : Foot} {cs ds : List AV} {xs ys : List Value} (h : Reps w Sh KF cs noF xs) (k : Reps w Sh KF ds noF ys) : Reps w Sh KF (cs ++ ds) noF (xs ++ ys) := by
  have := Reps.append h k (Disj.no _)
  rwa [Or_noF] at this
theorem OpA.int {P : Program} {t : TypeId} {k : IntKind} (ht : P.underlying t = some (.int k)) : OpA P t (fun n : Int => [.sc (.int k n)]) (fun n => (Lit.int k n).wf = true) := by
  intro H enc w fuel cs x h
  obtain ⟨n, rfl, _, hw⟩ := DataW.trod_int ht h
  exact ⟨n, Reps.one1 (by simp only [Rep]; exact ⟨trivial, rfl⟩), by simp [Value.oneCell'], hw⟩
theorem OpA.bool {P : Program} {t : TypeId} (ht : P.underlying t = some .bool) : OpA P t eB (fun _ => True) := by
  intro H enc w fuel cs x h
  obtain ⟨n, rfl, _⟩ := DataW.trod_bool ht h
  exact ⟨n, Reps.one1 (by simp only [Rep]; exact ⟨trivial, rfl⟩), by simp [Value.oneCell'], trivial⟩
theorem OpA.as {P : Program} {t : TypeId} {α β : Type} {f : α → List AV} {q : α → Prop} (h : OpA P t f q) (f' : β → List AV) (g : α → β) (hg : ∀ a, f' (g a) = f a) (q' : β → Prop) (hq : ∀ a, q a → q' (g a)) : OpA P t f' q' := by
  intro H enc w fuel cs x hx
  obtain ⟨y, h1, h2, h3⟩ := h H enc w fuel cs x hx
  exact ⟨g y, by rw [hg]; exact h1, h2, hq y h3⟩
theorem rows_ex {α : Type} (Q : Nat → α → Prop) : ∀ n : Nat, (∀ i, i < n → ∃ y, Q i y) → ∃ l : List α, l.length = n ∧ ∀ i y, l[i]? = some y → Q i y := by
  intro n
  induction n with
  | zero => intro _; exact ⟨[], rfl, fun i y h => by simp at h⟩
  | succ n ih =>
    intro h
    obtain ⟨l, hl, hq⟩ := ih (fun i hi => h i (by omega))
    obtain ⟨y, hy⟩ := h n (by omega)
    refine ⟨l ++ [y], by simp [hl], fun i z hz => ?_⟩
    rcases Nat.lt_or_ge i n with hi | hi
    · rw [List.getElem?_append_left (by omega)] at hz
      exact hq i z hz
    · rw [List.getElem?_append_right (by omega)] at hz
      have : i = n := by
        have := (List.getElem?_eq_some_iff.1 hz).1
        simp at this; omega
      subst this
      rw [hl] at hz
      simp at hz
      subst hz; exact hy
theorem adr_add (a : Addr) (i j : Nat) : (a.add i).add j = a.add (i + j) := by
  unfold Addr.add
  by_cases hi : i = 0 <;> by_cases hj : j = 0 <;> simp [hi, hj, Nat.add_assoc]
theorem cell_blk {w : World} {a : Addr} {u : Value} (h : w.cell? a = some u) : a.block < w.heap.size := by
  rcases Nat.lt_or_ge a.block w.heap.size with hb | hb
  · exact hb
  · have : w.heap[a.block]? = none := Array.getElem?_eq_none hb
    simp [World.cell?, this] at h
theorem OpA.slice {P : Program} {t e : TypeId} {α : Type} {f : α → List AV} {q : α → Prop} {sz : Nat} [hW : Wid f sz] (ht : P.underlying t = some (.slice e)) (hs : P.cellsOf e = sz) (ho : OpA P e f q) :
    OpA P t (fun l : List α => [.im l.length (encL f l)]) (fun l => l.length ≤ 9223372036854775807 ∧ ∀ x ∈ l, q x) := by
  intro H enc w fuel cs x h
  rcases DataW.trod_slice ht h with ⟨rfl, _⟩ | ⟨a, len, cap, elems, rest, n, _, rfl, _, _, hl, hm, hlen, hel, _⟩
  · refine ⟨[], Reps.one1 ?_, by simp [Value.oneCell'], by simp, by simp⟩
    simp only [Rep]
    exact ⟨none, 0, [], rfl, Nat.le_refl _, fun h => absurd rfl h, by simp, by simp [encL, Reps]⟩
  · unfold maxLen at hm
    have each : ∀ i, i < len → ∃ p : α × List Value, q p.1 ∧ p.2.length = sz ∧ Reps w (AllF w) KF (f p.1) noF p.2 ∧ (∀ u ∈ p.2, u.oneCell' = true) ∧ ∀ j u, p.2[j]? = some u → w.cell? (a.add (i * sz + j)) = some u := by
      intro i hi
      have h1 := hel i hi
      rw [List.getElem?_eq_getElem (by omega)] at h1
      obtain ⟨c, hc, hy⟩ := Option.bind_eq_some_iff.1 h1
      obtain ⟨y, hk, h1c, hq⟩ := ho H enc w n c _ hy
      obtain ⟨_, hcl, hcc⟩ := World.cells?_some hc
      refine ⟨(y, c), hq, by rw [hcl, hs], hk, h1c, fun j u hu => ?_⟩
      have hj : j < c.length := (List.getElem?_eq_some_iff.1 hu).1
      have h2 := hcc j (by omega)
      rw [hs, adr_add] at h2
      rw [h2]; exact hu
    obtain ⟨l, hll, hlq⟩ := rows_ex (fun i (p : α × List Value) => q p.1 ∧ p.2.length = sz ∧ Reps w (AllF w) KF (f p.1) noF p.2 ∧ (∀ u ∈ p.2, u.oneCell' = true) ∧ ∀ j u, p.2[j]? = some u → w.cell? (a.add (i * sz + j)) = some u) len each
    have all : ∀ (l : List (α × List Value)) (o : Nat), (∀ i p, l[i]? = some p → q p.1 ∧ p.2.length = sz ∧ Reps w (AllF w) KF (f p.1) noF p.2 ∧ (∀ u ∈ p.2, u.oneCell' = true) ∧ ∀ j u, p.2[j]? = some u → w.cell? (a.add ((o + i) * sz + j)) = some u) →
        Reps w (AllF w) KF (encL f (l.map (·.1))) noF (l.map (·.2)).flatten ∧ (∀ u ∈ (l.map (·.2)).flatten, u.oneCell' = true) ∧ (∀ j u, (l.map (·.2)).flatten[j]? = some u → w.cell? (a.add (o * sz + j)) = some u) ∧ ∀ p ∈ l, q p.1 := by
      intro l
      induction l with
      | nil => intro o h; exact ⟨by simp [encL, Reps], by simp, by simp, by simp⟩
      | cons p l ih =>
        intro o h
        obtain ⟨g1, g2, g3, g4, g5⟩ := h 0 p rfl
        obtain ⟨k1, k2, k3, k4⟩ := ih (o + 1) (fun i p' hp => by
          have := h (i + 1) p' (by simpa using hp)
          rwa [show o + (i + 1) = o + 1 + i by omega] at this)
        simp only [List.map_cons, List.flatten_cons, encL_cons]
        refine ⟨Reps.app0 g3 k1, fun u hu => ?_, fun j u hu => ?_, fun p' hp => ?_⟩
        · rcases List.mem_append.1 hu with hu | hu
          · exact g4 u hu
          · exact k2 u hu
        · rcases Nat.lt_or_ge j p.2.length with hj | hj
          · rw [List.getElem?_append_left hj] at hu
            exact g5 j u hu
          · rw [List.getElem?_append_right hj] at hu
            have := k3 _ u hu
            rwa [show (o + 1) * sz + (j - p.2.length) = o * sz + j by rw [Nat.succ_mul]; omega] at this
        · rcases List.mem_cons.1 hp with rfl | hp
          · exact g1
          · exact k4 p' hp
    obtain ⟨k1, k2, k3, k4⟩ := all l 0 (fun i p hp => by
      have := hlq i p hp
      rwa [Nat.zero_add])
    refine ⟨l.map (·.1), Reps.one1 ?_, by simp [Value.oneCell'], by rw [List.length_map]; omega, fun y hy => ?_⟩
    · simp only [Rep]
      refine ⟨some a, cap, (List.map (fun p : α × List Value => p.2) l).flatten, by rw [List.length_map, hll], by rw [List.length_map]; omega, fun _ => ⟨a, rfl, fun j u hu => ?_⟩, k2, k1⟩
      have hc := k3 j u hu
      rw [Nat.zero_mul, Nat.zero_add] at hc
      refine ⟨hc, ?_⟩
      have hb := cell_blk hc
      rwa [add_block] at hb
    · obtain ⟨p, hp, rfl⟩ := List.mem_map.1 hy
      exact k4 p hp
/-- Some fields, one behind the other. -/
def OpF (P : Program) (fs : List Field) (off : Nat) {α : Type} (sz : Nat) (f : α → List AV) (q : α → Prop) : Prop :=
  ∀ (H : Type) (enc : TypeId × Value → H) (w : World) (n : Nat) (cs : List Value), cs.length = off + sz →
    (∀ (i : Nat) (fd : Field), fs[i]? = some fd → ∃ y, DataW.trod enc P w 0 (fun _ => true) true n fd.type ((cs.drop fd.offset).take (P.cellsOf fd.type)) = some y) → ∃ y : α, Reps w (AllF w) KF (f y) noF (cs.drop off) ∧ (∀ u ∈ cs.drop off, u.oneCell' = true) ∧ q y
theorem OpF.one {P : Program} {fd : Field} {off sz : Nat} {α : Type} {f : α → List AV} {q : α → Prop} (ho : fd.offset = off) (hs : P.cellsOf fd.type = sz) (h : OpA P fd.type f q) : OpF P [fd] off sz f q := by
  intro H enc w n cs hl hf
  obtain ⟨y, hy⟩ := hf 0 fd rfl
  rw [ho, hs, List.take_of_length_le (by simp; omega)] at hy
  exact h H enc w n _ _ hy
theorem OpF.cons {P : Program} {fd : Field} {fs : List Field} {off off' sz sz' : Nat} {α β : Type} {f : α → List AV} {f' : β → List AV} {q : α → Prop} {q' : β → Prop} (ho : fd.offset = off) (hs : P.cellsOf fd.type = sz) (h : OpA P fd.type f q)
    (hoff : off' = off + sz) (h' : OpF P fs off' sz' f' q') : OpF P (fd :: fs) off (sz + sz') (fun p : α × β => f p.1 ++ f' p.2) (fun p => q p.1 ∧ q' p.2) := by
  intro H enc w n cs hl hf
  subst hoff
  obtain ⟨y, hy⟩ := hf 0 fd rfl
  rw [ho, hs] at hy
  obtain ⟨z, hz, h1, hq⟩ := h H enc w n _ _ hy
  obtain ⟨z', hz', h1', hq'⟩ := h' H enc w n cs (by omega) (fun i g hg => hf (i + 1) g (by simpa using hg))
  have e : cs.drop off = (cs.drop off).take sz ++ cs.drop (off + sz) := by rw [← List.drop_drop, List.take_append_drop]
  refine ⟨(z, z'), by rw [e]; exact Reps.app0 hz hz', fun u hu => ?_, hq, hq'⟩
  rw [e] at hu
  rcases List.mem_append.1 hu with hu | hu
  · exact h1 u hu
  · exact h1' u hu
theorem OpA.struct {P : Program} {t : TypeId} {fs : Array Field} {α : Type} {sz : Nat} {f : α → List AV} {q : α → Prop} (ht : P.underlying t = some (.struct fs)) (hs : P.cellsOf t = sz) (h : OpF P fs.toList 0 sz f q) : OpA P t f q := by
  intro H enc w fuel cs x hx
  obtain ⟨xs, n, _, _, hl, hxl, hf⟩ := DataW.trod_struct ht hx
  obtain ⟨y, hy, h1, hq⟩ := h H enc w n cs (by omega) (fun i fd hi => by
    have hi' : fs[i]? = some fd := by simpa using hi
    have h1 := hf i fd hi'
    have hlt : i < fs.size := (Array.getElem?_eq_some_iff.1 hi').1
    rw [List.getElem?_eq_getElem (by omega)] at h1
    exact ⟨_, h1⟩)
  exact ⟨y, by simpa using hy, by simpa using h1, hq⟩
/-- What a law's walk comes to, where its arguments are only read. -/
theorem Ev.law {P : Program} {fn : FuncId} {args fin : List AV} {u : Value} (hm : P.follows .mixedOrders = true) (h : Ev P (fun _ _ _ _ => False) (.fn fn args (.sc u) fin)) {w : World} {vs : List Value} (hr : Reps w (AllF w) KF args noF vs) :
    Calls P fn vs.toArray w (fun e w' => e = .returned u ∧ Below w.heap.size w w') := by
  have hS : SFn P fn args (.sc u) fin := Ev.sound hm (fun _ _ _ _ h => h.elim) h
  refine (hS.2 w (AllF w) noF vs hr (Disj.no' _) (fun _ _ f => f.elim) (fun _ _ f => f)).mono fun e w' he => ?_
  obtain ⟨v, Sh', F', rfl, hR, hE, -⟩ := he
  simp only [Reps, List.cons_append] at hR
  obtain ⟨x, xs', F1, F2, hx, h1, -⟩ := hR
  simp only [Rep] at h1
  simp only [List.cons.injEq] at hx
  refine ⟨by rw [hx.1, h1.1], hE.keeps.os, hE.keeps.tape, hE.keeps.output, hE.keeps.size, fun b hb => hE.keeps.below hb⟩
end Go.Eng

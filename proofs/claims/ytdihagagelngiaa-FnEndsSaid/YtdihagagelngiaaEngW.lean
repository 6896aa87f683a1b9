/- The engine, part W: more rules: slices of slices that are built, appended, stored. -/
import Derived.Test.YtdihagagelngiaaEngU
namespace Go.Eng
open Go Go.RowKit
set_option linter.unusedVariables false
set_option linter.unusedSimpArgs false
def eV (a : AV) : List AV := [a]
instance : Wid eV 1 := ⟨fun _ => rfl⟩
theorem encL_eV : ∀ (l : List AV), encL eV l = l
  | [] => rfl
  | a :: l => by rw [encL_cons, encL_eV]; rfl
/-- What refers to a register is let go. -/
def clnE (r : Nat) : Env → Env
  | [] => []
  | (k, a) :: e => (k, bif nrA r a then a else .dead) :: clnE r e
theorem clnE_drop {r : Nat} : ∀ (e : Env), Drop (look e) (look (clnE r e))
  | [], t => .inl rfl
  | (k, a) :: e, t => by
    simp only [look, clnE]
    cases Nat.beq k t
    · simp only [cond_false]; exact clnE_drop e t
    · simp only [cond_true]
      cases nrA r a
      · exact .inl rfl
      · exact .inr rfl
section
variable {P : Program} {X : FuncId → List AV → AV → List AV → Prop} {all : Array Oper} {R : (Nat → AV) → Prop} {Q : Ex → (Nat → AV) → Prop}
variable {g : Option (Nat × Bool)} {env : Env} {d t : Nat} {l : List Oper} {ty : TypeId} {pos : String} {af : Array Edge} {α : Type} {f : α → List AV}
theorem WO.cln (r : Nat) (k : WO P X all l (look (clnE r env)) R) : WO P X all l (look env) R := .drop (clnE_drop env) k
theorem WC.cln {c : Code} (r : Nat) (k : WC P X c (look (clnE r env)) Q) : WC P X c (look env) Q := .drop (clnE_drop env) k
/-- A slice of one part, which is owned. -/
theorem WO.b1 {tx e by_ n e2 s2 : Nat} {z : Value} {zc cs2 : List AV} [hT : SlT P tx e 1] [hZ : ZrT P e by_ z zc] (hg : gg all (look env) g = some true) (ht : Nat.blt t HB = true) (hx : look env t = .ow e2 s2 n cs2) (hl : cs2.length = n * s2) (hz : Nat.beq zc.length 1 = true) (hn : nrE d env = true)
    (k : WO P X all l (look ((d, .ow e 1 1 [.ow e2 s2 n cs2]) :: (t, .dead) :: env)) R) : WO P X all (⟨some d, .buildSlice tx 1 #[(0, .tmp t)], ty, pos, af, g⟩ :: l) (look env) R := by
  have hsz := zr_size hZ hz
  have hf : fillA (fun i => some (i * 1, 1)) ((madeCells z.cells (1 * 1)).toList.map c1) [(0, .ow e2 s2 n cs2)] = some [.ow e2 s2 n cs2] := by
    have hlen : ((madeCells z.cells (1 * 1)).toList.map c1).length = 1 := by simp [madeCells]
    obtain ⟨y, hy⟩ := List.length_eq_one_iff.1 hlen
    rw [hy]
    simp [fillA, acells, splice]
  refine WO.op (σ1 := put (look ((t, .dead) :: env)) d (.ow e 1 1 [.ow e2 s2 n cs2])) (gg_goes hg) (.buildS (us := [.ow e2 s2 n cs2]) rfl rfl hT.ht hT.hs hZ.hz hsz hT.h0 (by omega) hZ.h1 (hx_tk ht hx hl) hf) ?_
  rw [put_look (by simp only [nrE, nrA, hn, Bool.and_self]) rfl]
  exact k
/-- What a register owns is put behind, and leaves it. -/
theorem WO.apM {x : Operand} {tx e sz by_ n m r : Nat} {z : Value} {cs L zc : List AV} [hT : SlT P tx e sz] [hZ : ZrT P e by_ z zc] (hg : gg all (look env) g = some true) (ht : Nat.blt t HB = true) (hs : look env t = .ow e sz n cs) (hl : cs.length = n * sz) (hx : ov (look env) x = .vw r [] 0 m) (hr : look env r = .ow e sz m L) (hL : L.length = m * sz) (htr : Nat.beq t r = false) (hz : Nat.beq zc.length sz = true) (h63 : n + m ≤ maxLen) (hby : (n + m) * by_ ≤ 140737488355328) (hn : nrE d env = true)
    (k : WO P X all l (look ((d, .ow e sz (n + m) (cs ++ L)) :: (r, .dead) :: (t, .dead) :: env)) R) : WO P X all (⟨some d, .call { callee := .builtin .append, args := #[.tmp t, x], argTypes := #[tx, tx] }, ty, pos, af, g⟩ :: l) (look env) R := by
  have hT2 : TakeL (look env) [ov (look env) (.tmp t), ov (look env) x] [.ow e sz n cs, .ow e sz m L] (look ((r, .dead) :: (t, .dead) :: env)) := by
    rw [hx]
    simp only [ov, ht, cond_true, hs, refT]
    have e1 : setS (look env) t [] .dead = look ((t, .dead) :: env) := by rw [← look_upd]; rfl
    have e2 : setS (look ((t, .dead) :: env)) r [] .dead = look ((r, .dead) :: (t, .dead) :: env) := by rw [← look_upd (e := (t, .dead) :: env)]; rfl
    have hr2 : look ((t, .dead) :: env) r = .ow e sz m L := by simp only [look, htr, cond_false]; exact hr
    have h2 := TakeL.vw (σ := look ((t, .dead) :: env)) (σ' := setS (look ((t, .dead) :: env)) r [] .dead) (r := r) (n := m) (p := []) (e := e) (sz := sz) (m := m) (cs := L) (as := []) (ts := []) (by simp [getN, hr2]) (Nat.le_refl _) (.nil _)
    rw [List.take_of_length_le (by omega), e2] at h2
    have h1 := TakeL.vw (σ := look env) (σ' := look ((r, .dead) :: (t, .dead) :: env)) (r := t) (n := n) (p := []) (e := e) (sz := sz) (m := n) (cs := cs) (by simp [getN, hs]) (Nat.le_refl _) (by rw [e1]; exact h2)
    rwa [List.take_of_length_le (by omega)] at h1
  refine WO.op (σ1 := put (look ((r, .dead) :: (t, .dead) :: env)) d (.ow e sz (n + m) (cs ++ L))) (gg_goes hg) (.appendM (σ2 := look env) (z := z) rfl rfl hT.ht hT.hs hZ.hb hZ.hz (zr_size hZ hz) hT.h0 hT2 (.ow n cs) h63 hby) ?_
  rw [put_look (by simp only [nrE, nrA, hn, Bool.and_self]) rfl]
  exact k
/-- A slice that is owned is stored into a cell of a slice. -/
theorem WO.stO {x : Operand} {tx r a e n m e2 s2 : Nat} {cs cs2 : List AV} [hT : OnT P tx] (hg : gg all (look env) g = some true) (hx : ov (look env) x = .ad r [] a) (ht : Nat.blt t HB = true) (hy : look env t = .ow e2 s2 m cs2) (hl : cs2.length = m * s2) (hr : look env r = .ow e 1 n cs) (hi : a < cs.length) (htr : Nat.beq t r = false) (hne : nbE r 0 env = true)
    (k : WO P X all l (look ((r, .ow e 1 n (cs.set a (.ow e2 s2 m cs2))) :: (t, .dead) :: env)) R) : WO P X all (⟨none, .store tx x (.tmp t), ty, pos, af, g⟩ :: l) (look env) R := by
  have hr2 : look ((t, .dead) :: env) r = .ow e 1 n cs := by simp only [look, htr, cond_false]; exact hr
  have hne2 : nbE r 0 ((t, .dead) :: env) = true := by simp only [nbE, nbA, hne, Bool.and_self]
  obtain ⟨e', h1, h2⟩ := StoreL.root (r := r) [.ow e2 s2 m cs2] (e := (t, .dead) :: env) (i := a) hne2 hr2 (.inl ⟨_, _, _, rfl⟩) (by simp; omega)
  refine WO.op (σ1 := putD (look e') none .dead) (gg_goes hg) (.store (σ1 := look ((t, .dead) :: env)) (vs := [.ow e2 s2 m cs2]) (tr := .ow e2 s2 m cs2) rfl hx ?_ (hx_tk ht hy hl) rfl hT.hs h1) ?_
  · simp only [nodeCells, getN, hr2]; rfl
  · show WO P X all l (look e') R
    rw [h2]; exact k
/-- A nil slice stands in for an empty one that is owned. -/
theorem WO.castO {r e sz : Nat} (h0 : 0 < sz) (hx : look env r = .nl) (k : WO P X all l (look ((r, .ow e sz 0 []) :: env)) R) : WO P X all l (look env) R := by
  obtain ⟨σ2, h1, h2⟩ := k
  refine ⟨σ2, .opsCast (r := r) (p := []) (x := .ow e sz 0 []) (by simp [getN, hx]) (.ow e sz h0) ?_, h2⟩
  have : setS (look env) r [] (.ow e sz 0 []) = look ((r, .ow e sz 0 []) :: env) := by rw [← look_upd]; rfl
  rw [this]; exact h1
theorem WC.castO {c : Code} {r e sz : Nat} (h0 : 0 < sz) (hx : look env r = .nl) (k : WC P X c (look ((r, .ow e sz 0 []) :: env)) Q) : WC P X c (look env) Q := by
  obtain ⟨ex, σ2, h1, h2⟩ := k
  refine ⟨ex, σ2, .cast (r := r) (p := []) (x := .ow e sz 0 []) (by simp [getN, hx]) (.ow e sz h0) ?_, h2⟩
  have : setS (look env) r [] (.ow e sz 0 []) = look ((r, .ow e sz 0 []) :: env) := by rw [← look_upd]; rfl
  rw [this]; exact h1
theorem frz1 {σ : Nat → AV} {r n e sz : Nat} {xs : List α} [hW : Wid f sz] [hP : Pl f] (h : σ r = .ow e sz n (encL f xs)) (hn : xs.length = n) : Frz σ (.vw r [] 0 n) (.im n (encL f xs)) := by
  subst hn
  have := Frz.vw (σ := σ) r 0 xs.length e sz xs.length [] (encL f xs) (by simp [getN, h]) (by rw [encL_length (sz := sz)]; omega)
  rwa [List.drop_zero, List.take_of_length_le (by rw [encL_length (sz := sz)]; exact Nat.le_refl _), hardL_pl (encL_pl xs)] at this
theorem hard_rows {e s : Nat} [hP : Pl f] : ∀ (xs : List (List α)), hardL (encL (eO e s f) xs) = encL (eR f) xs
  | [] => rfl
  | x :: xs => by
    rw [encL_cons, encL_cons]
    simp only [eO, eR, List.cons_append, List.nil_append, hardL, hard, hard_rows xs, hardL_pl (encL_pl x)]
theorem frz2 {σ : Nat → AV} {r n e e2 s2 : Nat} {xs : List (List α)} [hP : Pl f] (h : σ r = .ow e 1 n (encL (eO e2 s2 f) xs)) (hn : xs.length = n) : Frz σ (.vw r [] 0 n) (.im n (encL (eR f) xs)) := by
  subst hn
  have := Frz.vw (σ := σ) r 0 xs.length e 1 xs.length [] (encL (eO e2 s2 f) xs) (by simp [getN, h]) (by rw [encL_length (sz := 1)]; omega)
  rwa [List.drop_zero, List.take_of_length_le (by rw [encL_length (sz := 1)]; exact Nat.le_refl _), hard_rows] at this
end
end Go.Eng

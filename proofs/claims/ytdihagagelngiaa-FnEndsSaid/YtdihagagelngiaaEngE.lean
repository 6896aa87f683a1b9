/- The engine, part E: the quiet operations, each with what it gives. -/
import Derived.Test.YtdihagagelngiaaEngD
namespace Go.Eng
open Go
set_option linter.unusedVariables false
set_option linter.unusedSimpArgs false

def aggT (P : Program) (t : TypeId) : Option Bool :=
  match P.underlying t with
  | some (.struct _) | some (.array _ _) => some true
  | some _ => some false
  | none => none
def szT (P : Program) (t : TypeId) : Option Nat := (P.info? t).map (·.size)
def zeroT (P : Program) (t : TypeId) : Option Value := (P.info? t).bind (·.zero)
def bytesT (P : Program) (t : TypeId) : Option Nat := (P.info? t).map (·.bytes)

section
variable {P : Program} {w w' : World} {Sh Sh' : Foot} {Fs : Nat → Foot} {V : Nat → Value} {σ : Nat → AV} {K : Value → AV → Prop}
theorem run_isAgg {t : TypeId} {b : Bool} (h : aggT P t = some b) (w : World) : (isAgg t).run P w = .ok b w := by
  unfold aggT at h
  cases hu : P.underlying t with
  | none => simp [hu] at h
  | some d =>
    simp only [isAgg, Sem.run_bind, run_underlying hu, Result.andThen_ok]
    cases d <;> simp_all
theorem run_sizeOf {t : TypeId} {n : Nat} (h : szT P t = some n) (w : World) : (sizeOf t).run P w = .ok n w := by
  unfold szT at h
  rw [Option.map_eq_some_iff] at h
  obtain ⟨i, hi, rfl⟩ := h
  simp [sizeOf, typeInfo, hi]
theorem run_zeroValue {t : TypeId} {z : Value} (h : zeroT P t = some z) (w : World) : (zeroValue t).run P w = .ok z w := by
  unfold zeroT at h
  rw [Option.bind_eq_some_iff] at h
  obtain ⟨i, hi, hz⟩ := h
  simp [zeroValue, typeInfo, hi, hz]
theorem run_load_cell {a : Addr} {v : Value} (h : w.cell? a = some v) : (load a).run P w = .ok v w := by simp [run_load, h]
theorem run_loadCellsFrom (ad : Addr) : ∀ (n i : Nat) (acc : Array Value) (ys : List Value), ys.length = n → (∀ k y, ys[k]? = some y → w.cell? (ad.add (i + k)) = some y) → (loadCellsFrom ad i n acc).run P w = .ok (acc ++ ys.toArray) w
  | 0, i, acc, ys, hl, h => by
    have : ys = [] := List.eq_nil_of_length_eq_zero hl
    subst this; simp [loadCellsFrom]
  | n + 1, i, acc, [], hl, h => by simp at hl
  | n + 1, i, acc, y :: ys, hl, h => by
    have h0 := h 0 y rfl
    rw [Nat.add_zero] at h0
    simp only [loadCellsFrom, Sem.run_bind, run_load_cell h0, Result.andThen_ok]
    rw [run_loadCellsFrom ad n (i + 1) _ ys (by simpa using hl) (fun k z hk => by have := h (k + 1) z hk; rwa [show i + 1 + k = i + (k + 1) by omega])]
    simp

/-- What a quiet operation gives: a value, in a world where nothing has turned but what is new. -/
def Gives (P : Program) (w : World) (Sh : Foot) (V : Nat → Value) (σ : Nat → AV) (m : Sem Next) (av : AV) : Prop :=
  ∃ v w' Fd, m.run P w = .ok (.value v) w' ∧ Keeps noF w w' ∧ Rep w' Sh (KS w V σ) av Fd v ∧ ∀ b o, Fd b o → w.heap.size ≤ b ∧ b < w'.heap.size
theorem Gives.same {m : Sem Next} {av : AV} {v : Value} (h : m.run P w = .ok (.value v) w) (hr : Rep w Sh (KS w V σ) av noF v) : Gives P w Sh V σ m av :=
  ⟨v, w, noF, h, Keeps.refl _ _, hr, fun _ _ f => f.elim⟩

variable {a : Act} {o : Oper}
theorem load_one (I : Inv w Sh Fs V σ) {t : TypeId} {x : AV} {vx : Value} {c : AV} (hx : Rep w Sh (KS w V σ) x noF vx) (ht : aggT P t = some false) (hc : cell σ x 0 = some c) : ∃ ad y, vx = .pointer (some ad) ∧ (loadVar t ad).run P w = .ok y w ∧ Rep w Sh (KS w V σ) c noF y := by
  obtain ⟨ad, y, h1, h2, h3, h4⟩ := I.cell hx hc
  refine ⟨ad, y, h1, ?_, h4⟩
  have h2' : w.cell? ad = some y := by simpa [Addr.add] using h2
  simp only [loadVar, Sem.run_bind, Result.andThen_ok, run_isAgg ht, run_load_cell h2', Bool.false_eq_true, if_false]
theorem load_many (I : Inv w Sh Fs V σ) {t : TypeId} {x : AV} {vx : Value} {L : List AV} {s : Nat} (hx : Rep w Sh (KS w V σ) x noF vx) (ht : aggT P t = some true) (hs : szT P t = some s) (hl : L.length = s) (h0 : 0 < s) (hc : ∀ k, k < s → cell σ x k = L[k]?) : ∃ ad y, vx = .pointer (some ad) ∧ (loadVar t ad).run P w = .ok y w ∧ Rep w Sh (KS w V σ) (.ag L) noF y := by
  obtain ⟨ad, y0, e0, -⟩ := I.cell hx ((hc 0 h0).trans (List.getElem?_eq_getElem (by omega)))
  have key : ∀ (M : List AV) (i : Nat), (∀ k, k < M.length → cell σ x (i + k) = M[k]?) → ∃ ys : List Value, ys.length = M.length ∧ (∀ k y, ys[k]? = some y → w.cell? (ad.add (i + k)) = some y) ∧ (∀ u ∈ ys, u.oneCell' = true) ∧ Reps w Sh (KS w V σ) M noF ys := by
    intro M
    induction M with
    | nil => intro i _; exact ⟨[], rfl, by simp, by simp, by simp [Reps]⟩
    | cons c M ih =>
      intro i h
      obtain ⟨ys, g1, g2, g3, g4⟩ := ih (i + 1) (fun k hk => by have := h (k + 1) (by simp; omega); rw [show i + 1 + k = i + (k + 1) by omega]; simpa using this)
      obtain ⟨ad', y, e1, e2, e3, e4⟩ := I.cell hx ((h 0 (by simp)).trans rfl)
      rw [e0] at e1; cases e1
      refine ⟨y :: ys, by simp [g1], fun k z hk => ?_, fun u hu => ?_, ?_⟩
      · cases k with
        | zero => simp at hk; subst hk; exact e2
        | succ k => have := g2 k z hk; rwa [show i + 1 + k = i + (k + 1) by omega] at this
      · rcases List.mem_cons.1 hu with rfl | hu
        · exact e3
        · exact g3 u hu
      · simp only [Reps]; exact ⟨y, ys, noF, noF, rfl, e4, g4, Disj.no _, Le.refl _, Le.refl _⟩
  obtain ⟨ys, g1, g2, g3, g4⟩ := key L 0 (fun k hk => by rw [Nat.zero_add]; exact hc k (by omega))
  refine ⟨ad, .agg ys.toArray, e0, ?_, ?_⟩
  · simp only [loadVar, Sem.run_bind, Sem.run_pure, Result.andThen_ok, run_isAgg ht, run_sizeOf hs, loadCells, if_true]
    rw [run_loadCellsFrom ad s 0 #[] ys (by omega) g2]
    simp
  · simp only [Rep]
    exact ⟨ys.toArray, rfl, by simpa using g3, by simpa using g4⟩
theorem gives_load1 (I : Inv w Sh Fs V σ) (hA : VA a V) {t : TypeId} {x : Operand} {c : AV} (ho : o.op = .load t x) (ht : aggT P t = some false) (hc : cell σ (ov σ x) 0 = some c) : Gives P w Sh V σ (execOp a.eval o) c := by
  obtain ⟨ad, y, h1, h2, h3⟩ := load_one (P := P) I (I.ov hA x) ht hc
  exact Gives.same (v := y) (by simp only [execOp, ho, Instr.loadAt, Instr.sureAddr, h1, Sem.run_bind, Sem.run_pure, Result.andThen_ok, h2]) h3
theorem gives_loadA (I : Inv w Sh Fs V σ) (hA : VA a V) {t : TypeId} {x : Operand} {L : List AV} {s : Nat} (ho : o.op = .load t x) (ht : aggT P t = some true) (hs : szT P t = some s) (hl : L.length = s) (h0 : 0 < s) (hc : ∀ k, k < s → cell σ (ov σ x) k = L[k]?) : Gives P w Sh V σ (execOp a.eval o) (.ag L) := by
  obtain ⟨ad, y, h1, h2, h3⟩ := load_many (P := P) I (I.ov hA x) ht hs hl h0 hc
  exact Gives.same (v := y) (by simp only [execOp, ho, Instr.loadAt, Instr.sureAddr, h1, Sem.run_bind, Sem.run_pure, Result.andThen_ok, h2]) h3
theorem gives_adv (I : Inv w Sh Fs V σ) (hA : VA a V) {x : Operand} {k : Nat} {c : AV} (hc : adv σ (ov σ x) k = some c) (h : ∀ ad, a.eval x = .pointer (some ad) → (execOp a.eval o).run P w = .ok (.value (.pointer (some (ad.add k)))) w) : Gives P w Sh V σ (execOp a.eval o) c := by
  obtain ⟨ad, h1, h2⟩ := I.adv (I.ov hA x) hc
  exact Gives.same (h ad h1) h2
theorem add_zero' (ad : Addr) : ad.add 0 = ad := by simp [Addr.add]
theorem gives_nilCheck (I : Inv w Sh Fs V σ) (hA : VA a V) {x : Operand} {c : AV} (ho : o.op = .nilCheck x) (hc : adv σ (ov σ x) 0 = some c) : Gives P w Sh V σ (execOp a.eval o) c :=
  gives_adv I hA hc fun ad h => by simp [execOp, ho, h, add_zero']
theorem gives_fieldAddr (I : Inv w Sh Fs V σ) (hA : VA a V) {s : TypeId} {x : Operand} {f n : Nat} {fs : Array Field} {fd : Field} {c : AV} (ho : o.op = .fieldAddr s x f) (hs : P.underlying s = some (.struct fs)) (hf : fs[f]? = some fd) (hn : szT P fd.type = some n) (h0 : 0 < n) (hc : adv σ (ov σ x) fd.offset = some c) : Gives P w Sh V σ (execOp a.eval o) c :=
  gives_adv I hA hc fun ad h => by
    have hn0 : n ≠ 0 := by omega
    simp only [execOp, ho, Instr.fieldAt, Instr.sureAddr, h, Sem.run_bind, run_underlying hs, Result.andThen_ok, hf, fieldPlace, run_sizeOf hn, Sem.run_pure, Sem.run_ite, if_neg hn0]
theorem gives_indexA (I : Inv w Sh Fs V σ) (hA : VA a V) {t : TypeId} {x ix : Operand} {len n : Nat} {e : TypeId} {k : IntKind} {i : Int} {c : AV} (ho : o.op = .indexAddr t x ix) (ht : P.underlying t = some (.array len e)) (hn : szT P e = some n) (hi : a.eval ix = .int k i) (h0 : 0 ≤ i) (h1 : i < len) (hc : adv σ (ov σ x) (i.toNat * n) = some c) : Gives P w Sh V σ (execOp a.eval o) c :=
  gives_adv I hA hc fun ad h => by
    simp only [execOp, ho, Instr.indexAt, Instr.sureAddr, h, hi, asIntOf, Sem.run_bind, run_underlying ht, Result.andThen_ok, run_sizeOf hn, Sem.run_pure, Sem.run_ite, if_pos (And.intro h0 h1)]
/-- A view of a slice that is owned: its value. -/
theorem Inv.view (I : Inv w Sh Fs V σ) {r : Nat} {p : List Nat} {off n e sz m : Nat} {cs : List AV} {v : Value} (hr : Rep w Sh (KS w V σ) (.vw r p off n) noF v) (hn : getN p (σ r) = some (.ow e sz m cs)) :
    ∃ h A m' cap A' cap', At w (V r) (σ r) p h (.ow e sz m cs) ∧ h = .slice A m' cap ∧ v = .slice A' n cap' ∧ n ≤ cap' ∧ (off = 0 → A' = A ∧ cap' = cap) ∧ (off ≠ 0 → n ≠ 0 → A' = A.map (·.add off)) ∧ (cs ≠ [] → ∃ ad, A = some ad) := by
  obtain ⟨f, u, Fx, Fr, hf, hx, hat, -⟩ := Rep.deep p (I.rep r) hn
  simp only [Rep] at hr hx
  obtain ⟨xs, H, ho, hz, hg, h1, hle, hrs⟩ := hx
  obtain ⟨A, m', cap, e1, e2, e3⟩ := hr.1 _ _ hat
  have hA : cs ≠ [] → ∃ ad, A = some ad := by
    intro hc
    rcases ho.2 with ⟨e, rfl⟩ | ⟨g, cap, cur, e, -⟩
    · have h0 : xs = [] := List.eq_nil_of_length_eq_zero (by simpa using ho.1)
      have := hrs.length
      rw [h0] at this
      exact absurd (List.eq_nil_of_length_eq_zero this) hc
    · rw [e] at e1; cases e1; exact ⟨_, rfl⟩
  by_cases h0 : off = 0
  · obtain ⟨e4, e5⟩ := e2 h0
    exact ⟨u, A, m', cap, A, cap, hat, e1, e4, e5, fun _ => ⟨rfl, rfl⟩, fun h => absurd h0 h, hA⟩
  · obtain ⟨A', c, e4, e5, e6⟩ := e3 h0
    exact ⟨u, A, m', cap, A', c, hat, e1, e4, e5, fun h => absurd h h0, fun _ => e6, hA⟩
theorem gives_indexV (I : Inv w Sh Fs V σ) (hA : VA a V) {t : TypeId} {x ix : Operand} {e sz : Nat} {k : IntKind} {i : Int} {r off n m e' sz' : Nat} {p : List Nat} {cs : List AV} (ho : o.op = .indexAddr t x ix) (ht : P.underlying t = some (.slice e)) (hs : szT P e = some sz) (hi : a.eval ix = .int k i)
    (hx : ov σ x = .vw r p off n) (hn : getN p (σ r) = some (.ow e' sz' m cs)) (hlen : off + n * sz ≤ cs.length) (hz : 0 < sz) (h0 : 0 ≤ i) (h1 : i < n) : Gives P w Sh V σ (execOp a.eval o) (.ad r p (off + i.toNat * sz)) := by
  have hr := I.ov hA x
  rw [hx] at hr
  obtain ⟨h, A, m', cap, A', cap', hat, e1, e2, e3, e4, e5, e6⟩ := I.view hr hn
  have hn0 : n ≠ 0 := by omega
  have hcs : cs ≠ [] := by
    intro hc; rw [hc] at hlen
    have : 0 < n * sz := Nat.mul_pos (by omega) hz
    simp at hlen; omega
  obtain ⟨ad, rfl⟩ := e6 hcs
  have hA' : A' = some (ad.add off) := by
    by_cases h : off = 0
    · subst h; rw [(e4 rfl).1, add_zero']
    · rw [e5 h hn0]; rfl
  subst hA'
  refine Gives.same (v := .pointer (some (ad.add (off + i.toNat * sz)))) ?_ ?_
  · simp only [execOp, ho, Instr.indexAt, e2, hi, asIntOf, Sem.run_bind, run_underlying ht, Result.andThen_ok, run_sizeOf hs, Sem.run_pure, Sem.run_ite, if_pos (And.intro h0 h1), add_add]
  · simp only [Rep]
    refine ⟨fun h' y hy => ?_, rfl⟩
    obtain ⟨rfl, -⟩ := hy.det hat
    exact ⟨ad, rfl, .inr ⟨m', cap, e1⟩⟩
theorem gives_indexI (I : Inv w Sh Fs V σ) (hA : VA a V) {t : TypeId} {x ix : Operand} {e sz : Nat} {k : IntKind} {i : Int} {n : Nat} {cs : List AV} (ho : o.op = .indexAddr t x ix) (ht : P.underlying t = some (.slice e)) (hs : szT P e = some sz) (hi : a.eval ix = .int k i)
    (hx : ov σ x = .im n cs) (h0 : 0 ≤ i) (h1 : i < n) (hlen : i.toNat * sz < cs.length) : Gives P w Sh V σ (execOp a.eval o) (.ip (cs.drop (i.toNat * sz))) := by
  have hr := I.ov hA x
  rw [hx] at hr
  simp only [Rep] at hr
  obtain ⟨A, cap, xs, e1, e2, e3, e4, hrs⟩ := hr
  have hxl := hrs.length
  obtain ⟨ad, rfl, hcell⟩ := e3 (by intro h; rw [h] at hxl; simp at hxl; rw [hxl] at hlen; simp at hlen)
  refine Gives.same (v := .pointer (some (ad.add (i.toNat * sz)))) ?_ ?_
  · simp only [execOp, ho, Instr.indexAt, e1, hi, asIntOf, Sem.run_bind, run_underlying ht, Result.andThen_ok, run_sizeOf hs, Sem.run_pure, Sem.run_ite, if_pos (And.intro h0 h1)]
  · simp only [Rep]
    refine ⟨_, xs.drop (i.toNat * sz), rfl, fun j u hj => ?_, fun u hu => e4 u (List.mem_of_mem_drop hu), hrs.drop _⟩
    rw [List.getElem?_drop] at hj
    rw [add_add, add_block, add_off, Nat.add_assoc]
    exact hcell _ _ hj

/-! Slices. -/
/-- A bound: what is not written is the one given. -/
def bnd (σ : Nat → AV) (d : Nat) : Option Operand → Option Int
  | none => some d
  | some x => match ov σ x with | .sc (.int _ i) => some i | _ => none
theorem ov_int (I : Inv w Sh Fs V σ) (hA : VA a V) {x : Operand} {v : Value} (h : ov σ x = .sc v) : a.eval x = v := by
  have := I.ov hA x
  rw [h] at this
  simp only [Rep] at this
  exact this.1
theorem run_bounds (I : Inv w Sh Fs V σ) (hA : VA a V) {lo hi : Option Operand} {n cap : Nat} {l h : Int} (hl : bnd σ 0 lo = some l) (hh : bnd σ n hi = some h) (b : Bool) (h0 : 0 ≤ l) (h1 : l ≤ h) (h2 : h ≤ cap) :
    (Instr.sliceBounds b n cap (lo.map a.eval) (hi.map a.eval) none).run P w = .ok (l.toNat, h.toNat, cap) w := by
  have key : ∀ (x : Operand) (i : Int) (y : Nat) (c : BoundsCode), (match ov σ x with | .sc (.int _ i) => some i | _ => none) = some i → 0 ≤ i → i ≤ y → (Instr.sliceBound (a.eval x) y c).run P w = .ok i.toNat w := by
    intro x i y c he g0 g1
    split at he
    · rename_i kk ii hov
      cases he
      rw [ov_int I hA hov]
      simp only [Instr.sliceBound, asIntOf, Sem.run_bind, Sem.run_pure, Result.andThen_ok, Sem.run_ite, if_pos (And.intro g0 g1)]
    · cases he
  cases lo with
  | none =>
    simp only [bnd, Option.some.injEq] at hl
    subst hl
    cases hi with
    | none =>
      simp only [bnd, Option.some.injEq] at hh
      subst hh
      simp [Instr.sliceBounds]
    | some y =>
      have e := key y h cap (if b = true then .sliceAcap else .sliceAlen) hh (by omega) h2
      simp only [Instr.sliceBounds, Option.map_none, Option.map_some, Sem.run_bind, Sem.run_pure, Result.andThen_ok, e]
      rfl
  | some x =>
    cases hi with
    | none =>
      simp only [bnd, Option.some.injEq] at hh
      subst hh
      have e := key x l n .sliceB hl h0 h1
      simp only [Instr.sliceBounds, Option.map_none, Option.map_some, Sem.run_bind, Sem.run_pure, Result.andThen_ok, Option.isSome_none, Bool.false_eq_true, if_false, e]
      rfl
    | some y =>
      have e1 := key y h cap (if b = true then .sliceAcap else .sliceAlen) hh (by omega) h2
      have e2 := key x l h.toNat .sliceB hl h0 (by omega)
      simp only [Instr.sliceBounds, Option.map_none, Option.map_some, Sem.run_bind, Sem.run_pure, Result.andThen_ok, Option.isSome_none, Bool.false_eq_true, if_false, e1, e2]
theorem gives_sliceV (I : Inv w Sh Fs V σ) (hA : VA a V) {t : TypeId} {x : Operand} {lo hi : Option Operand} {e sz : Nat} {l h : Int} {r off n m e' sz' : Nat} {p : List Nat} {cs : List AV} (ho : o.op = .slice t x lo hi none) (ht : P.underlying t = some (.slice e)) (hs : szT P e = some sz) (hz : 0 < sz)
    (hx : ov σ x = .vw r p off n) (hn : getN p (σ r) = some (.ow e' sz' m cs)) (hl : bnd σ 0 lo = some l) (hh : bnd σ n hi = some h) (h0 : 0 ≤ l) (h1 : l ≤ h) (h2 : h ≤ n) : Gives P w Sh V σ (execOp a.eval o) (.vw r p (off + l.toNat * sz) (h.toNat - l.toNat)) := by
  have hr := I.ov hA x
  rw [hx] at hr
  obtain ⟨hd, A, m', cap, A', cap', hat, e1, e2, e3, e4, e5, e6⟩ := I.view hr hn
  refine Gives.same (v := .slice (if cap' = l.toNat then A' else A'.map (·.add (l.toNat * sz))) (h.toNat - l.toNat) (cap' - l.toNat)) ?_ ?_
  · simp only [execOp, ho, Instr.sliceAt, Instr.slice, e2, Option.map_none, Sem.run_bind, run_underlying ht, Result.andThen_ok, run_sizeOf hs, Sem.run_pure, run_bounds (P := P) (w := w) I hA hl hh true h0 h1 (show h ≤ cap' by omega)]
  · simp only [Rep]
    refine ⟨fun h' y hy => ?_, by simp [Value.oneCell']⟩
    obtain ⟨rfl, -⟩ := hy.det hat
    refine ⟨A, m', cap, e1, fun hoff => ?_, fun hoff => ?_⟩
    · have h3 : off = 0 := by omega
      have h4 : l.toNat = 0 := by
        rcases Nat.eq_zero_or_pos l.toNat with g | g
        · exact g
        · have := Nat.mul_pos g hz; omega
      obtain ⟨e7, e8⟩ := e4 h3
      subst e7; subst e8
      rw [h4]
      refine ⟨?_, by omega⟩
      have hm : A'.map (fun x => x.add (0 * sz)) = A' := by
        cases A' <;> simp [Addr.add]
      simp only [Nat.sub_zero, hm]
      split <;> rfl
    · refine ⟨_, _, rfl, by omega, fun hne => ?_⟩
      rw [if_neg (by omega)]
      by_cases h3 : off = 0
      · subst h3
        rw [(e4 rfl).1, Nat.zero_add]
      · rw [e5 h3 (by omega)]
        cases A <;> simp [add_add]
theorem gives_sliceI (I : Inv w Sh Fs V σ) (hA : VA a V) {t : TypeId} {x : Operand} {lo hi : Option Operand} {e sz : Nat} {l h : Int} {n : Nat} {cs : List AV} (ho : o.op = .slice t x lo hi none) (ht : P.underlying t = some (.slice e)) (hs : szT P e = some sz) (hz : 0 < sz)
    (hx : ov σ x = .im n cs) (hl : bnd σ 0 lo = some l) (hh : bnd σ n hi = some h) (h0 : 0 ≤ l) (h1 : l ≤ h) (h2 : h ≤ n) : Gives P w Sh V σ (execOp a.eval o) (.im (h.toNat - l.toNat) ((cs.drop (l.toNat * sz)).take ((h.toNat - l.toNat) * sz))) := by
  have hr := I.ov hA x
  rw [hx] at hr
  simp only [Rep] at hr
  obtain ⟨A, cap, xs, e1, e2, e3, e4, hrs⟩ := hr
  refine Gives.same (v := .slice (if cap = l.toNat then A else A.map (·.add (l.toNat * sz))) (h.toNat - l.toNat) (cap - l.toNat)) ?_ ?_
  · simp only [execOp, ho, Instr.sliceAt, Instr.slice, e1, Option.map_none, Sem.run_bind, run_underlying ht, Result.andThen_ok, run_sizeOf hs, Sem.run_pure, run_bounds (P := P) (w := w) I hA hl hh true h0 h1 (show h ≤ cap by omega)]
  · simp only [Rep]
    refine ⟨_, _, (xs.drop (l.toNat * sz)).take ((h.toNat - l.toNat) * sz), rfl, by omega, fun hne => ?_, fun u hu => e4 u (List.mem_of_mem_drop (List.mem_of_mem_take hu)), (hrs.drop _).take _⟩
    have hx0 : xs ≠ [] := by rintro rfl; simp at hne
    have hl0 : h.toNat - l.toNat ≠ 0 := by intro h; rw [h] at hne; simp at hne
    obtain ⟨ad, rfl, hcell⟩ := e3 hx0
    refine ⟨ad.add (l.toNat * sz), by rw [if_neg (by omega)]; rfl, fun j u hj => ?_⟩
    rw [List.getElem?_take] at hj
    split at hj
    · rw [List.getElem?_drop] at hj
      rw [add_add, add_block, add_off, Nat.add_assoc]
      exact hcell _ _ hj
    · cases hj
theorem gives_sliceN (I : Inv w Sh Fs V σ) (hA : VA a V) {t : TypeId} {x : Operand} {lo hi : Option Operand} {e sz : Nat} (ho : o.op = .slice t x lo hi none) (ht : P.underlying t = some (.slice e)) (hs : szT P e = some sz)
    (hx : ov σ x = .nl) (hl : bnd σ 0 lo = some 0) (hh : bnd σ 0 hi = some 0) : Gives P w Sh V σ (execOp a.eval o) .nl := by
  have hr := I.ov hA x
  rw [hx] at hr
  simp only [Rep] at hr
  refine Gives.same (v := .slice none 0 0) ?_ (by simp only [Rep])
  simp only [execOp, ho, Instr.sliceAt, Instr.slice, hr, Option.map_none, Sem.run_bind, run_underlying ht, Result.andThen_ok, run_sizeOf hs, Sem.run_pure, run_bounds (P := P) (w := w) I hA hl hh true (Int.le_refl 0) (Int.le_refl 0) (show (0 : Int) ≤ (0 : Nat) by omega)]
  rfl
end
end Go.Eng

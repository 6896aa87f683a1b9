/- Folding in plain Lean: on trees, and term by term over a pile of parts. No program in sight. -/
import Derived.Test.YtbhdobjjhkkpkaaEngPa
namespace Go.Eng.C
open Go Go.RowKit
set_option linter.unusedVariables false
set_option linter.unusedSimpArgs false
/-- Surroundings with nothing in them. -/
def nov : Vs := ⟨[], []⟩
/-- The first that is not zero. -/
def frs : List Int → Int
  | [] => 0
  | x :: l => if x ≠ 0 then x else frs l
theorem frs_zero : ∀ {l : List Int}, frs l = 0 ↔ ∀ x ∈ l, x = 0
  | [] => by simp [frs]
  | x :: l => by
    simp only [frs, List.mem_cons, forall_eq_or_imp]
    by_cases h : x = 0
    · rw [if_neg (by omega), frs_zero]; simp [h]
    · rw [if_pos h]; simp [h]
theorem frs_app : ∀ (l m : List Int), frs (l ++ m) = if frs l ≠ 0 then frs l else frs m
  | [], m => by simp [frs]
  | x :: l, m => by
    by_cases h : x = 0
    · simp [frs, h, frs_app l m]
    · simp [frs, h]
theorem rp_step {w : Int} {v : Vs} {t : Tm} {l : List Tm} {s xs : List Int} (h : (xs.length : Int) = tks t.op) : rp w v (t :: l) (s ++ xs) = ((rp w v l (s ++ [(val1 w v t xs).1])).1, if (val1 w v t xs).2 ≠ 0 then (val1 w v t xs).2 else (rp w v l (s ++ [(val1 w v t xs).1])).2) := by
  have e : (s ++ xs).length - (tks t.op).toNat = s.length := by simp only [List.length_append]; omega
  simp only [rp]
  rw [e, List.drop_left, List.take_left]
/-- What a term gives over what its parts give. -/
def cmb (w : Int) (v : Vs) (t : Tm) (xs : List (Int × Int)) : Int × Int := ((val1 w v t (xs.map (·.1))).1, frs (xs.map (·.2) ++ [(val1 w v t (xs.map (·.1))).2]))
def Tr.vt (w : Int) (v : Vs) : Tr → Int × Int
  | .t0 t => cmb w v t []
  | .t1 t a => cmb w v t [a.vt w v]
  | .t2 t a b => cmb w v t [a.vt w v, b.vt w v]
  | .t3 t a b c => cmb w v t [a.vt w v, b.vt w v, c.vt w v]
def Tr.ks : Tr → List Tr
  | .t0 _ => []
  | .t1 _ a => [a]
  | .t2 _ a b => [a, b]
  | .t3 _ a b c => [a, b, c]
theorem Tr.ks_ok {a : Tr} (h : a.Ok) : ∀ k ∈ a.ks, k.Ok := by
  intro k hk
  cases a <;> simp only [Tr.ks, List.mem_cons, List.not_mem_nil, or_false] at hk <;> simp only [Tr.Ok] at h
  · subst hk; exact h.2.2
  · rcases hk with rfl | rfl; exact h.2.2.1; exact h.2.2.2
  · rcases hk with rfl | rfl | rfl; exact h.2.2.1; exact h.2.2.2.1; exact h.2.2.2.2
theorem Tr.ks_len {a : Tr} (h : a.Ok) : (a.ks.length : Int) = tks a.last.op := by
  have := Tr.kids_len h
  cases a <;> exact this
theorem Tr.flat_ks (a : Tr) : a.flat = (a.ks.map Tr.flat).flatten ++ [a.last] := by cases a <;> simp [Tr.flat, Tr.ks, Tr.last]
theorem Tr.vt_ks (w : Int) (v : Vs) (a : Tr) : a.vt w v = cmb w v a.last (a.ks.map (Tr.vt w v)) := by cases a <;> simp [Tr.vt, Tr.ks, Tr.last]
/-- Parts one behind the other. -/
theorem rp_parts {w : Int} {v : Vs} : ∀ (ks : List Tr) (hk : ∀ k ∈ ks, ∀ l s, rp w v (k.flat ++ l) s = ((rp w v l (s ++ [(k.vt w v).1])).1, if (k.vt w v).2 ≠ 0 then (k.vt w v).2 else (rp w v l (s ++ [(k.vt w v).1])).2)) (l : List Tm) (s : List Int),
    rp w v ((ks.map Tr.flat).flatten ++ l) s = ((rp w v l (s ++ ks.map fun k => (k.vt w v).1)).1, if frs (ks.map fun k => (k.vt w v).2) ≠ 0 then frs (ks.map fun k => (k.vt w v).2) else (rp w v l (s ++ ks.map fun k => (k.vt w v).1)).2)
  | [], hk, l, s => by simp [frs]
  | k :: ks, hk, l, s => by
    simp only [List.map_cons, List.flatten_cons, List.append_assoc]
    rw [hk k (by simp), rp_parts ks (fun x hx => hk x (List.mem_cons_of_mem _ hx)), List.append_assoc]
    simp only [List.cons_append, List.nil_append, frs]
    by_cases h : (k.vt w v).2 = 0
    · simp [h]
    · simp [h]
theorem vt_fin {w : Int} {v : Vs} {a : Tr} (h : a.Ok) (hk : ∀ k ∈ a.ks, ∀ l s, rp w v (k.flat ++ l) s = ((rp w v l (s ++ [(k.vt w v).1])).1, if (k.vt w v).2 ≠ 0 then (k.vt w v).2 else (rp w v l (s ++ [(k.vt w v).1])).2)) (l : List Tm) (s : List Int) : rp w v (a.flat ++ l) s = ((rp w v l (s ++ [(a.vt w v).1])).1, if (a.vt w v).2 ≠ 0 then (a.vt w v).2 else (rp w v l (s ++ [(a.vt w v).1])).2) := by
  rw [a.flat_ks, List.append_assoc, rp_parts a.ks hk, List.cons_append, List.nil_append, rp_step (by simp only [List.length_map]; exact Tr.ks_len h)]
  rw [a.vt_ks]
  simp only [cmb, List.map_map, Function.comp_def, frs_app]
  by_cases h1 : frs (a.ks.map fun k => (k.vt w v).2) = 0
  · by_cases h2 : (val1 w v a.last (a.ks.map fun k => (k.vt w v).1)).2 = 0 <;> simp [h1, h2, frs]
  · simp [h1]
/-- A tree's value, wherever its text stands. -/
theorem vt_rp (w : Int) (v : Vs) : ∀ (a : Tr), a.Ok → ∀ l s, rp w v (a.flat ++ l) s = ((rp w v l (s ++ [(a.vt w v).1])).1, if (a.vt w v).2 ≠ 0 then (a.vt w v).2 else (rp w v l (s ++ [(a.vt w v).1])).2)
  | .t0 t, h => vt_fin h (fun k hk => by simp [Tr.ks] at hk)
  | .t1 t a, h => vt_fin h (fun k hk => by
      simp only [Tr.ks, List.mem_singleton] at hk; rw [hk]; exact vt_rp w v a h.2.2)
  | .t2 t a b, h => vt_fin h (fun k hk => by
      simp only [Tr.ks, List.mem_cons, List.not_mem_nil, or_false] at hk
      rcases hk with hk | hk <;> rw [hk]
      · exact vt_rp w v a h.2.2.1
      · exact vt_rp w v b h.2.2.2)
  | .t3 t a b c, h => vt_fin h (fun k hk => by
      simp only [Tr.ks, List.mem_cons, List.not_mem_nil, or_false] at hk
      rcases hk with hk | hk | hk <;> rw [hk]
      · exact vt_rp w v a h.2.2.1
      · exact vt_rp w v b h.2.2.2.1
      · exact vt_rp w v c h.2.2.2.2)
theorem vt_all {w : Int} {v : Vs} {a : Tr} (h : a.Ok) : rp w v a.flat [] = a.vt w v := by
  have := vt_rp w v a h [] []
  rw [List.append_nil] at this
  rw [this]
  simp only [rp, List.nil_append, List.getD_cons_zero]
  by_cases h2 : (a.vt w v).2 = 0
  · rw [if_neg (by omega), ← h2]
  · rw [if_pos h2]
/-- A term that asks nothing of surroundings. -/
def knT (t : Tm) : Bool := decide (t.op ≠ 1) && decide (t.op ≠ 2)
def Tr.kn : Tr → Bool
  | .t0 t => knT t
  | .t1 t a => knT t && a.kn
  | .t2 t a b => knT t && (a.kn && b.kn)
  | .t3 t a b c => knT t && (a.kn && (b.kn && c.kn))
theorem Tr.kn_ks (a : Tr) : a.kn = (knT a.last && a.ks.all Tr.kn) := by cases a <;> simp [Tr.kn, Tr.ks, Tr.last]
/-- A folded expression. -/
def Tr.fold (w : Int) : Tr → List Tm
  | .t0 t => if (Tr.t0 t).kn = true ∧ ((Tr.t0 t).vt w nov).2 = 0 then [⟨0, ((Tr.t0 t).vt w nov).1⟩] else [t]
  | .t1 t a => if (Tr.t1 t a).kn = true ∧ ((Tr.t1 t a).vt w nov).2 = 0 then [⟨0, ((Tr.t1 t a).vt w nov).1⟩] else a.fold w ++ [t]
  | .t2 t a b => if (Tr.t2 t a b).kn = true ∧ ((Tr.t2 t a b).vt w nov).2 = 0 then [⟨0, ((Tr.t2 t a b).vt w nov).1⟩] else a.fold w ++ (b.fold w ++ [t])
  | .t3 t a b c => if (Tr.t3 t a b c).kn = true ∧ ((Tr.t3 t a b c).vt w nov).2 = 0 then [⟨0, ((Tr.t3 t a b c).vt w nov).1⟩] else a.fold w ++ (b.fold w ++ (c.fold w ++ [t]))
theorem Tr.fold_ks (w : Int) (a : Tr) : a.fold w = if a.kn = true ∧ (a.vt w nov).2 = 0 then [⟨0, (a.vt w nov).1⟩] else (a.ks.map (Tr.fold w)).flatten ++ [a.last] := by cases a <;> simp [Tr.fold, Tr.ks, Tr.last]
theorem Tr.fold_pos (w : Int) (a : Tr) : 0 < (a.fold w).length := by
  rw [a.fold_ks]; split <;> simp
/-- One number. -/
def isN (l : List Tm) : Prop := l.length = 1 ∧ (l.getD 0 zt).op = 0
instance (l : List Tm) : Decidable (isN l) := by unfold isN; infer_instance
theorem Tr.fold_num {w : Int} {a : Tr} (h : a.Ok) : isN (a.fold w) ↔ a.kn = true ∧ (a.vt w nov).2 = 0 := by
  constructor
  · intro hn
    by_cases hc : a.kn = true ∧ (a.vt w nov).2 = 0
    · exact hc
    · exfalso
      rw [a.fold_ks, if_neg hc] at hn
      cases a with
      | t0 t =>
        simp only [Tr.ks, Tr.last, List.map_nil, List.flatten_nil, List.nil_append] at hn
        have h0 : t.op = 0 := hn.2
        refine hc ⟨by simp [Tr.kn, knT, h0], ?_⟩
        simp [Tr.vt, cmb, val1, h0, frs]
      | t1 t a =>
        have h1 := hn.1
        have hp := a.fold_pos w
        simp only [Tr.ks, Tr.last, List.map_cons, List.map_nil, List.flatten_cons, List.flatten_nil, List.append_nil, List.length_append, List.length_cons, List.length_nil] at h1
        omega
      | t2 t a b =>
        have h1 := hn.1
        have hp := a.fold_pos w
        simp only [Tr.ks, Tr.last, List.map_cons, List.map_nil, List.flatten_cons, List.flatten_nil, List.append_nil, List.length_append, List.length_cons, List.length_nil] at h1
        omega
      | t3 t a b c =>
        have h1 := hn.1
        have hp := a.fold_pos w
        simp only [Tr.ks, Tr.last, List.map_cons, List.map_nil, List.flatten_cons, List.flatten_nil, List.append_nil, List.length_append, List.length_cons, List.length_nil] at h1
        omega
  · intro hc
    rw [a.fold_ks, if_pos hc]
    exact ⟨rfl, rfl⟩
/-- What the last parts become with the term behind them. -/
def cl (w : Int) (t : Tm) (xs : List (List Tm)) : List Tm :=
  if (∀ s ∈ xs, isN s) ∧ knT t = true ∧ (rp w nov (xs.flatten ++ [t]) []).2 = 0 then [⟨0, (rp w nov (xs.flatten ++ [t]) []).1⟩] else xs.flatten ++ [t]
theorem rp_nums (w : Int) (v : Vs) : ∀ (xs : List Int) (l : List Tm) (s : List Int), rp w v ((xs.map fun x => (⟨0, x⟩ : Tm)) ++ l) s = rp w v l (s ++ xs)
  | [], l, s => by simp
  | x :: xs, l, s => by
    have := rp_step (w := w) (v := v) (t := ⟨0, x⟩) (l := (xs.map fun x => (⟨0, x⟩ : Tm)) ++ l) (s := s) (xs := []) rfl
    rw [List.append_nil] at this
    simp only [List.map_cons, List.cons_append]
    rw [this]
    simp only [val1, if_true]
    rw [rp_nums w v xs l (s ++ [x])]
    simp
theorem flat_nums (xs : List Int) : (xs.map fun x => [(⟨0, x⟩ : Tm)]).flatten = xs.map fun x => (⟨0, x⟩ : Tm) := by
  induction xs with
  | nil => rfl
  | cons x xs ih => simp [ih]
theorem cl_fold {w : Int} {a : Tr} (h : a.Ok) : cl w a.last (a.ks.map (Tr.fold w)) = a.fold w := by
  have hl := Tr.ks_len h
  by_cases hk : ∀ k ∈ a.ks, k.kn = true ∧ (k.vt w nov).2 = 0
  · have e1 : a.ks.map (Tr.fold w) = (a.ks.map fun k => (k.vt w nov).1).map fun x => [(⟨0, x⟩ : Tm)] := by
      rw [List.map_map]
      exact List.map_congr_left fun k hk' => by rw [Tr.fold_ks, if_pos (hk k hk')]; rfl
    have e2 : rp w nov ((a.ks.map (Tr.fold w)).flatten ++ [a.last]) [] = ((val1 w nov a.last (a.ks.map fun k => (k.vt w nov).1)).1, (val1 w nov a.last (a.ks.map fun k => (k.vt w nov).1)).2) := by
      rw [e1, flat_nums, rp_nums, List.nil_append]
      have := rp_step (w := w) (v := nov) (t := a.last) (l := []) (s := []) (xs := a.ks.map fun k => (k.vt w nov).1) (by simpa using hl)
      rw [List.nil_append] at this
      rw [this]
      simp only [rp, List.nil_append, List.getD_cons_zero]
      by_cases h2 : (val1 w nov a.last (a.ks.map fun k => (k.vt w nov).1)).2 = 0
      · rw [if_neg (by omega), h2]
      · rw [if_pos h2]
    have e3 : a.vt w nov = ((val1 w nov a.last (a.ks.map fun k => (k.vt w nov).1)).1, (val1 w nov a.last (a.ks.map fun k => (k.vt w nov).1)).2) := by
      have hz : frs (a.ks.map fun k => (k.vt w nov).2) = 0 := frs_zero.2 fun x hx => by
        obtain ⟨k, hk1, rfl⟩ := List.mem_map.1 hx
        exact (hk k hk1).2
      rw [a.vt_ks]
      simp only [cmb, List.map_map, Function.comp_def, frs_app, hz]
      by_cases h2 : (val1 w nov a.last (a.ks.map fun k => (k.vt w nov).1)).2 = 0 <;> simp [frs, h2]
    have e4 : ∀ s ∈ a.ks.map (Tr.fold w), isN s := fun s hs => by
      obtain ⟨k, hk1, rfl⟩ := List.mem_map.1 hs
      exact (Tr.fold_num (Tr.ks_ok h k hk1)).2 (hk k hk1)
    have e5 : a.kn = knT a.last := by
      rw [a.kn_ks, List.all_eq_true.2 fun k hk1 => (hk k hk1).1, Bool.and_true]
    unfold cl
    rw [a.fold_ks, e2, e5, e3]
    by_cases hc : knT a.last = true ∧ (val1 w nov a.last (a.ks.map fun k => (k.vt w nov).1)).2 = 0
    · rw [if_pos ⟨e4, hc.1, hc.2⟩, if_pos hc]
    · rw [if_neg (fun h => hc h.2), if_neg hc]
  · have e1 : ¬ ∀ s ∈ a.ks.map (Tr.fold w), isN s := fun hs => hk fun k hk1 => (Tr.fold_num (Tr.ks_ok h k hk1)).1 (hs _ (List.mem_map_of_mem hk1))
    have e2 : ¬ (a.kn = true ∧ (a.vt w nov).2 = 0) := by
      rintro ⟨h1, h2⟩
      rw [a.kn_ks, Bool.and_eq_true, List.all_eq_true] at h1
      rw [a.vt_ks] at h2
      have h3 := frs_zero.1 h2
      refine hk fun k hk1 => ⟨h1.2 k hk1, h3 _ ?_⟩
      simp only [List.map_map, List.mem_append, List.mem_map, Function.comp_apply]
      exact .inl ⟨k, hk1, rfl⟩
    unfold cl
    rw [if_neg (fun h => e1 h.1), a.fold_ks, if_neg e2]
/-- One term over a pile of parts (the last on top). -/
def stk (w : Int) (S : List (List Tm)) (t : Tm) : List (List Tm) := S.take (S.length - (tks t.op).toNat) ++ [cl w t (S.drop (S.length - (tks t.op).toNat))]
theorem stk_at {w : Int} {t : Tm} (S xs : List (List Tm)) (h : (xs.length : Int) = tks t.op) : stk w (S ++ xs) t = S ++ [cl w t xs] := by
  have e : (S ++ xs).length - (tks t.op).toNat = S.length := by simp only [List.length_append]; omega
  unfold stk
  rw [e, List.drop_left, List.take_left]
theorem run_parts {w : Int} : ∀ (ks : List Tr) (hk : ∀ k ∈ ks, ∀ S, k.flat.foldl (stk w) S = S ++ [k.fold w]) (S : List (List Tm)), (ks.map Tr.flat).flatten.foldl (stk w) S = S ++ ks.map (Tr.fold w)
  | [], hk, S => by simp
  | k :: ks, hk, S => by
    simp only [List.map_cons, List.flatten_cons, List.foldl_append]
    rw [hk k (by simp), run_parts ks (fun x hx => hk x (List.mem_cons_of_mem _ hx))]
    simp
theorem run_fin {w : Int} {a : Tr} (h : a.Ok) (hk : ∀ k ∈ a.ks, ∀ S, k.flat.foldl (stk w) S = S ++ [k.fold w]) (S : List (List Tm)) : a.flat.foldl (stk w) S = S ++ [a.fold w] := by
  rw [a.flat_ks, List.foldl_append, run_parts a.ks hk, List.foldl_cons, List.foldl_nil, stk_at S _ (by simpa using Tr.ks_len h), cl_fold h]
/-- Term by term, a tree's text is folded. -/
theorem run_tr (w : Int) : ∀ (a : Tr), a.Ok → ∀ S, a.flat.foldl (stk w) S = S ++ [a.fold w]
  | .t0 t, h => run_fin h (fun k hk => by simp [Tr.ks] at hk)
  | .t1 t a, h => run_fin h (fun k hk => by
      simp only [Tr.ks, List.mem_singleton] at hk; rw [hk]; exact run_tr w a h.2.2)
  | .t2 t a b, h => run_fin h (fun k hk => by
      simp only [Tr.ks, List.mem_cons, List.not_mem_nil, or_false] at hk
      rcases hk with hk | hk <;> rw [hk]
      · exact run_tr w a h.2.2.1
      · exact run_tr w b h.2.2.2)
  | .t3 t a b c, h => run_fin h (fun k hk => by
      simp only [Tr.ks, List.mem_cons, List.not_mem_nil, or_false] at hk
      rcases hk with hk | hk | hk <;> rw [hk]
      · exact run_tr w a h.2.2.1
      · exact run_tr w b h.2.2.2.1
      · exact run_tr w c h.2.2.2.2)
end Go.Eng.C

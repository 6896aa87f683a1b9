/- Contracts of functions, by the engine: folding, of the reference. Printed by mk/mkfo.py. -/
import Derived.Test.YtbhdobjjhkkpkaaEngPo
import Derived.Test.YtbhdobjjhkkpkaaEngWb
import Derived.Test.YtbhdobjjhkkpkaaEngXm
namespace Go.Eng.C
open Go Go.Eng Go.RowKit Go.Proofs
set_option linter.unusedVariables false
set_option linter.unusedSimpArgs false
set_option maxRecDepth 10000
variable {X : FuncId → List AV → AV → List AV → Prop}
theorem nm_spec_l11Folded : (Try.f94.name == "runtime.NumGoroutine") = false := by decide
theorem nm_spec_Folded : (Try.f32.name == "runtime.NumGoroutine") = false := by decide
/-- Folded parts, one behind the other. -/
def ff (w : Int) (ks : List Tr) : List Tm := (ks.map (Tr.fold w)).flatten
theorem fold_len (w : Int) : ∀ a : Tr, (a.fold w).length ≤ a.flat.length
  | .t0 t => by simp only [Tr.fold, Tr.flat]; split <;> simp
  | .t1 t a => by
    have := fold_len w a
    simp only [Tr.fold, Tr.flat]
    split <;> simp only [List.length_append, List.length_cons, List.length_nil] <;> omega
  | .t2 t a b => by
    have := fold_len w a; have := fold_len w b
    simp only [Tr.fold, Tr.flat]
    split <;> simp only [List.length_append, List.length_cons, List.length_nil] <;> omega
  | .t3 t a b c => by
    have := fold_len w a; have := fold_len w b; have := fold_len w c
    simp only [Tr.fold, Tr.flat]
    split <;> simp only [List.length_append, List.length_cons, List.length_nil] <;> omega
theorem ff_len (w : Int) : ∀ ks : List Tr, (ff w ks).length ≤ ((ks.map Tr.flat).flatten).length
  | [] => by simp [ff]
  | k :: ks => by
    have h1 := fold_len w k
    have h2 := ff_len w ks
    simp only [ff, List.map_cons, List.flatten_cons, List.length_append] at *
    omega
theorem ff_next (w : Int) {ks : List Tr} {i : Nat} (h : i < ks.length) : ff w (ks.take (i + 1)) = ff w (ks.take i) ++ ks[i].fold w := by
  unfold ff
  rw [List.take_add_one, List.getElem?_eq_getElem h]
  simp only [List.map_append, List.flatten_append, Option.toList_some, List.map_cons, List.map_nil, List.flatten_cons, List.flatten_nil, List.append_nil]
theorem fl_take (a : Tr) (i : Nat) : (((a.ks.take i).map Tr.flat).flatten).length + 1 ≤ a.flat.length := by
  rw [a.flat_ks, List.length_append, List.length_singleton]
  have : a.ks = a.ks.take i ++ a.ks.drop i := (List.take_append_drop i _).symm
  have h2 : (a.ks.map Tr.flat).flatten.length = (((a.ks.take i).map Tr.flat).flatten).length + (((a.ks.drop i).map Tr.flat).flatten).length := by
    conv => lhs; rw [this]
    rw [List.map_append, List.flatten_append, List.length_append]
  omega
theorem fl_mem (a : Tr) {k : Tr} (h : k ∈ a.ks) : k.flat.length < a.flat.length := by
  cases a <;> simp only [Tr.ks, List.mem_cons, List.not_mem_nil, or_false] at h <;> simp only [Tr.flat, List.length_append, List.length_cons, List.length_nil]
  · subst h; omega
  · rcases h with rfl | rfl <;> omega
  · rcases h with rfl | rfl | rfl <;> omega
theorem fl_sub (a : Tr) {k : Tr} (h : k ∈ a.ks) : ∀ t ∈ k.flat, t ∈ a.flat := fun t ht => by
  rw [a.flat_ks]
  exact List.mem_append_left _ (List.mem_flatten.2 ⟨_, List.mem_map_of_mem h, ht⟩)
theorem fl_last (a : Tr) : a.flat.getD (a.flat.length - 1) zt = a.last := by
  rw [a.flat_ks]
  simp
theorem kn_flat : ∀ a : Tr, a.flat.all knT = a.kn
  | .t0 t => by simp [Tr.flat, Tr.kn]
  | .t1 t a => by simp only [Tr.flat, Tr.kn, List.all_append, kn_flat a, List.all_cons, List.all_nil, Bool.and_true]; exact Bool.and_comm _ _
  | .t2 t a b => by simp only [Tr.flat, Tr.kn, List.all_append, kn_flat a, kn_flat b, List.all_cons, List.all_nil, Bool.and_true]; exact Bool.and_comm _ _
  | .t3 t a b c => by
    simp only [Tr.flat, Tr.kn, List.all_append, kn_flat a, kn_flat b, kn_flat c, List.all_cons, List.all_nil, Bool.and_true]
    cases a.kn <;> cases b.kn <;> cases c.kn <;> cases knT t <;> rfl
theorem all_next {e : List Tm} {i : Nat} (h : i < e.length) : (e.take (i + 1)).all knT = ((e.take i).all knT && knT (e.getD i zt)) := by
  rw [List.take_add_one, List.getElem?_eq_getElem h, List.getD_eq_getElem?_getD, List.getElem?_eq_getElem h]
  simp only [List.all_append, Option.toList_some, List.all_cons, List.all_nil, Bool.and_true, Option.getD_some]
theorem Tr.exp {a : Tr} (h : a.Ok) (hl : a.flat.length ≤ 3000) : expOk a.flat = true := by
  have := tree_hgt a h 0 (by omega)
  simp [expOk, hl, this]
theorem Tr.partsR {a : Tr} (h : a.Ok) (hl : a.flat.length ≤ 3000) : PartsR a.flat (a.ks.map Tr.flat) := by
  have e := Tr.exp h hl
  have h2 := Tr.ks_len h
  have h3 := tks_range a.last.op
  rw [a.flat_ks] at e hl ⊢
  exact .ok e hl (fun s hs => by obtain ⟨k, hk, rfl⟩ := List.mem_map.1 hs; exact ⟨k, Tr.ks_ok h k hk, rfl⟩) (by rw [List.length_map]; exact h2) (by rw [List.length_map]; omega)
theorem nov_fit {p : Pr} {e : List Tm} (hN : ∀ t ∈ e, t.op = 0 → t.n < sizeW p.w) (hk : e.all knT = true) : VFit p nov e := by
  rw [List.all_eq_true] at hk
  have h1 : ∀ t ∈ e, t.op ≠ 1 ∧ t.op ≠ 2 := fun t ht => by have := hk t ht; simpa [knT] using this
  exact ⟨fun x hx => by simp [nov] at hx, hN, fun t ht h => absurd h (h1 t ht).1, fun t ht h => absurd h (h1 t ht).2⟩
set_option maxHeartbeats 16000000 in
theorem l11 (p : Pr) (hB : PB p) (w1 : 1 ≤ p.w) (w8 : p.w ≤ 8) : ∀ (n : Nat) (a : Tr), a.Ok → a.flat.length ≤ n → a.flat.length ≤ 3000 → (∀ t ∈ a.flat, t.op = 0 → t.n < sizeW p.w) → Ev Try.prog X (.fn 94 [.ag (prR p), .im a.flat.length (encL tm a.flat)] (.ow 93 2 (a.fold p.w).length (encL tm (a.fold p.w))) [.dead, .dead]) := by
  intro n
  induction n with
  | zero => intro a ho hn; have := a.flat_pos; omega
  | succ n ih =>
  intro a ho hn hl hN
  have cP := specPartsOf (X := X) a.flat (a.ks.map Tr.flat) (by omega) (Tr.partsR ho hl)
  have hkn := kn_flat a
  have hk3 : a.ks.length ≤ 3 := by have := Tr.ks_len ho; have := tks_range a.last.op; omega
  refine Ev.fnW (env := [(0, .ag (prR p)), (1, .im a.flat.length (encL tm a.flat))]) Try.func94 rfl nm_spec_l11Folded rfl rfl (by kernel_rfl) (.cons rfl (.cons rfl .nil)) ?_
  refine go3 ?_
  refine WC.loopS (S := Nat × Bool) (fun s => [(1, .im a.flat.length (encL tm a.flat)), (2, .op (prR p)), (5, bl s.2), (6, i64 s.1)]) (fun s => s.1 ≤ a.flat.length ∧ s.2 = (a.flat.take s.1).all knT) (fun s => a.flat.length - s.1) (0, true) (.cons rfl (.cons rfl (.cons rfl (.cons rfl .nil)))) ⟨Nat.zero_le _, rfl⟩ ?_
  rintro ⟨i, kb⟩ ⟨g1, g2⟩
  dsimp only at g1 g2 ⊢
  refine go3 ?_
  refine WO.cmp rfl rfl rfl rfl rfl (fun h3 => ?_) (fun h3 => ?_)
  · have hi : i < a.flat.length := by omega
    have g3 := all_next hi
    rw [← g2] at g3
    refine go3 ?_
    refine WO.ixN (f := tm) zt rfl rfl rfl hi rfl ?_
    by_cases h1 : (a.flat.getD i zt).op = 1
    · rw [show knT (a.flat.getD i zt) = false by unfold knT; simp only [h1]; rfl, Bool.and_false] at g3
      refine go3 ?_
      rw [show (i : Int) + 1 = ((i + 1 : Nat) : Int) by omega]
      exact lpK.mk (i + 1, false) (.cons rfl (.cons rfl (.cons rfl (.cons rfl .nil)))) ⟨hi, g3.symm⟩ (show a.flat.length - (i + 1) < a.flat.length - i by omega)
    · refine go3 ?_
      refine WO.ixN (f := tm) zt rfl rfl rfl hi rfl ?_
      by_cases h2 : (a.flat.getD i zt).op = 2
      · rw [show knT (a.flat.getD i zt) = false by unfold knT; simp only [h2]; rfl, Bool.and_false] at g3
        refine go3 ?_
        rw [show (i : Int) + 1 = ((i + 1 : Nat) : Int) by omega]
        exact lpK.mk (i + 1, false) (.cons rfl (.cons rfl (.cons rfl (.cons rfl .nil)))) ⟨hi, g3.symm⟩ (show a.flat.length - (i + 1) < a.flat.length - i by omega)
      · rw [show knT (a.flat.getD i zt) = true by unfold knT; rw [decide_eq_true h1, decide_eq_true h2]; rfl, Bool.and_true] at g3
        refine go3 ?_
        rw [show (i : Int) + 1 = ((i + 1 : Nat) : Int) by omega]
        exact lpK.mk (i + 1, kb) (.cons rfl (.cons rfl (.cons rfl (.cons rfl .nil)))) ⟨hi, g3.symm⟩ (show a.flat.length - (i + 1) < a.flat.length - i by omega)
  have hie : i = a.flat.length := by omega
  subst hie
  rw [List.take_length, hkn] at g2
  subst g2
  by_cases hk : a.kn = true
  · rw [hk]
    have cV := l5Value (X := X) p nov a.flat w1 w8 hB (Tr.exp ho hl) (nov_fit hN (by rw [hkn, hk]))
    rw [vt_all ho] at cV
    refine go3 ?_
    refine WO.bld (cs := [.nl, .nl]) rfl rfl rfl rfl ?_
    refine WO.castI (r := 35) (p := [0]) (y := .ag [.im 0 [], .nl]) rfl rfl ?_
    refine WO.castI (r := 35) (p := [1]) (y := .ag (enR nov)) rfl rfl ?_
    refine go3 ?_
    refine WO.call rfl rfl rfl cV rfl rfl ?_
    by_cases ht : (a.vt p.w nov).2 = 0
    · rw [a.fold_ks, if_pos ⟨hk, ht⟩]
      refine go3 ?_
      refine WO.bld (cs := tm ⟨0, (a.vt p.w nov).1⟩) rfl rfl rfl rfl ?_
      refine WO.b1A rfl rfl rfl rfl rfl rfl rfl rfl ?_
      refine go3 ?_
      exact retO rfl rfl rfl rfl rfl rfl
    · have hc : ¬ (a.kn = true ∧ (a.vt p.w nov).2 = 0) := fun h => ht h.2
      refine go3 ?_
      refine WO.call rfl rfl rfl cP rfl rfl ?_
      refine WO.hard (r := 47) (p := []) (x := rows (a.ks.map Tr.flat)) (y := .im (a.ks.map Tr.flat).length (encL (eR tm) (a.ks.map Tr.flat))) rfl rfl (by simp only [rows, setN, Eng.hard, hard_rows]) ?_
      refine go3 ?_
      refine WC.loopS (S := Nat) (fun i => [(1, .im a.flat.length (encL tm a.flat)), (2, .op (prR p)), (9, .ow 93 2 (ff p.w (a.ks.take i)).length (encL tm (ff p.w (a.ks.take i)))), (10, .im (a.ks.map Tr.flat).length (encL (eR tm) (a.ks.map Tr.flat))), (11, i64 i)]) (fun i => i ≤ a.ks.length) (fun i => a.ks.length - i) 0 (.cons rfl (.cons rfl (.cons rfl (.cons rfl (.cons rfl .nil))))) (Nat.zero_le _) ?_
      intro i g
      have hll := ff_len p.w (a.ks.take i)
      have hl2 := fl_take a i
      refine go3 ?_
      refine WO.cmp rfl rfl rfl rfl rfl (fun h3 => ?_) (fun h3 => ?_)
      · rw [List.length_map] at h3
        have hi : i < a.ks.length := by omega
        have hi2 : i < (a.ks.map Tr.flat).length := by rw [List.length_map]; omega
        have hkm : a.ks[i] ∈ a.ks := List.getElem_mem hi
        have hko := Tr.ks_ok ho _ hkm
        have hks := fl_mem a hkm
        have cK := ih a.ks[i] hko (by omega) (by omega) (fun t ht h0 => hN t (fl_sub a hkm t ht) h0)
        have eg : (a.ks.map Tr.flat).getD i [] = a.ks[i].flat := by simp [List.getD_eq_getElem?_getD, hi]
        have en : ff p.w (a.ks.take (i + 1)) = ff p.w (a.ks.take i) ++ a.ks[i].fold p.w := ff_next p.w hi
        have hfl := fold_len p.w a.ks[i]
        refine go3 ?_
        refine WC.regionDd ⟨[[], [], [], [], [2, 3], [2, 3, 4], [1, 2, 3, 4, 5], [0, 1, 2, 3, 4, 5, 6], [0, 1, 2, 3, 4, 5, 6, 7]], [0, 1, 2, 3, 4, 5, 6], [], [54, 55, 56, 57, 58, 59, 60], [0, 1, 2, 3, 4, 5, 6, 7, 8], [([55, 56, 57, 58, 59, 60], [55, 56, 57, 58, 59, 60], false), ([54, 56, 57, 58, 59], [54, 56, 57, 58, 59], false), ([54, 55, 57], [54, 55, 57], false), ([54, 55, 56], [54, 55, 56], false), ([54, 55], [54, 55], false), ([54, 55], [54, 55], false), ([54], [54], false), ([], [], false), ([], [], false)]⟩ (by kernel_rfl) ?_
        refine go3 ?_
        refine WD.q rfl rfl rfl rfl rfl (QE.ixN (f := eR tm) [] rfl rfl hi2) rfl rfl rfl ?_
        rw [eg]
        refine go3 ?_
        refine WD.q rfl rfl rfl rfl rfl (QE.call rfl rfl cK) rfl rfl rfl ?_
        refine go3 ?_
        refine WO.apVM rfl rfl rfl (encL_length _) rfl rfl (encL_length _) rfl rfl (by unfold maxLen; omega) (by omega) rfl ?_
        rw [← encL_append, ← List.length_append, ← en]
        refine WO.cln 9 ?_
        refine go3 ?_
        rw [show (i : Int) + 1 = ((i + 1 : Nat) : Int) by omega]
        exact lpK.mk (i + 1) (.cons rfl (.cons rfl (.cons rfl (.cons rfl (.cons rfl .nil))))) hi (show a.ks.length - (i + 1) < a.ks.length - i by omega)
      · rw [List.length_map] at h3
        have hie : i = a.ks.length := by omega
        subst hie
        rw [List.take_length] at hll hl2 ⊢
        have hfp := a.flat_pos
        have hlast : a.flat.getD (a.flat.length - 1) zt = a.last := fl_last a
        have hff : a.fold p.w = ff p.w a.ks ++ [a.last] := by rw [a.fold_ks, if_neg hc]; rfl
        refine go3 ?_
        refine WO.ixI (f := tm) rfl zt rfl rfl (by omega) (by omega) rfl ?_
        rw [show ((a.flat.length : Int) - 1).toNat = a.flat.length - 1 by omega, hlast]
        refine go3 ?_
        refine WO.b1A rfl rfl rfl rfl rfl rfl rfl rfl ?_
        refine WO.apVM rfl rfl rfl (encL_length _) rfl rfl rfl rfl rfl (by unfold maxLen; omega) (by omega) rfl ?_
        rw [show encL tm (ff p.w a.ks) ++ tm a.last = encL tm (ff p.w a.ks ++ [a.last]) by rw [encL_append]; rfl, show (ff p.w a.ks).length + 1 = (ff p.w a.ks ++ [a.last]).length by simp, ← hff]
        refine WO.cln 9 ?_
        refine go3 ?_
        exact retO rfl rfl (encL_length _) rfl rfl rfl
  · rw [Bool.not_eq_true] at hk
    have hc : ¬ (a.kn = true ∧ (a.vt p.w nov).2 = 0) := fun h => by rw [hk] at h; cases h.1
    rw [hk]
    refine go3 ?_
    refine WO.call rfl rfl rfl cP rfl rfl ?_
    refine WO.hard (r := 47) (p := []) (x := rows (a.ks.map Tr.flat)) (y := .im (a.ks.map Tr.flat).length (encL (eR tm) (a.ks.map Tr.flat))) rfl rfl (by simp only [rows, setN, Eng.hard, hard_rows]) ?_
    refine go3 ?_
    refine WC.loopS (S := Nat) (fun i => [(1, .im a.flat.length (encL tm a.flat)), (2, .op (prR p)), (9, .ow 93 2 (ff p.w (a.ks.take i)).length (encL tm (ff p.w (a.ks.take i)))), (10, .im (a.ks.map Tr.flat).length (encL (eR tm) (a.ks.map Tr.flat))), (11, i64 i)]) (fun i => i ≤ a.ks.length) (fun i => a.ks.length - i) 0 (.cons rfl (.cons rfl (.cons rfl (.cons rfl (.cons rfl .nil))))) (Nat.zero_le _) ?_
    intro i g
    have hll := ff_len p.w (a.ks.take i)
    have hl2 := fl_take a i
    refine go3 ?_
    refine WO.cmp rfl rfl rfl rfl rfl (fun h3 => ?_) (fun h3 => ?_)
    · rw [List.length_map] at h3
      have hi : i < a.ks.length := by omega
      have hi2 : i < (a.ks.map Tr.flat).length := by rw [List.length_map]; omega
      have hkm : a.ks[i] ∈ a.ks := List.getElem_mem hi
      have hko := Tr.ks_ok ho _ hkm
      have hks := fl_mem a hkm
      have cK := ih a.ks[i] hko (by omega) (by omega) (fun t ht h0 => hN t (fl_sub a hkm t ht) h0)
      have eg : (a.ks.map Tr.flat).getD i [] = a.ks[i].flat := by simp [List.getD_eq_getElem?_getD, hi]
      have en : ff p.w (a.ks.take (i + 1)) = ff p.w (a.ks.take i) ++ a.ks[i].fold p.w := ff_next p.w hi
      have hfl := fold_len p.w a.ks[i]
      refine go3 ?_
      refine WC.regionDd ⟨[[], [], [], [], [2, 3], [2, 3, 4], [1, 2, 3, 4, 5], [0, 1, 2, 3, 4, 5, 6], [0, 1, 2, 3, 4, 5, 6, 7]], [0, 1, 2, 3, 4, 5, 6], [], [54, 55, 56, 57, 58, 59, 60], [0, 1, 2, 3, 4, 5, 6, 7, 8], [([55, 56, 57, 58, 59, 60], [55, 56, 57, 58, 59, 60], false), ([54, 56, 57, 58, 59], [54, 56, 57, 58, 59], false), ([54, 55, 57], [54, 55, 57], false), ([54, 55, 56], [54, 55, 56], false), ([54, 55], [54, 55], false), ([54, 55], [54, 55], false), ([54], [54], false), ([], [], false), ([], [], false)]⟩ (by kernel_rfl) ?_
      refine go3 ?_
      refine WD.q rfl rfl rfl rfl rfl (QE.ixN (f := eR tm) [] rfl rfl hi2) rfl rfl rfl ?_
      rw [eg]
      refine go3 ?_
      refine WD.q rfl rfl rfl rfl rfl (QE.call rfl rfl cK) rfl rfl rfl ?_
      refine go3 ?_
      refine WO.apVM rfl rfl rfl (encL_length _) rfl rfl (encL_length _) rfl rfl (by unfold maxLen; omega) (by omega) rfl ?_
      rw [← encL_append, ← List.length_append, ← en]
      refine WO.cln 9 ?_
      refine go3 ?_
      rw [show (i : Int) + 1 = ((i + 1 : Nat) : Int) by omega]
      exact lpK.mk (i + 1) (.cons rfl (.cons rfl (.cons rfl (.cons rfl (.cons rfl .nil))))) hi (show a.ks.length - (i + 1) < a.ks.length - i by omega)
    · rw [List.length_map] at h3
      have hie : i = a.ks.length := by omega
      subst hie
      rw [List.take_length] at hll hl2 ⊢
      have hfp := a.flat_pos
      have hlast : a.flat.getD (a.flat.length - 1) zt = a.last := fl_last a
      have hff : a.fold p.w = ff p.w a.ks ++ [a.last] := by rw [a.fold_ks, if_neg hc]; rfl
      refine go3 ?_
      refine WO.ixI (f := tm) rfl zt rfl rfl (by omega) (by omega) rfl ?_
      rw [show ((a.flat.length : Int) - 1).toNat = a.flat.length - 1 by omega, hlast]
      refine go3 ?_
      refine WO.b1A rfl rfl rfl rfl rfl rfl rfl rfl ?_
      refine WO.apVM rfl rfl rfl (encL_length _) rfl rfl rfl rfl rfl (by unfold maxLen; omega) (by omega) rfl ?_
      rw [show encL tm (ff p.w a.ks) ++ tm a.last = encL tm (ff p.w a.ks ++ [a.last]) by rw [encL_append]; rfl, show (ff p.w a.ks).length + 1 = (ff p.w a.ks ++ [a.last]).length by simp, ← hff]
      refine WO.cln 9 ?_
      refine go3 ?_
      exact retO rfl rfl (encL_length _) rfl rfl rfl
/-- What Folded gives. -/
theorem specFolded (p : Pr) (a : Tr) (hB : PB p) (hp : PrOk p) (ho : a.Ok) (he : mayOk p a.flat) (hN : ∀ t ∈ a.flat, t.op = 0 → t.n < sizeW p.w) : Ev Try.prog X (.fn 32 [.ag (prR p), .im a.flat.length (encL tm a.flat)] (.ow 93 2 (a.fold p.w).length (encL tm (a.fold p.w))) [.dead, .dead]) := by
  have hl : a.flat.length ≤ 3000 := by have := he.2.1.1; simp only [expOk, Bool.and_eq_true, decide_eq_true_eq] at this; exact this.1
  refine Ev.fnW (env := [(0, .ag (prR p)), (1, .im a.flat.length (encL tm a.flat))]) Try.func32 rfl nm_spec_Folded rfl rfl (by kernel_rfl) (.cons rfl (.cons rfl .nil)) ?_
  refine go3 ?_
  refine WO.call rfl rfl rfl (specProgOk p hB (r := true) (by simp [hp])) rfl rfl ?_
  refine go3 ?_
  refine WO.call rfl rfl rfl (l3Exp p hp.w0 hp.w8 hB hp.r.1 hp.r.2.1 a.flat (by omega) (r := true) (by simp [he])) rfl rfl ?_
  refine go3 ?_
  refine WO.call rfl rfl rfl (l11 p hB hp.w0 hp.w8 a.flat.length a ho (Nat.le_refl _) hl hN) rfl rfl ?_
  refine go3 ?_
  exact retO rfl rfl (encL_length _) rfl rfl rfl
theorem specFoldedN (p : Pr) (e : List Tm) (hB : PB p) (hl : e.length ≤ 1048576) (h : ¬ (PrOk p ∧ mayOk p e)) : Ev Try.prog X (.fn 32 [.ag (prR p), .im e.length (encL tm e)] (.ow 93 2 e.length (encL tm e)) [.dead, .dead]) := by
  refine Ev.fnW (env := [(0, .ag (prR p)), (1, .im e.length (encL tm e))]) Try.func32 rfl nm_spec_Folded rfl rfl (by kernel_rfl) (.cons rfl (.cons rfl .nil)) ?_
  refine go3 ?_
  by_cases hp : PrOk p
  · refine WO.call rfl rfl rfl (specProgOk p hB (r := true) (by simp [hp])) rfl rfl ?_
    refine go3 ?_
    refine WO.call rfl rfl rfl (l3Exp p hp.w0 hp.w8 hB hp.r.1 hp.r.2.1 e (by omega) (r := false) ⟨fun h => by simp at h, fun h2 => absurd ⟨hp, h2⟩ h⟩) rfl rfl ?_
    refine go3 ?_
    refine WO.call rfl rfl rfl (l2Copy e hl) rfl rfl ?_
    refine go3 ?_
    exact retO rfl rfl (encL_length _) rfl rfl rfl
  · refine WO.call rfl rfl rfl (specProgOk p hB (r := false) ⟨fun h => by simp at h, fun h2 => absurd h2 hp⟩) rfl rfl ?_
    refine go3 ?_
    refine WO.call rfl rfl rfl (l2Copy e hl) rfl rfl ?_
    refine go3 ?_
    exact retO rfl rfl (encL_length _) rfl rfl rfl
end Go.Eng.C

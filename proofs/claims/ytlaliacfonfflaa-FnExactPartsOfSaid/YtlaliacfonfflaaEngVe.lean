/- Contracts of functions, by the engine: spec.PartsOf, impl.PartsOf. -/
import Derived.Test.YtlaliacfonfflaaEngVd
namespace Go.Eng.C
open Go Go.Eng Go.RowKit Go.Proofs
set_option linter.unusedVariables false
set_option linter.unusedSimpArgs false
set_option maxRecDepth 10000
variable {X : FuncId → List AV → AV → List AV → Prop}
/-- The parts of an expression; of what is none, nothing. -/
inductive PartsR : List Tm → List (List Tm) → Prop
  | ok {ks : List (List Tm)} {t : Tm} (h : expOk (ks.flatten ++ [t]) = true) (hl : (ks.flatten ++ [t]).length ≤ 3000) (hk : ∀ s ∈ ks, IsTr s) (ht : (ks.length : Int) = tks t.op) (h3 : ks.length ≤ 3) : PartsR (ks.flatten ++ [t]) ks
  | no {x : List Tm} (h : expOk x = false) : PartsR x []
theorem PartsR.ex (x : List Tm) : ∃ ks, PartsR x ks := by
  cases h : expOk x
  · exact ⟨[], .no h⟩
  · obtain ⟨ks, t, rfl, hk, ht, h3, -, hl⟩ := parts_ex h
    exact ⟨ks, .ok h hl hk ht h3⟩
abbrev rows (ks : List (List Tm)) : AV := .ow 25 1 ks.length (encL (eO 40 2 tm) ks)
theorem last_at (y : List Tm) (t : Tm) : (y ++ [t]).getD y.length zt = t := by simp
set_option maxHeartbeats 8000000 in
theorem specPartsOf (x : List Tm) (ks : List (List Tm)) (hx : x.length ≤ 1152921504606846976) (h : PartsR x ks) : Ev Try.prog X (.fn 16 [.im x.length (encL tm x)] (rows ks) [.dead]) := by
  refine Ev.fnW (env := [(0, .im x.length (encL tm x))]) Try.func16 rfl nm16 rfl rfl (by kernel_rfl) (.cons rfl .nil) ?_
  refine go ?_
  refine WO.build0 rfl rfl rfl ?_
  refine go ?_
  refine WO.call rfl rfl rfl (specExpOk x hx) rfl rfl ?_
  cases h with
  | no h =>
    rw [h]
    refine go ?_
    exact retO rfl rfl rfl rfl rfl rfl
  | @ok _ t h hl hk ht h3 =>
    rw [h]
    generalize hX : ks.flatten ++ [t] = x at *
    have hlen : x.length = ks.flatten.length + 1 := by rw [← hX]; simp
    refine go ?_
    refine WO.ixI (f := tm) rfl zt rfl rfl (by omega) (by omega) rfl ?_
    rw [show ((x.length : Int) - 1).toNat = ks.flatten.length by omega, show x.getD ks.flatten.length zt = t by rw [← hX]; exact last_at _ _]
    refine go ?_
    refine WO.call rfl rfl rfl (specTakesOf _) rfl rfl ?_
    rw [← ht]
    refine go ?_
    refine WC.loopS (S := Nat × Int × Int × List (List Tm)) (fun s => [(0, .im x.length (encL tm x)), (4, i64 s.2.1), (5, i64 s.2.2.1), (3, rows s.2.2.2)]) (fun s => s.1 ≤ ks.length ∧ s.2.1 = ((ks.take s.1).flatten.length : Int) - 1 ∧ s.2.2.1 = s.1 ∧ s.2.2.2 = ks.drop s.1) (fun s => s.1) (ks.length, (x.length : Int) - 2, (ks.length : Int), []) (.cons rfl (.cons rfl (.cons rfl (.cons rfl .nil)))) ⟨Nat.le_refl _, by dsimp only; rw [List.take_length]; omega, rfl, by simp⟩ ?_
    rintro ⟨i, y, z, out⟩ ⟨h1, hy, hz, ho⟩
    dsimp only at h1 hy hz ho ⊢
    subst hz
    refine go ?_
    refine WO.cmp rfl rfl rfl rfl rfl (fun h5 => ?_) (fun h5 => ?_)
    · obtain ⟨i, rfl⟩ : ∃ m, i = m + 1 := ⟨i - 1, by omega⟩
      have hi : i < ks.length := by omega
      have hs := hk ks[i] (List.getElem_mem _)
      have hp := hs.pos
      have e1 := ks_split ks i hi
      have e2 := ks_take ks i hi
      have hb := seg_bk (p := (ks.take i).flatten) (r := (ks.drop (i + 1)).flatten ++ [t]) hs
      have e3 : x = (ks.take i).flatten ++ ks[i] ++ ((ks.drop (i + 1)).flatten ++ [t]) := by rw [← hX, e1]; simp
      have hle : (ks.take i).flatten.length + ks[i].length ≤ x.length := by rw [e3]; simp
      rw [← e3] at hb
      have hcons : ks.drop i = ks[i] :: ks.drop (i + 1) := List.drop_eq_getElem_cons hi
      have hol : out.length ≤ 3 := by rw [ho, List.length_drop]; omega
      rw [e2, List.length_append] at hy
      have hdrop : (x.drop (ks.take i).flatten.length).take ks[i].length = ks[i] := by
        rw [e3, List.append_assoc, List.drop_left, List.take_left]
      generalize hP : (ks.take i).flatten.length = p at *
      generalize hS : ks[i] = s at *
      obtain ⟨e, he⟩ : ∃ e : Nat, e + 1 = p + s.length := ⟨p + s.length - 1, by omega⟩
      have hye : y = (e : Int) := by omega
      subst hye
      rw [← he] at hb
      refine go ?_
      refine WO.call rfl rfl rfl (l2First x e p hl (by omega) hb) rfl rfl ?_
      refine go ?_
      refine WO.slI (f := tm) rfl rfl rfl rfl (by omega) (by omega) (by omega) rfl ?_
      rw [show ((x.drop (p : Int).toNat).take (((e : Int) + 1).toNat - (p : Int).toNat)) = s by rw [Int.toNat_natCast, show ((e : Int) + 1).toNat - p = s.length by omega]; exact hdrop]
      refine WO.call rfl rfl rfl (l2Copy s (by omega)) rfl rfl ?_
      refine WO.b1 rfl rfl rfl (encL_length _) rfl rfl ?_
      refine go ?_
      refine WO.apM rfl rfl rfl rfl rfl rfl (encL_length _) rfl rfl (by unfold maxLen; omega) (by omega) rfl ?_
      rw [Nat.add_comm 1 out.length]
      change WO _ _ _ _ (look ((38, rows (s :: out)) :: _)) _
      refine WO.cln 3 ?_
      refine go ?_
      refine lpK.mk (i, (p : Int) - 1, ((i + 1 : Nat) : Int) - 1, s :: out) (.cons rfl (.cons rfl (.cons rfl (.cons rfl .nil)))) ⟨by dsimp only; omega, by dsimp only; rw [hP], by dsimp only; omega, by dsimp only; rw [ho, hcons]⟩ (by dsimp only; omega)
    · have hi : i = 0 := by omega
      subst hi
      rw [List.drop_zero] at ho
      subst ho
      refine go ?_
      exact retO rfl rfl (encL_length _) rfl rfl rfl
theorem encO_drop (ks : List (List Tm)) (i : Nat) : encL (eO 40 2 tm) (ks.drop i) = (encL (eO 40 2 tm) ks).drop i := by
  have := encL_drop (f := eO 40 2 tm) (sz := 1) i ks
  rw [Nat.mul_one] at this; exact this.symm
set_option maxHeartbeats 8000000 in
theorem implPartsOf (x : List Tm) (ks : List (List Tm)) (hx : x.length ≤ 1152921504606846976) (h : PartsR x ks) {r : AV} (hr : r = bif expOk x then rows ks else .nl) : Ev Try.prog X (.fn 17 [.im x.length (encL tm x)] r [.dead]) := by
  subst hr
  refine Ev.fnW (env := [(0, .im x.length (encL tm x))]) Try.func17 rfl nm17 rfl rfl (by kernel_rfl) (.cons rfl .nil) ?_
  refine go ?_
  refine WO.call rfl rfl rfl (implExpOk x hx) rfl rfl ?_
  cases h with
  | no h =>
    rw [h]
    refine go ?_
    exact retP (a := .nl) rfl rfl rfl rfl rfl
  | @ok _ t h hl hk ht h3 =>
    rw [h]
    generalize hX : ks.flatten ++ [t] = x at *
    have hlen : x.length = ks.flatten.length + 1 := by rw [← hX]; simp
    refine go ?_
    refine WO.ixI (f := tm) rfl zt rfl rfl (by omega) (by omega) rfl ?_
    rw [show ((x.length : Int) - 1).toNat = ks.flatten.length by omega, show x.getD ks.flatten.length zt = t by rw [← hX]; exact last_at _ _]
    refine go ?_
    refine WO.call rfl rfl rfl (implTakesOf _) rfl rfl ?_
    rw [← ht]
    refine WO.mk (f := eV) .nl rfl rfl rfl rfl (by omega) (by unfold maxLen; omega) rfl ?_
    rw [encL_eV]
    refine go ?_
    refine WC.loopS (S := Nat × Int × Int × List AV) (fun s => [(0, .im x.length (encL tm x)), (3, i64 s.2.1), (5, i64 s.2.2.1), (4, .ow 25 1 ks.length s.2.2.2)]) (fun s => s.1 ≤ ks.length ∧ s.2.1 = ((ks.take s.1).flatten.length : Int) ∧ s.2.2.1 = (s.1 : Int) - 1 ∧ s.2.2.2.length = ks.length ∧ s.2.2.2.drop s.1 = (encL (eO 40 2 tm) ks).drop s.1) (fun s => s.1) (ks.length, (x.length : Int) - 1, (ks.length : Int) - 1, List.replicate ks.length .nl) (.cons rfl (.cons rfl (.cons rfl (.cons rfl .nil)))) ⟨Nat.le_refl _, by dsimp only; rw [List.take_length]; omega, rfl, by simp, by dsimp only; rw [← encO_drop, List.drop_length]; simp [encL]⟩ ?_
    rintro ⟨i, y, z, out⟩ ⟨h1, hy, hz, hol, ho⟩
    dsimp only at h1 hy hz ho hol ⊢
    refine go ?_
    refine WO.cmp rfl rfl rfl rfl rfl (fun h5 => ?_) (fun h5 => ?_)
    · obtain ⟨i, rfl⟩ : ∃ m, i = m + 1 := ⟨i - 1, by omega⟩
      have hz' : z = (i : Int) := by omega
      subst hz'
      have hi : i < ks.length := by omega
      have hs := hk ks[i] (List.getElem_mem _)
      have hp := hs.pos
      have e1 := ks_split ks i hi
      have e2 := ks_take ks i hi
      have hb := seg_bk (p := (ks.take i).flatten) (r := (ks.drop (i + 1)).flatten ++ [t]) hs
      have e3 : x = (ks.take i).flatten ++ ks[i] ++ ((ks.drop (i + 1)).flatten ++ [t]) := by rw [← hX, e1]; simp
      have hle : (ks.take i).flatten.length + ks[i].length ≤ x.length := by rw [e3]; simp
      rw [← e3] at hb
      have hget : (encL (eO 40 2 tm) ks)[i]? = some (.ow 40 2 ks[i].length (encL tm ks[i])) := by
        have := encL_get (f := eO 40 2 tm) (sz := 1) (j := 0) hi (by omega) []
        rw [Nat.mul_one, Nat.add_zero] at this
        rw [this, List.getD_eq_getElem?_getD, List.getElem?_eq_getElem hi]; rfl
      rw [e2, List.length_append] at hy
      have hdrop : (x.drop (ks.take i).flatten.length).take ks[i].length = ks[i] := by
        rw [e3, List.append_assoc, List.drop_left, List.take_left]
      generalize hP : (ks.take i).flatten.length = p at *
      generalize hS : ks[i] = s at *
      obtain ⟨e, he⟩ : ∃ e : Nat, e + 1 = p + s.length := ⟨p + s.length - 1, by omega⟩
      have hye : y = (e : Int) + 1 := by omega
      subst hye
      rw [← he] at hb
      refine go ?_
      rw [show (e : Int) + 1 - 1 = e by omega]
      refine WO.call rfl rfl rfl (beginOf x e p hl (by omega) hb) rfl rfl ?_
      refine go ?_
      refine WO.slI (f := tm) rfl rfl rfl rfl (by omega) (by omega) (by omega) rfl ?_
      rw [show ((x.drop (p : Int).toNat).take (((e : Int) + 1).toNat - (p : Int).toNat)) = s by rw [Int.toNat_natCast, show ((e : Int) + 1).toNat - p = s.length by omega]; exact hdrop]
      refine WO.call rfl rfl rfl (ownTerms s (by omega)) rfl rfl ?_
      refine WO.ixM rfl rfl rfl (by rw [hol]; omega) rfl hi rfl rfl ?_
      rw [Nat.mul_one]
      refine WO.stO rfl rfl rfl rfl (encL_length _) rfl (by omega) rfl rfl ?_
      refine go ?_
      refine lpK.mk (i, (p : Int), (i : Int) - 1, out.set i (.ow 40 2 s.length (encL tm s))) (.cons rfl (.cons rfl (.cons rfl (.cons rfl .nil)))) ⟨by dsimp only; omega, by dsimp only; rw [hP], rfl, by simp only [List.length_set, hol], ?_⟩ (by dsimp only; omega)
      dsimp only
      have hcl : (encL (eO 40 2 tm) ks).length = ks.length := by rw [encL_length]; omega
      rw [List.drop_eq_getElem_cons (show i < (out.set i (.ow 40 2 s.length (encL tm s))).length by rw [List.length_set]; omega), List.getElem_set_self, List.drop_set_of_lt (by omega), ho]
      obtain ⟨hlt, hge⟩ := List.getElem?_eq_some_iff.1 hget
      rw [List.drop_eq_getElem_cons hlt, hge]
    · have hi : i = 0 := by omega
      subst hi
      rw [List.drop_zero, List.drop_zero] at ho
      subst ho
      refine go ?_
      exact retO rfl rfl (encL_length _) rfl rfl rfl
end Go.Eng.C

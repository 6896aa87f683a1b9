/- Contracts of functions, by the engine: blocks, ends and steps, of the reference. -/
import Derived.Test.YtbhdobjjhkkpkaaEngXe
import Derived.Test.YtbhdobjjhkkpkaaEngPa
import Derived.Test.YtbhdobjjhkkpkaaEngB4
namespace Go.Eng.C
open Go Go.Eng Go.RowKit Go.Proofs
set_option linter.unusedVariables false
set_option linter.unusedSimpArgs false
set_option maxRecDepth 10000
variable {X : FuncId → List AV → AV → List AV → Prop}
theorem nm_spec_l3Block : (Try.f115.name == "runtime.NumGoroutine") = false := by decide
theorem nm_spec_l3End : (Try.f174.name == "runtime.NumGoroutine") = false := by decide
theorem nm_spec_l3Steps : (Try.f116.name == "runtime.NumGoroutine") = false := by decide
theorem nm_spec_l1Max : (Try.f175.name == "runtime.NumGoroutine") = false := by decide

theorem isAt_nat {x : List St} {c : Nat} {k : Int} : isAt x c k ↔ isA x c k := by
  unfold isAt isA opA
  constructor
  · rintro ⟨h1, h2, h3⟩; exact ⟨by omega, h3⟩
  · rintro ⟨h1, h2⟩; exact ⟨by omega, by omega, h2⟩
theorem l3IsA (x : List St) (hx : x.length ≤ 1000) (c : Nat) (k : Int) {r : Bool} (hr : r = true ↔ isA x c k) : Ev Try.prog X (.fn 206 [.im x.length (encL stR x), i64 c, i64 k] (bl r) [.dead, .dead, .dead]) := l3Is x c k (by omega) (hr.trans isAt_nat.symm)
theorem l3IsN (x : List St) (hx : x.length ≤ 1000) (k : Int) : Ev Try.prog X (.fn 206 [.im x.length (encL stR x), i64 (-1), i64 k] (bl false) [.dead, .dead, .dead]) := l3Is x (-1) k (by omega) ⟨fun h => by simp at h, fun h => absurd h.1 (by omega)⟩
def PBlk (X : FuncId → List AV → AV → List AV → Prop) (x : List St) (a : Nat) : Prop := Ev Try.prog X (.fn 115 [.im x.length (encL stR x), i64 a] (i64 (stopI (B x a))) [.dead, .dead])
def PEnd (X : FuncId → List AV → AV → List AV → Prop) (x : List St) (a : Nat) : Prop := Ev Try.prog X (.fn 174 [.im x.length (encL stR x), i64 a] (.tu [i64 (midI (E x a)), i64 (endI (E x a))]) [.dead, .dead])
set_option maxHeartbeats 8000000 in
theorem l3End_of (x : List St) (hx : x.length ≤ 1000) (a : Nat) (ha : a < x.length) (ih : ∀ a', a < a' → PBlk X x a') : PEnd X x a := by
  unfold PEnd
  refine Ev.fnW (env := [(0, .im x.length (encL stR x)), (1, i64 a)]) Try.func174 rfl nm_spec_l3End rfl rfl (by kernel_rfl) (.cons rfl (.cons rfl .nil)) ?_
  refine go2 ?_
  rw [show (a : Int) + 1 = ((a + 1 : Nat) : Int) by omega]
  refine WO.call rfl rfl rfl (ih (a + 1) (by omega)) rfl rfl ?_
  refine go2 ?_
  refine WO.ixN (f := stR) zst rfl rfl rfl ha rfl ?_
  have hop : opA x a = (x.getD a zst).op := rfl
  by_cases hn : nestA x a
  · have hn' := hn
    unfold nestA at hn'
    rw [hop] at hn'
    cases hB : B x (a + 1) with
    | none =>
      have hE : E x a = none := by simp [E, nd, hn, hB]
      rw [hE]
      rcases hn' with h | h | h
      all_goals (
        refine go2 ?_
        repeat' (first
          | exact retVV rfl rfl rfl rfl rfl
          | (refine WO.call rfl rfl rfl (l3IsN x hx _) rfl rfl ?_; refine go2 ?_)))
    | some cb =>
      obtain ⟨c, b⟩ := cb
      rw [show stopI (some (c, b)) = (c : Int) from rfl]
      have hlc := B_le hB
      have e1 : (c : Int) + 1 = ((c + 1 : Nat) : Int) := by omega
      have hcl := B_lt hB (by omega)
      have fin : ∀ {u v : Int} (m : Option (Int × Nat × Ns × Ns)), E x a = m → u = midI m → v = endI m → AV.tu [i64 u, i64 v] = .tu [i64 (midI (E x a)), i64 (endI (E x a))] := fun m h1 h2 h3 => by rw [h1, h2, h3]
      rcases hn' with h | h | h
      · rw [← hop] at h
        refine go2 ?_
        refine WO.callB rfl rfl rfl (l3IsA x hx c 4) rfl (fun h4 => ?_) (fun h4 => ?_)
        · refine go2 ?_
          exact retVV rfl rfl (fin (some (-1, c, b, .nil)) (by simp [E, nd, hn, hB, h4, h]) rfl rfl) rfl rfl
        refine go2 ?_
        refine WO.callB rfl rfl rfl (l3IsA x hx c 3) rfl (fun h3 => ?_) (fun h3 => ?_)
        · refine go2 ?_
          rw [e1]
          refine WO.call rfl rfl rfl (ih (c + 1) (by omega)) rfl rfl ?_
          cases hB2 : B x (c + 1) with
          | none =>
            refine go2 ?_
            refine WO.call rfl rfl rfl (l3IsN x hx _) rfl rfl ?_
            refine go2 ?_
            exact retVV rfl rfl (fin none (by simp [E, nd, hn, hB, h4, h, h3, hB2]) rfl rfl) rfl rfl
          | some eo =>
            obtain ⟨e, o⟩ := eo
            rw [show stopI (some (e, o)) = (e : Int) from rfl]
            refine go2 ?_
            refine WO.callB rfl rfl rfl (l3IsA x hx e 4) rfl (fun h5 => ?_) (fun h5 => ?_)
            · refine go2 ?_
              exact retVV rfl rfl (fin (some (c, e, b, o)) (by simp [E, nd, hn, hB, h4, h, h3, hB2, h5]) rfl rfl) rfl rfl
            · refine go2 ?_
              exact retVV rfl rfl (fin none (by simp [E, nd, hn, hB, h4, h, h3, hB2, h5]) rfl rfl) rfl rfl
        · refine go2 ?_
          exact retVV rfl rfl (fin none (by simp [E, nd, hn, hB, h4, h, h3]) rfl rfl) rfl rfl
      · rw [← hop] at h
        refine go2 ?_
        refine WO.callB rfl rfl rfl (l3IsA x hx c 4) rfl (fun h4 => ?_) (fun h4 => ?_)
        · refine go2 ?_
          exact retVV rfl rfl (fin (some (-1, c, b, .nil)) (by simp [E, nd, hn, hB, h4, h]) rfl rfl) rfl rfl
        · refine go2 ?_
          exact retVV rfl rfl (fin none (by simp [E, nd, hn, hB, h4, h]) rfl rfl) rfl rfl
      · rw [← hop] at h
        refine go2 ?_
        refine WO.callB rfl rfl rfl (l3IsA x hx c 9) rfl (fun h3 => ?_) (fun h3 => ?_)
        · refine go2 ?_
          rw [e1]
          refine WO.call rfl rfl rfl (ih (c + 1) (by omega)) rfl rfl ?_
          cases hB2 : B x (c + 1) with
          | none =>
            refine go2 ?_
            refine WO.call rfl rfl rfl (l3IsN x hx _) rfl rfl ?_
            refine go2 ?_
            exact retVV rfl rfl (fin none (by simp [E, nd, hn, hB, h, h3, hB2]) rfl rfl) rfl rfl
          | some eo =>
            obtain ⟨e, o⟩ := eo
            rw [show stopI (some (e, o)) = (e : Int) from rfl]
            refine go2 ?_
            refine WO.callB rfl rfl rfl (l3IsA x hx e 4) rfl (fun h5 => ?_) (fun h5 => ?_)
            · refine go2 ?_
              exact retVV rfl rfl (fin (some (c, e, b, o)) (by simp [E, nd, hn, hB, h, h3, hB2, h5]) rfl rfl) rfl rfl
            · refine go2 ?_
              exact retVV rfl rfl (fin none (by simp [E, nd, hn, hB, h, h3, hB2, h5]) rfl rfl) rfl rfl
        · refine go2 ?_
          exact retVV rfl rfl (fin none (by simp [E, nd, hn, hB, h, h3]) rfl rfl) rfl rfl
  · have hE : E x a = none := by simp [E, hn]
    rw [hE]
    unfold nestA at hn
    rw [hop] at hn
    refine go2 ?_
    exact retVV rfl rfl rfl rfl rfl
set_option maxHeartbeats 8000000 in
theorem l3Block' (x : List St) (hx : x.length ≤ 1000) : ∀ (k a : Nat), x.length - a ≤ k → PBlk X x a := by
  intro k
  induction k with
  | zero =>
    intro a h
    unfold PBlk
    rw [B_end (by omega)]
    refine Ev.fnW (env := [(0, .im x.length (encL stR x)), (1, i64 a)]) Try.func115 rfl nm_spec_l3Block rfl rfl (by kernel_rfl) (.cons rfl (.cons rfl .nil)) ?_
    refine go2 ?_
    refine WC.loopS (S := Unit) (fun _ => [(0, .im x.length (encL stR x)), (1, i64 a)]) (fun _ => True) (fun _ => 0) () (.cons rfl (.cons rfl .nil)) trivial ?_
    intro _ _
    refine go2 ?_
    exact retV rfl rfl rfl rfl
  | succ k ih =>
    intro a ha
    unfold PBlk
    refine Ev.fnW (env := [(0, .im x.length (encL stR x)), (1, i64 a)]) Try.func115 rfl nm_spec_l3Block rfl rfl (by kernel_rfl) (.cons rfl (.cons rfl .nil)) ?_
    refine go2 ?_
    refine WC.loopS (S := Nat) (fun c => [(0, .im x.length (encL stR x)), (1, i64 c)]) (fun c => a ≤ c ∧ c ≤ x.length + a ∧ stopI (B x a) = stopI (B x c)) (fun c => x.length + a - c) a (.cons rfl (.cons rfl .nil)) ⟨Nat.le_refl _, by omega, rfl⟩ ?_
    rintro c ⟨g1, g2, g3⟩
    have hop : opA x c = (x.getD c zst).op := rfl
    refine go2 ?_
    refine WO.cmp rfl rfl rfl rfl rfl (fun h3 => ?_) (fun h3 => ?_)
    · have hc : c < x.length := by omega
      refine go2 ?_
      refine WO.ixN (f := stR) zst rfl rfl rfl hc rfl ?_
      by_cases hs : stopA x c
      · rw [B_stop hc hs] at g3
        unfold stopA at hs
        rw [hop] at hs
        rcases hs with h | h | h <;> refine go2 ?_ <;> exact retV rfl (congrArg i64 g3.symm) rfl rfl
      by_cases hn : nestA x c
      · have hE := l3End_of (X := X) x hx c hc (fun a' h => ih a' (by omega))
        have hn0 := hn
        unfold nestA at hn
        rw [hop] at hn
        cases hEc : E x c with
        | none =>
          unfold PEnd at hE
          rw [stop_none hc hn0 hEc] at g3
          rw [hEc] at hE
          simp only [midI, endI] at hE
          rcases hn with h | h | h <;> refine go2 ?_ <;> refine WO.call rfl rfl rfl hE rfl rfl ?_ <;> refine go2 ?_ <;> exact retV rfl (congrArg i64 g3.symm) rfl rfl
        | some q =>
          obtain ⟨m, e, b, o⟩ := q
          have hle := E_le hEc
          unfold PEnd at hE
          rw [hEc] at hE
          have g4 : stopI (B x a) = stopI (B x (e + 1)) := g3.trans (stop_some hc hn0 hEc)
          have e1 : (e : Int) + 1 = ((e + 1 : Nat) : Int) := by omega
          have e2 : endI (some (m, e, b, o)) = (e : Int) := rfl
          rw [e2] at hE
          rcases hn with h | h | h <;> refine go2 ?_ <;> refine WO.call rfl rfl rfl hE rfl rfl ?_ <;> refine go2 ?_ <;> rw [e1] <;> exact lpK.mk (e + 1) (.cons rfl (.cons rfl .nil)) ⟨by omega, by omega, g4⟩ (by omega)
      · have g4 : stopI (B x a) = stopI (B x (c + 1)) := g3.trans (stop_leaf hc hs hn)
        have e1 : (c : Int) + 1 = ((c + 1 : Nat) : Int) := by omega
        unfold stopA at hs
        unfold nestA at hn
        rw [hop] at hs hn
        refine go2 ?_
        rw [e1]
        exact lpK.mk (c + 1) (.cons rfl (.cons rfl .nil)) ⟨by omega, by omega, g4⟩ (by omega)
    · rw [B_end (a := c) (by omega)] at g3
      refine go2 ?_
      exact retV rfl (congrArg i64 g3.symm) rfl rfl
theorem l3Block (x : List St) (hx : x.length ≤ 1000) (a : Nat) : Ev Try.prog X (.fn 115 [.im x.length (encL stR x), i64 a] (i64 (stopI (B x a))) [.dead, .dead]) := l3Block' x hx _ a (Nat.le_refl _)
theorem l3End (x : List St) (hx : x.length ≤ 1000) (a : Nat) (ha : a < x.length) : Ev Try.prog X (.fn 174 [.im x.length (encL stR x), i64 a] (.tu [i64 (midI (E x a)), i64 (endI (E x a))]) [.dead, .dead]) := l3End_of x hx a ha (fun a' _ => l3Block' x hx _ a' (Nat.le_refl _))
end Go.Eng.C

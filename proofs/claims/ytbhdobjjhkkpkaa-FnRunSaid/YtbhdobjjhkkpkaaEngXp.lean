/- The law FnEnds, walked by the engine: no case of it fails. -/
import Derived.Test.YtbhdobjjhkkpkaaEngXn
namespace Go.Eng
theorem QE.fld {P : Program} {X : FuncId → List AV → AV → List AV → Prop} {env : Env} {g : Option (Nat × Bool)} {d : Nat} {ty : TypeId} {pos : String} {af : Array Edge} {x : Operand} {s fd off : Nat} {cs : List AV} {c : AV} [hT : FlT P s fd off] (hx : ov (look env) x = .ag cs) (hc : cs[off]? = some c)
    (hg : (match P.underlying s with | some (.struct fs) => (fs[fd]?).bind fun f => aggT P f.type | _ => none) = some false) : Ev P X (.qe ⟨some d, .field s x fd, ty, pos, af, g⟩ (look env) c) := by
  obtain ⟨fs, f', n, h1, h2, h3, h4, rfl⟩ := flT_some hT.h
  rw [h1] at hg
  simp only [h2, Option.bind_some] at hg
  exact .qo (.field1 s x fd cs c fs f' h1 h2 hg hx hc)
end Go.Eng
namespace Go.Eng.C
open Go Go.Eng Go.RowKit Go.Proofs
set_option linter.unusedVariables false
set_option linter.unusedSimpArgs false
set_option maxRecDepth 10000
/-- How many stand open before a place. -/
def bal (x : List St) : Nat → Int
  | 0 => 0
  | a + 1 => bal x a + (if nestA x a then 1 else 0) - (if opA x a = 4 then 1 else 0)
theorem bal_bd (x : List St) : ∀ a : Nat, -(a : Int) ≤ bal x a ∧ bal x a ≤ a
  | 0 => by simp [bal]
  | a + 1 => by
    have := bal_bd x a
    simp only [bal]
    split <;> split <;> omega
theorem bal_bk {x : List St} {a s : Nat} {r : Ns} (h : Bk x a s r) : bal x s = bal x a := by
  induction h with
  | nil => rfl
  | leaf _ hs hn _ ih =>
    rw [ih, bal, if_neg hn, if_neg (by unfold stopA at hs; omega)]; omega
  | @one a e s b r _ hn _ he _ _ ih1 ih2 =>
    have h4 := he.2
    rw [ih2, bal, ih1, bal, if_pos (by unfold nestA; omega), if_neg (by omega), if_neg (by unfold nestA; omega), if_pos h4]; omega
  | @two a c e s b o r _ hn _ _ he _ _ ih1 ih2 ih3 =>
    have h4 := he.2
    have hc : opA x c = 3 ∨ opA x c = 9 := by rcases hn with h | h; exact .inl h.2.2; exact .inr h.2.2
    rw [ih3, bal, ih2, bal, ih1, bal, if_pos (by unfold nestA; omega), if_neg (by omega), if_neg (by unfold nestA; omega), if_neg (by omega), if_neg (by unfold nestA; omega), if_pos h4]; omega
theorem ends_bk {x : List St} {a s : Nat} {r : Ns} (h : Bk x a s r) : ∀ c, a ≤ c → c < s → nestA x c → ∃ m e b o, E x c = some (m, e, b, o) ∧ isA x e 4 := by
  induction h with
  | nil => intro c h1 h2; omega
  | @leaf a s r _ hs hn _ ih =>
    intro c h1 h2 h3
    rcases Nat.lt_or_ge a c with h | h
    · exact ih c h h2 h3
    · have : c = a := by omega
      subst this; exact absurd h3 hn
  | @one a e s b r _ hn hb he hE hr ih1 ih2 =>
    intro c h1 h2 h3
    rcases Nat.lt_or_ge c (a + 1) with h | h
    · have : c = a := by omega
      subst this; exact ⟨_, _, _, _, hE, he⟩
    rcases Nat.lt_or_ge c e with h' | h'
    · exact ih1 c h h' h3
    rcases Nat.lt_or_ge c (e + 1) with h'' | h''
    · have : c = e := by omega
      subst this; have := he.2; unfold nestA at h3; omega
    · exact ih2 c h'' h2 h3
  | @two a d e s b o r _ hn hb ho he hE hr ih1 ih2 ih3 =>
    intro c h1 h2 h3
    have hd : opA x d = 3 ∨ opA x d = 9 := by rcases hn with h | h; exact .inl h.2.2; exact .inr h.2.2
    rcases Nat.lt_or_ge c (a + 1) with h | h
    · have : c = a := by omega
      subst this; exact ⟨_, _, _, _, hE, he⟩
    rcases Nat.lt_or_ge c d with h' | h'
    · exact ih1 c h h' h3
    rcases Nat.lt_or_ge c (d + 1) with h'' | h''
    · have : c = d := by omega
      subst this; unfold nestA at h3; omega
    rcases Nat.lt_or_ge c e with k | k
    · exact ih2 c h'' k h3
    rcases Nat.lt_or_ge c (e + 1) with k' | k'
    · have : c = e := by omega
      subst this; have := he.2; unfold nestA at h3; omega
    · exact ih3 c k' h2 h3
theorem wf_u8 {bs : List Int} (h : bs.length ≤ 9223372036854775807 ∧ ∀ b ∈ bs, (Lit.int .u8 b).wf = true) : ∀ b ∈ bs, 0 ≤ b ∧ b ≤ 255 := by
  intro b hb
  have := h.2 b hb
  simp only [Lit.wf, Bool.and_eq_true, decide_eq_true_eq] at this
  exact this
variable {X : FuncId → List AV → AV → List AV → Prop}
end Go.Eng.C

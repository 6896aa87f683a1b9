/- The engine, part T: the script that takes the plain steps; what is handed back. -/
import Derived.Test.YtdihagagelngiaaEngS
namespace Go.Eng
open Go Go.RowKit
set_option linter.unusedVariables false
set_option linter.unusedSimpArgs false

section
variable {P : Program} {X : FuncId → List AV → AV → List AV → Prop} {rs : List ResultVar} {env : Env} {a res : AV} {fin : List AV} {n t : Nat} {ex : Ex}
/-- A plain value is handed back. -/
theorem retP (hx : ov (look env) (.tmp t) = a) (hp : isPl a = true) (hr : a = res) (hf : fins n (look env) = fin) (hn : fin.all noRf = true) (he : ex = .normal ∨ ex = .ret := by simp) :
    (ex = .normal ∨ ex = .ret) ∧ ∃ as rs σ2, ResL P (look env) [.tmp t] as ∧ TakeL (look env) as rs σ2 ∧ resOf rs = res ∧ fins n σ2 = fin ∧ fin.all noRf = true := by
  subst hr
  exact ⟨he, _, _, look env, .tmp t .nil, .plain (by rw [hx]; exact hp) (.nil _), (by show ov (look env) (.tmp t) = a; exact hx), hf, hn⟩
theorem retV {v : Value} (hx : ov (look env) (.tmp t) = .sc v) (hr : .sc v = res) (hf : fins n (look env) = fin) (hn : fin.all noRf = true) (he : ex = .normal ∨ ex = .ret := by simp) :
    (ex = .normal ∨ ex = .ret) ∧ ∃ as rs σ2, ResL P (look env) [.tmp t] as ∧ TakeL (look env) as rs σ2 ∧ resOf rs = res ∧ fins n σ2 = fin ∧ fin.all noRf = true :=
  retP hx rfl hr hf hn he
/-- A slice that is owned is handed back. -/
theorem retO {e sz m r : Nat} {cs : List AV} (hx : ov (look env) (.tmp t) = .vw r [] 0 m) (hr : look env r = .ow e sz m cs) (hl : cs.length = m * sz) (hres : .ow e sz m cs = res) (hf : fins n (look ((r, .dead) :: env)) = fin) (hn : fin.all noRf = true) (he : ex = .normal ∨ ex = .ret := by simp) :
    (ex = .normal ∨ ex = .ret) ∧ ∃ as rs σ2, ResL P (look env) [.tmp t] as ∧ TakeL (look env) as rs σ2 ∧ resOf rs = res ∧ fins n σ2 = fin ∧ fin.all noRf = true := by
  subst hres
  refine ⟨he, _, [.ow e sz m cs], look ((r, .dead) :: env), .tmp t .nil, ?_, rfl, hf, hn⟩
  rw [hx]
  have := TakeL.vw (σ := look env) (σ' := setS (look env) r [] .dead) (r := r) (n := m) (p := []) (e := e) (sz := sz) (m := m) (cs := cs) (as := []) (ts := []) (by simp [getN, hr]) (Nat.le_refl _) (.nil _)
  rw [List.take_of_length_le (by omega)] at this
  have e2 : setS (look env) r [] .dead = look ((r, .dead) :: env) := by rw [← look_upd]; rfl
  rwa [e2] at this
/-- A struct of plain parts, out of a variable. -/
theorem retC {ty s : Nat} {cs : List AV} [hT : AgT P ty s] (ht : Nat.blt t HB = true) (hx : look env t = .op cs) (hl : cs.length = s) (hp : cs.all isPl = true) (hr : .ag cs = res) (hf : fins n (look env) = fin) (hn : fin.all noRf = true) (he : ex = .normal ∨ ex = .ret := by simp) :
    (ex = .normal ∨ ex = .ret) ∧ ∃ as rs σ2, ResL P (look env) [.cell t ty] as ∧ TakeL (look env) as rs σ2 ∧ resOf rs = res ∧ fins n σ2 = fin ∧ fin.all noRf = true := by
  subst hr
  refine ⟨he, _, _, look env, .cell t ty (.many cs s hT.ht hT.hs hl hT.h0 fun k hk => ?_) .nil, .ag (TakeL.pls hp) (.nil _), rfl, hf, hn⟩
  have hk' : k < cs.length := by omega
  simp only [ov, ht, cond_true, hx, refT, cell, nodeCells, getN, Option.bind_some, Nat.zero_add]
  rw [List.getElem?_eq_getElem hk', Option.map_some, refT_pl (List.all_eq_true.1 hp _ (List.getElem_mem _))]
end
end Go.Eng

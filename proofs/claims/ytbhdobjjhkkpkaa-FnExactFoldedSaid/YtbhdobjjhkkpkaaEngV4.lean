/- Contracts of functions, by the engine: programs compared; marks on numbers, inputs, statements and programs. -/
import Derived.Test.YtbhdobjjhkkpkaaEngV3
namespace Go.Eng
open Go Go.RowKit
section
variable {P : Program} {X : FuncId → List AV → AV → List AV → Prop} {all : Array Oper} {l : List Oper} {R : (Nat → AV) → Prop}
variable {g : Option (Nat × Bool)} {env : Env} {d : Nat} {ty : TypeId} {pos : String} {af : Array Edge}
/-- A call that turns an own part of a variable. -/
theorem WO.callV {fn : FuncId} {x0 : Operand} {xs : List Operand} {ts : Array TypeId} {r a e2 s2 m : Nat} {cs ds ds' : List AV} {az fin : List AV} {res t' : AV} (hg : gg all (look env) g = some true) (hx : ov (look env) x0 = .vw r [a] 0 m) (hr : look env r = .op ds) (hc : ds[a]? = some (.ow e2 s2 m cs)) (hl : cs.length = m * s2) (ha : xs.map (ov (look env)) = az) (hp : az.all isPlA = true)
    (hf : Ev P X (.fn fn (.ow e2 s2 m cs ::  az) res (t' :: fin))) (hi2 : noIm res = true) (hnr : noIm t' = true) (hfl : fin.length = az.length) (hz : ds.set a t' = ds') (hne : nbE r 1 env = true) (hd : nrE d env = true) (hdr : nrA d res = true)
    (k : WO P X all l (look ((d, res) :: (r, .op ds') :: env)) R) : WO P X all (⟨some d, .call { callee := .value (.func fn), args := (x0 :: xs).toArray, argTypes := ts }, ty, pos, af, g⟩ :: l) (look env) R := by
  subst hz
  have hset : ∀ v, setN [a] (look env r) v = .op (ds.set a v) := by
    intro v; simp only [setN, hr, kids, hc, withKids]
  refine WO.callM (p := [a]) hg hx (by simp only [getN, hr, kids, Option.bind_some, hc]) hl ha hp hf (by simp only [hi2, hnr, Bool.and_self]) hfl hne (by rw [hset]; rfl) (by rw [hset]; rfl) (by rw [hset, hset]; simp only [nrE, nrA, hd, Bool.and_self]) hdr ?_
  rw [hset, hset, look_dup2]
  exact k
end
end Go.Eng
namespace Go.Eng.C
open Go Go.Eng Go.RowKit Go.Proofs
set_option linter.unusedVariables false
set_option linter.unusedSimpArgs false
set_option maxRecDepth 10000
variable {X : FuncId → List AV → AV → List AV → Prop}
theorem eqProg (p : Pr) (hB : PB p) : Ev Try.prog X (.fn 21 [.ag (prR p), .ag (prR p)] (bl true) [.dead, .dead]) := by
  obtain ⟨b1, b2, b3, b4, b5⟩ := hB
  refine Ev.fnW (env := [(0, .ag (prR p)), (1, .ag (prR p))]) Try.func21 rfl nm_laws_eqProg rfl rfl (by kernel_rfl) (.cons rfl (.cons rfl .nil)) ?_
  refine go3 ?_
  refine WO.call rfl rfl rfl (eqInputS p.lows p.lows (by omega) (r := true) (by simp)) rfl rfl ?_
  refine go3 ?_
  refine WO.call rfl rfl rfl (eqInputS p.secs p.secs (by omega) (r := true) (by simp)) rfl rfl ?_
  refine go3 ?_
  refine WO.call rfl rfl rfl (eqInt64S p.arrs p.arrs (by omega) (r := true) (by simp)) rfl rfl ?_
  refine go3 ?_
  refine WO.call rfl rfl rfl (eqStmtS p.body p.body (by omega) (fun s hs => by have := b5 s hs; omega) (r := true) (by simp)) rfl rfl ?_
  refine go3 ?_
  exact retV rfl rfl rfl rfl
/-- The marks from m on. -/
def markI : List Int → Int → List Int
  | [], _ => []
  | _ :: l, m => m :: markI l (m + 1)
theorem markI_len : ∀ (l : List Int) (m : Int), (markI l m).length = l.length
  | [], m => rfl
  | t :: l, m => by simp only [markI, List.length_cons, markI_len l]
theorem markInt64S (xs : List Int) (m : Int) (h0 : 0 ≤ m) (hb : m + xs.length ≤ 4611686018427387904) :
    Ev Try.prog X (.fn 44 [.ow 2 1 xs.length (encL eI xs), i64 m] (i64 (m + xs.length)) [.ow 2 1 xs.length (encL eI (markI xs m)), .dead]) := by
  refine Ev.fnW (env := [(0, .vw 1000000 [] 0 xs.length), (1, i64 m), (1000000, .ow 2 1 xs.length (encL eI xs))]) Try.func44 rfl nm_laws_markInt64S rfl rfl (by kernel_rfl) (.cons rfl (.cons rfl (.cons rfl .nil))) ?_
  refine go3 ?_
  refine WC.loopS (S := Nat × Int × List Int) (fun s => [(0, .vw 1000000 [] 0 xs.length), (1, i64 s.2.1), (5, i64 s.1), (1000000, .ow 2 1 xs.length (encL eI s.2.2))]) (fun s => s.1 ≤ xs.length ∧ s.2.1 = m + s.1 ∧ s.2.2.length = xs.length ∧ markI xs m = s.2.2.take s.1 ++ markI (xs.drop s.1) s.2.1) (fun s => xs.length - s.1) (0, m, xs) (.cons rfl (.cons rfl (.cons rfl (.cons rfl .nil)))) ⟨by simp, by simp, rfl, by simp⟩ ?_
  rintro ⟨i, m', ys⟩ ⟨h1, hm, hy, h2⟩
  dsimp only at h1 hm hy h2 ⊢
  refine go3 ?_
  refine WO.cmp rfl rfl rfl rfl rfl (fun h3 => ?_) (fun h3 => ?_)
  · have hi : i < xs.length := by omega
    rw [drop_getD hi 0, markI] at h2
    refine go3 ?_
    refine WO.ixM rfl rfl rfl (by rw [encL_length]; omega) rfl hi rfl rfl ?_
    refine go3 ?_
    refine WO.stE (f := eI) (i := i) (j := 0) 0 m' rfl rfl (by omega) (by omega) rfl rfl (by omega) rfl rfl ?_
    refine go3 ?_
    refine lpK.mk (i + 1, m' + 1, ys.set i m') (.cons rfl (.cons rfl (.cons rfl (.cons rfl .nil)))) ⟨by simp only; omega, by simp only; omega, by simp only [List.length_set, hy], ?_⟩ (by simp only; omega)
    dsimp only
    rw [h2, take_set (by omega), List.append_assoc]; rfl
  · have e : i = xs.length := by omega
    subst e
    have e2 : ys = markI xs m := by rw [h2, List.drop_length, markI, List.append_nil, List.take_of_length_le (by omega)]
    subst hm
    refine go3 ?_
    exact retV rfl rfl (by rw [← e2]; rfl) rfl
theorem markI_drop {xs : List Int} {m : Int} : ∀ {i : Nat}, i < xs.length → (markI xs m).getD i 0 = m + i := by
  induction xs generalizing m with
  | nil => intro i h; simp at h
  | cons x l ih =>
    intro i h
    cases i with
    | zero => simp [markI]
    | succ i =>
      simp only [markI, List.getD_cons_succ]
      rw [ih (by simpa using h)]; omega
theorem heldInt64S (xs : List Int) (m : Int) (h0 : 0 ≤ m) (hb : m + xs.length ≤ 4611686018427387904) :
    Ev Try.prog X (.fn 91 [.im (markI xs m).length (encL eI (markI xs m)), i64 m] (i64 (m + xs.length)) [.dead, .dead]) := by
  have hl := markI_len xs m
  refine Ev.fnW (env := [(0, .im (markI xs m).length (encL eI (markI xs m))), (1, i64 m)]) Try.func91 rfl nm_laws_heldInt64S rfl rfl (by kernel_rfl) (.cons rfl (.cons rfl .nil)) ?_
  refine go3 ?_
  refine WC.loopS (S := Nat) (fun i => [(0, .im (markI xs m).length (encL eI (markI xs m))), (1, i64 (m + i)), (5, i64 i)]) (fun i => i ≤ (markI xs m).length) (fun i => (markI xs m).length - i) 0 (.cons rfl (.cons (show i64 m = i64 (m + ((0 : Nat) : Int)) from congrArg i64 (by omega)) (.cons rfl .nil))) (Nat.zero_le _) ?_
  intro i h1
  refine go3 ?_
  refine WO.cmp rfl rfl rfl rfl rfl (fun h3 => ?_) (fun h3 => ?_)
  · have hi : i < (markI xs m).length := by omega
    have hg := markI_drop (xs := xs) (m := m) (i := i) (by omega)
    refine go3 ?_
    refine WO.ixN (f := eI) 0 rfl rfl rfl hi rfl ?_
    rw [hg]
    refine go3 ?_
    exact lpK.mk (i + 1) (.cons rfl (.cons (show i64 (m + i + 1) = i64 (m + ((i + 1 : Nat) : Int)) from congrArg i64 (by omega)) (.cons rfl .nil))) hi (show (markI xs m).length - (i + 1) < (markI xs m).length - i by omega)
  · have e : (i : Int) = xs.length := by omega
    refine go3 ?_
    exact retV rfl (by rw [e]) rfl rfl
/-- Inputs marked from m on. -/
def markN : List Inp → Int → List Inp
  | [], _ => []
  | _ :: l, m => ⟨m, m + 1⟩ :: markN l (m + 2)
theorem markN_len : ∀ (l : List Inp) (m : Int), (markN l m).length = l.length
  | [], m => rfl
  | t :: l, m => by simp only [markN, List.length_cons, markN_len l]
theorem markInputS (xs : List Inp) (m : Int) (h0 : 0 ≤ m) (hx : xs.length ≤ 1152921504606846976) (hb : m + 2 * xs.length ≤ 4611686018427387904) :
    Ev Try.prog X (.fn 89 [.ow 143 2 xs.length (encL inp xs), i64 m] (i64 (m + 2 * xs.length)) [.ow 143 2 xs.length (encL inp (markN xs m)), .dead]) := by
  refine Ev.fnW (env := [(0, .vw 1000000 [] 0 xs.length), (1, i64 m), (1000000, .ow 143 2 xs.length (encL inp xs))]) Try.func89 rfl nm_laws_markInputS rfl rfl (by kernel_rfl) (.cons rfl (.cons rfl (.cons rfl .nil))) ?_
  refine go3 ?_
  refine WC.loopS (S := Nat × Int × List Inp) (fun s => [(0, .vw 1000000 [] 0 xs.length), (1, i64 s.2.1), (5, i64 s.1), (1000000, .ow 143 2 xs.length (encL inp s.2.2))]) (fun s => s.1 ≤ xs.length ∧ s.2.1 = m + 2 * s.1 ∧ s.2.2.length = xs.length ∧ markN xs m = s.2.2.take s.1 ++ markN (xs.drop s.1) s.2.1) (fun s => xs.length - s.1) (0, m, xs) (.cons rfl (.cons rfl (.cons rfl (.cons rfl .nil)))) ⟨by simp, by simp, rfl, by simp⟩ ?_
  rintro ⟨i, m', ys⟩ ⟨h1, hm, hy, h2⟩
  dsimp only at h1 hm hy h2 ⊢
  refine go3 ?_
  refine WO.cmp rfl rfl rfl rfl rfl (fun h3 => ?_) (fun h3 => ?_)
  · have hi : i < xs.length := by omega
    rw [drop_getD hi zin, markN] at h2
    refine go3 ?_
    refine WO.ixM rfl rfl rfl (by rw [encL_length]; omega) rfl hi rfl rfl ?_
    refine go3 ?_
    refine WO.stE (f := inp) (i := i) (j := 0) zin ⟨m', (ys.getD i zin).bud⟩ rfl rfl rfl (by omega) rfl rfl (by omega) rfl rfl ?_
    refine go3 ?_
    refine WO.ixM rfl rfl rfl (by rw [encL_length, List.length_set]; omega) rfl hi rfl rfl ?_
    refine go3 ?_
    refine WO.stE (f := inp) (i := i) (j := 1) zin ⟨m', m' + 1⟩ rfl rfl rfl (by omega) rfl rfl (by rw [List.length_set]; omega) rfl (by rw [getD_set_self (by omega)]; rfl) ?_
    rw [List.set_set]
    refine go3 ?_
    refine lpK.mk (i + 1, m' + 1 + 1, ys.set i ⟨m', m' + 1⟩) (.cons rfl (.cons rfl (.cons rfl (.cons rfl .nil)))) ⟨by simp only; omega, by simp only; omega, by simp only [List.length_set, hy], ?_⟩ (by simp only; omega)
    dsimp only
    rw [h2, take_set (by omega), List.append_assoc, show m' + 1 + 1 = m' + 2 by omega]; rfl
  · have e : i = xs.length := by omega
    subst e
    have e2 : ys = markN xs m := by rw [h2, List.drop_length, markN, List.append_nil, List.take_of_length_le (by omega)]
    subst hm
    refine go3 ?_
    exact retV rfl rfl (by rw [← e2]; rfl) rfl
end Go.Eng.C

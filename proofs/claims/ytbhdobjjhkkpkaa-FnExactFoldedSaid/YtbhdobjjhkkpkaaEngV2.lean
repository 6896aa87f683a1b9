/- Contracts of functions, by the engine: numbers, inputs, statements and programs as laws read, copy, compare and mark them. -/
import Derived.Test.YtbhdobjjhkkpkaaEngXe
import Derived.Test.YtbhdobjjhkkpkaaEngB6
namespace Go.Eng.C
open Go Go.Eng Go.RowKit Go.Proofs
set_option linter.unusedVariables false
set_option linter.unusedSimpArgs false
set_option maxRecDepth 10000
variable {X : FuncId → List AV → AV → List AV → Prop}
theorem nm_laws_szInt64S : (Try.f64.name == "runtime.NumGoroutine") = false := by decide
theorem nm_laws_szInputS : (Try.f63.name == "runtime.NumGoroutine") = false := by decide
theorem nm_laws_toInput : (Try.f142.name == "runtime.NumGoroutine") = false := by decide
theorem nm_laws_eqInput : (Try.f150.name == "runtime.NumGoroutine") = false := by decide
theorem nm_laws_toInputS : (Try.f70.name == "runtime.NumGoroutine") = false := by decide
theorem nm_laws_eqInputS : (Try.f77.name == "runtime.NumGoroutine") = false := by decide
theorem nm_laws_toInt64S : (Try.f40.name == "runtime.NumGoroutine") = false := by decide
theorem nm_laws_eqInt64S : (Try.f43.name == "runtime.NumGoroutine") = false := by decide
theorem nm_laws_toStmt : (Try.f143.name == "runtime.NumGoroutine") = false := by decide
theorem nm_laws_eqStmt : (Try.f151.name == "runtime.NumGoroutine") = false := by decide
theorem nm_laws_toStmtS : (Try.f71.name == "runtime.NumGoroutine") = false := by decide
theorem nm_laws_eqStmtS : (Try.f78.name == "runtime.NumGoroutine") = false := by decide
theorem nm_laws_szStmt : (Try.f136.name == "runtime.NumGoroutine") = false := by decide
theorem nm_laws_szStmtS : (Try.f65.name == "runtime.NumGoroutine") = false := by decide
theorem nm_laws_szProg : (Try.f13.name == "runtime.NumGoroutine") = false := by decide
theorem nm_laws_toProg : (Try.f17.name == "runtime.NumGoroutine") = false := by decide
theorem nm_laws_eqProg : (Try.f21.name == "runtime.NumGoroutine") = false := by decide
theorem nm_laws_markInt64S : (Try.f44.name == "runtime.NumGoroutine") = false := by decide
theorem nm_laws_markInputS : (Try.f89.name == "runtime.NumGoroutine") = false := by decide
theorem nm_laws_markStmtS : (Try.f90.name == "runtime.NumGoroutine") = false := by decide
theorem nm_laws_markProg : (Try.f29.name == "runtime.NumGoroutine") = false := by decide
theorem nm_laws_heldInt64S : (Try.f91.name == "runtime.NumGoroutine") = false := by decide
theorem szInt64S (n : Nat) (cs : List AV) (left : Int) (h0 : 0 ≤ left) (h1 : left ≤ 4611686018427387904) (hn : n ≤ 9223372036854775807) :
    Ev Try.prog X (.fn 64 [.im n cs, i64 left] (i64 (if left - n < 0 then -1 else left - n)) [.dead, .dead]) := by
  refine Ev.fnW (env := [(0, .im n cs), (1, i64 left)]) Try.func64 rfl nm_laws_szInt64S rfl rfl (by kernel_rfl) (.cons rfl (.cons rfl .nil)) ?_
  refine go ?_
  refine WO.cmp rfl rfl rfl rfl rfl (fun h => ?_) (fun h => ?_)
  · refine go ?_
    exact retV rfl (by rw [if_pos h]) rfl rfl
  · refine go ?_
    exact retV rfl (by rw [if_neg h]) rfl rfl
theorem szInputS (n : Nat) (cs : List AV) (left : Int) (h0 : 0 ≤ left) (h1 : left ≤ 4611686018427387904) (hn : n ≤ 9223372036854775807) :
    Ev Try.prog X (.fn 63 [.im n cs, i64 left] (i64 (if left - n < 0 then -1 else left - n)) [.dead, .dead]) := by
  refine Ev.fnW (env := [(0, .im n cs), (1, i64 left)]) Try.func63 rfl nm_laws_szInputS rfl rfl (by kernel_rfl) (.cons rfl (.cons rfl .nil)) ?_
  refine go ?_
  refine WO.cmp rfl rfl rfl rfl rfl (fun h => ?_) (fun h => ?_)
  · refine go ?_
    exact retV rfl (by rw [if_pos h]) rfl rfl
  · refine go ?_
    exact retV rfl (by rw [if_neg h]) rfl rfl
/-- All parts of a struct that lies in a node. -/
theorem takeAgQ {env : Env} {r : Nat} {p : List Nat} {cs : List AV} {y : AV} (hr : getN p (look env r) = some (.ag cs)) (hw : whL cs = true) (hy : setN p (look env r) (hole (.ag cs)) = y) : TakeL (look env) [.ag (refL r p 0 cs)] [.ag cs] (look ((r, y) :: env)) := by
  subst hy
  have h := TakeL.whole (r := r) (.ag cs) (σ := look env) (σ' := setS (look env) r p (hole (.ag cs))) (p := p) hw hr (.nil _)
  rw [setS_look] at h
  simpa only [refT] using h
def zin : Inp := ⟨0, 0⟩
theorem Inp.ext2 {a b : Inp} : a = b ↔ a.max = b.max ∧ a.bud = b.bud := by
  cases a; cases b; simp
theorem toInput (t : Inp) : Ev Try.prog X (.fn 142 [.ag (inp t)] (.ag (inp t)) [.dead]) := by
  refine Ev.fnW (env := [(0, .ag (inp t))]) Try.func142 rfl nm_laws_toInput rfl rfl (by kernel_rfl) (.cons rfl .nil) ?_
  refine go ?_
  refine WO.boxA rfl rfl rfl rfl rfl ?_
  refine WO.alloc rfl rfl ?_
  refine go ?_
  refine WO.alloc rfl rfl ?_
  refine go ?_
  refine WO.st rfl rfl rfl rfl rfl rfl rfl ?_
  refine go ?_
  refine WO.st (cs' := inp t) rfl rfl rfl rfl rfl rfl rfl ?_
  refine go ?_
  refine WO.stA rfl rfl rfl rfl rfl rfl rfl rfl rfl ?_
  refine go ?_
  exact retC rfl rfl rfl rfl rfl rfl rfl
theorem eqInput (a b : Inp) {r : Bool} (hr : r = true ↔ a = b) : Ev Try.prog X (.fn 150 [.ag (inp a), .ag (inp b)] (bl r) [.dead, .dead]) := by
  rw [Inp.ext2] at hr
  refine Ev.fnW (env := [(0, .ag (inp a)), (1, .ag (inp b))]) Try.func150 rfl nm_laws_eqInput rfl rfl (by kernel_rfl) (.cons rfl (.cons rfl .nil)) ?_
  refine go ?_
  refine WO.boxA rfl rfl rfl rfl rfl ?_
  refine WO.boxA rfl rfl rfl rfl rfl ?_
  refine go ?_
  refine WO.cmp rfl rfl rfl rfl rfl (fun h => ?_) (fun h => ?_)
  · refine go ?_
    exact retV rfl (by cases r <;> simp_all) rfl rfl
  · refine go ?_
    refine WO.cmp rfl rfl rfl rfl rfl (fun h2 => ?_) (fun h2 => ?_)
    · refine go ?_
      exact retV rfl (by cases r <;> simp_all) rfl rfl
    · refine go ?_
      exact retV rfl (by have : a.max = b.max := by omega
                         have : a.bud = b.bud := by omega
                         cases r <;> simp_all) rfl rfl
theorem toInputS (xs : List Inp) (hl : xs.length ≤ 8796093022208) : Ev Try.prog X (.fn 70 [.im xs.length (encL inp xs)] (.ow 143 2 xs.length (encL inp xs)) [.dead]) := by
  refine Ev.fnW (env := [(0, .im xs.length (encL inp xs))]) Try.func70 rfl nm_laws_toInputS rfl rfl (by kernel_rfl) (.cons rfl .nil) ?_
  refine go ?_
  refine WO.mk (f := inp) zin rfl rfl rfl rfl (by omega) (by unfold maxLen; omega) rfl ?_
  refine go ?_
  refine WC.loopS (S := Nat) (fun i => [(0, .im xs.length (encL inp xs)), (4, i64 i), (3, .ow 143 2 xs.length (encL inp (xs.take i ++ List.replicate (xs.length - i) zin)))]) (fun i => i ≤ xs.length) (fun i => xs.length - i) 0 (.cons rfl (.cons rfl (.cons rfl .nil))) (by simp) ?_
  intro i h1
  refine go ?_
  refine WO.cmp rfl rfl rfl rfl rfl (fun h => ?_) (fun h => ?_)
  · refine go ?_
    refine WO.ixI (f := inp) rfl zin rfl rfl (by omega) (by omega) rfl ?_
    refine WO.ldIA rfl rfl rfl rfl rfl ?_
    refine WO.call rfl rfl rfl (toInput _) rfl rfl ?_
    refine WO.ixO rfl rfl rfl (by rw [encL_length, fill_len h1]; omega) rfl (by omega) (by omega) rfl rfl ?_
    refine WO.stEA (i := i) (xs.getD i zin) rfl rfl (by simp) rfl rfl rfl (by rw [fill_len h1]; omega) rfl ?_
    rw [fill_next (by omega)]
    refine go ?_
    exact lpK.mk (i + 1) (.cons rfl (.cons rfl (.cons rfl .nil))) (by omega) (by omega)
  · have e : i = xs.length := by omega
    subst e
    refine go ?_
    exact retO rfl rfl (by rw [encL_length, fill_len h1]) (by simp) rfl rfl
theorem eqInputS (a b : List Inp) (hl : a.length ≤ 1152921504606846976) {r : Bool} (hr : r = true ↔ a = b) : Ev Try.prog X (.fn 77 [.im a.length (encL inp a), .im b.length (encL inp b)] (bl r) [.dead, .dead]) := by
  refine Ev.fnW (env := [(0, .im a.length (encL inp a)), (1, .im b.length (encL inp b))]) Try.func77 rfl nm_laws_eqInputS rfl rfl (by kernel_rfl) (.cons rfl (.cons rfl .nil)) ?_
  refine go ?_
  refine WO.cmp rfl rfl rfl rfl rfl (fun h => ?_) (fun h => ?_)
  · refine go ?_
    exact retV rfl (by
      have : a ≠ b := by rintro rfl; exact h rfl
      cases r <;> simp_all) rfl rfl
  have h : a.length = b.length := by omega
  refine go ?_
  refine WC.loopS (S := Nat) (fun i => [(0, .im a.length (encL inp a)), (1, .im b.length (encL inp b)), (5, i64 i)]) (fun i => i ≤ a.length ∧ ∀ j < i, a.getD j zin = b.getD j zin) (fun i => a.length - i) 0 (.cons rfl (.cons rfl (.cons rfl .nil))) ⟨by simp, by simp⟩ ?_
  rintro i ⟨h1, h2⟩
  refine go ?_
  refine WO.cmp rfl rfl rfl rfl rfl (fun h3 => ?_) (fun h3 => ?_)
  · refine go ?_
    obtain ⟨q, hq⟩ : ∃ q : Bool, q = true ↔ a.getD (i : Int).toNat zin = b.getD (i : Int).toNat zin := by
      by_cases he : a.getD (i : Int).toNat zin = b.getD (i : Int).toNat zin
      · exact ⟨true, by simp only [he]⟩
      · exact ⟨false, by simp only [he]; simp⟩
    refine WC.regionD ⟨[[], [], [0, 1], [0, 1, 2], [], [], [4, 5], [4, 5, 6], [0, 1, 2, 3, 4, 5, 6, 7], [0, 1, 2, 3, 4, 5, 6, 7, 8]], [0, 1, 2, 3, 4, 5, 6, 7, 8, 9], [], [17, 18, 19, 20, 21, 22, 23, 24, 25, 26], [0, 1, 2, 3, 4, 5, 6, 7, 8, 9], [([18, 21, 22, 23, 24], [18, 21, 22, 23, 24], false), ([17, 21, 22, 23, 24], [17, 21, 22, 23, 24], false), ([21, 22, 23, 24], [21, 22, 23, 24], false), ([21, 22, 23, 24], [21, 22, 23, 24], false), ([17, 18, 19, 20, 22], [17, 18, 19, 20, 22], false), ([17, 18, 19, 20, 21], [17, 18, 19, 20, 21], false), ([17, 18, 19, 20], [17, 18, 19, 20], false), ([17, 18, 19, 20], [17, 18, 19, 20], false), ([], [], false), ([], [], false)]⟩ (by kernel_rfl) rfl ?_
    refine WD.q rfl rfl rfl rfl rfl (QE.mvIm (.move _) rfl) rfl rfl rfl ?_
    refine WD.q rfl rfl rfl rfl rfl (QE.mvSc (.move _) rfl) rfl rfl rfl ?_
    refine WD.q rfl rfl rfl rfl rfl (QE.ixI (f := inp) zin rfl rfl (by omega) (by omega)) rfl rfl rfl ?_
    refine WD.q rfl rfl rfl rfl rfl (QE.ldIA rfl rfl) rfl rfl rfl ?_
    refine WD.q rfl rfl rfl rfl rfl (QE.mvIm (.move _) rfl) rfl rfl rfl ?_
    refine WD.q rfl rfl rfl rfl rfl (QE.mvSc (.move _) rfl) rfl rfl rfl ?_
    refine WD.q rfl rfl rfl rfl rfl (QE.ixI (f := inp) zin rfl rfl (by omega) (by omega)) rfl rfl rfl ?_
    refine WD.q rfl rfl rfl rfl rfl (QE.ldIA rfl rfl) rfl rfl rfl ?_
    refine WD.q rfl rfl rfl rfl rfl (QE.call rfl rfl (eqInput _ _ hq)) rfl rfl rfl ?_
    refine WD.q rfl rfl rfl rfl rfl (QE.not rfl) rfl rfl rfl ?_
    refine WD.nil ?_
    refine go ?_
    rw [Int.toNat_natCast] at hq
    refine WC.cond rfl (fun h4 => ?_) (fun h4 => ?_)
    · refine go ?_
      exact retV rfl (by
        have : a ≠ b := by rintro rfl; simp_all
        cases r <;> simp_all) rfl rfl
    · refine go ?_
      refine lpK.mk (i + 1) (.cons rfl (.cons rfl (.cons rfl .nil))) ⟨by omega, ?_⟩ (by omega)
      intro j hj
      by_cases e : j = i
      · subst e; apply hq.1; cases q <;> simp_all
      · exact h2 j (by omega)
  · refine go ?_
    exact retV rfl (by
      have : a = b := getD_ext h (fun j hj => h2 j (by omega))
      cases r <;> simp_all) rfl rfl

theorem toInt64S (xs : List Int) (hl : xs.length ≤ 8796093022208) : Ev Try.prog X (.fn 40 [.im xs.length (encL eI xs)] (.ow 2 1 xs.length (encL eI xs)) [.dead]) := by
  refine Ev.fnW (env := [(0, .im xs.length (encL eI xs))]) Try.func40 rfl nm_laws_toInt64S rfl rfl (by kernel_rfl) (.cons rfl .nil) ?_
  refine go3 ?_
  refine WO.mk (f := eI) 0 rfl rfl rfl rfl (by omega) (by unfold maxLen; omega) rfl ?_
  refine go3 ?_
  refine WC.loopS (S := Nat) (fun i => [(0, .im xs.length (encL eI xs)), (4, i64 i), (3, .ow 2 1 xs.length (encL eI (xs.take i ++ List.replicate (xs.length - i) 0)))]) (fun i => i ≤ xs.length) (fun i => xs.length - i) 0 (.cons rfl (.cons rfl (.cons rfl .nil))) (by simp) ?_
  intro i h1
  refine go3 ?_
  refine WO.cmp rfl rfl rfl rfl rfl (fun h => ?_) (fun h => ?_)
  · have hi : i < xs.length := by omega
    refine go3 ?_
    refine WO.ixN (f := eI) 0 rfl rfl rfl hi rfl ?_
    refine go3 ?_
    refine WO.ixM rfl rfl rfl (by rw [encL_length, fill_len h1]; omega) rfl hi rfl rfl ?_
    refine go3 ?_
    refine WO.stE (f := eI) (i := i) (j := 0) 0 (xs.getD i 0) rfl rfl (by omega) (by omega) rfl rfl (by rw [fill_len h1]; omega) rfl rfl ?_
    rw [fill_next hi]
    refine go3 ?_
    exact lpK.mk (i + 1) (.cons rfl (.cons rfl (.cons rfl .nil))) (by omega) (by omega)
  · have e : i = xs.length := by omega
    subst e
    refine go3 ?_
    exact retO rfl rfl (by rw [encL_length, fill_len h1]) (by simp) rfl rfl
theorem eqInt64S (a b : List Int) (hl : a.length ≤ 1152921504606846976) {r : Bool} (hr : r = true ↔ a = b) : Ev Try.prog X (.fn 43 [.im a.length (encL eI a), .im b.length (encL eI b)] (bl r) [.dead, .dead]) := by
  refine Ev.fnW (env := [(0, .im a.length (encL eI a)), (1, .im b.length (encL eI b))]) Try.func43 rfl nm_laws_eqInt64S rfl rfl (by kernel_rfl) (.cons rfl (.cons rfl .nil)) ?_
  refine go3 ?_
  refine WO.cmp rfl rfl rfl rfl rfl (fun h => ?_) (fun h => ?_)
  · refine go3 ?_
    exact retV rfl (by
      have : a ≠ b := by rintro rfl; exact h rfl
      cases r <;> simp_all) rfl rfl
  have h : a.length = b.length := by omega
  refine go3 ?_
  refine WC.loopS (S := Nat) (fun i => [(0, .im a.length (encL eI a)), (1, .im b.length (encL eI b)), (5, i64 i)]) (fun i => i ≤ a.length ∧ ∀ j < i, a.getD j 0 = b.getD j 0) (fun i => a.length - i) 0 (.cons rfl (.cons rfl (.cons rfl .nil))) ⟨by simp, by simp⟩ ?_
  rintro i ⟨h1, h2⟩
  refine go3 ?_
  refine WO.cmp rfl rfl rfl rfl rfl (fun h3 => ?_) (fun h3 => ?_)
  · have hi : i < a.length := by omega
    have hi2 : i < b.length := by omega
    refine go3 ?_
    refine WC.regionDd ⟨[[], [], [0, 1], [0, 1, 2], [], [], [4, 5], [4, 5, 6], [0, 1, 2, 3, 4, 5, 6, 7]], [0, 1, 2, 3, 4, 5, 6, 7, 8], [], [17, 18, 19, 20, 21, 22, 23, 24, 25], [0, 1, 2, 3, 4, 5, 6, 7, 8], [([18, 21, 22, 23, 24], [18, 21, 22, 23, 24], false), ([17, 21, 22, 23, 24], [17, 21, 22, 23, 24], false), ([21, 22, 23, 24], [21, 22, 23, 24], false), ([21, 22, 23, 24], [21, 22, 23, 24], false), ([17, 18, 19, 20, 22], [17, 18, 19, 20, 22], false), ([17, 18, 19, 20, 21], [17, 18, 19, 20, 21], false), ([17, 18, 19, 20], [17, 18, 19, 20], false), ([17, 18, 19, 20], [17, 18, 19, 20], false), ([], [], false)]⟩ (by kernel_rfl) ?_
    refine go3 ?_
    refine WD.q rfl rfl rfl rfl rfl (QE.ixN (f := eI) 0 rfl rfl hi) rfl rfl rfl ?_
    refine go3 ?_
    refine WD.q rfl rfl rfl rfl rfl (QE.ixN (f := eI) 0 rfl rfl hi2) rfl rfl rfl ?_
    refine go3 ?_
    by_cases h4 : a.getD i 0 = b.getD i 0
    · refine WD.q rfl rfl rfl rfl rfl (QE.cmpF rfl rfl rfl (fun h => h h4)) rfl rfl rfl ?_
      refine go3 ?_
      refine lpK.mk (i + 1) (.cons rfl (.cons rfl (.cons rfl .nil))) ⟨by omega, ?_⟩ (by omega)
      intro j hj
      by_cases e : j = i
      · subst e; exact h4
      · exact h2 j (by omega)
    · refine WD.q rfl rfl rfl rfl rfl (QE.cmpT rfl rfl rfl h4) rfl rfl rfl ?_
      refine go3 ?_
      exact retV rfl (by
        have : a ≠ b := by rintro rfl; exact h4 rfl
        cases r <;> simp_all) rfl rfl
  · refine go3 ?_
    exact retV rfl (by
      have : a = b := getD_ext h (fun j hj => h2 j (by omega))
      cases r <;> simp_all) rfl rfl
/-- A statement, owned. -/
def stO (s : St) : List AV := [i64 s.op, i64 s.n, .ow 93 2 s.pl.length (encL tm s.pl), .ow 93 2 s.ex.length (encL tm s.ex)]
instance : Wid stO 4 := ⟨fun _ => rfl⟩
theorem whL_stO (s : St) : whL (stO s) = true := by simp [stO, whL, whA, encL_length]
theorem toStmt (s : St) (h1 : s.pl.length ≤ 1048576) (h2 : s.ex.length ≤ 1048576) : Ev Try.prog X (.fn 143 [.ag (stR s)] (.ag (stO s)) [.dead]) := by
  refine Ev.fnW (env := [(0, .ag (stR s))]) Try.func143 rfl nm_laws_toStmt rfl rfl (by kernel_rfl) (.cons rfl .nil) ?_
  refine go3 ?_
  refine WO.st (cs' := [i64 s.op, i64 0, .nl, .nl]) rfl rfl rfl rfl rfl rfl rfl ?_
  refine go3 ?_
  refine WO.st (cs' := [i64 s.op, i64 s.n, .nl, .nl]) rfl rfl rfl rfl rfl rfl rfl ?_
  refine go3 ?_
  refine WO.call rfl rfl rfl (toTermS s.pl (by omega)) rfl rfl ?_
  refine go3 ?_
  refine WO.stOp (cs' := [i64 s.op, i64 s.n, .ow 93 2 s.pl.length (encL tm s.pl), .nl]) rfl rfl rfl rfl (encL_length _) rfl rfl rfl rfl rfl ?_
  refine go3 ?_
  refine WO.call rfl rfl rfl (toTermS s.ex (by omega)) rfl rfl ?_
  refine go3 ?_
  refine WO.stOp (cs' := stO s) rfl rfl rfl rfl (encL_length _) rfl rfl rfl rfl rfl ?_
  refine go3 ?_
  refine WO.q rfl (QE.ldG rfl rfl rfl (L := [i64 s.op, i64 s.n, .vw 3 [2] 0 s.pl.length, .vw 3 [3] 0 s.ex.length]) rfl) rfl rfl ?_
  refine WO.stG (env1 := (3, .op [i64 s.op, i64 s.n, .dead, .dead]) :: _) (vs := stO s) rfl rfl rfl (.ag (takeVr (r := 3) (cs := stO s) rfl (whL_stO s)) (.nil _)) rfl rfl rfl rfl ?_
  refine go3 ?_
  exact retCG rfl rfl rfl (whL_stO s) rfl rfl rfl
/-- What an element of a slice of statements may hold: two numbers and two slices, owned, gone or nil. -/
structure LS where
  a : Int
  b : Int
  p : AV
  q : AV
def eLS (s : LS) : List AV := [i64 s.a, i64 s.b, s.p, s.q]
instance : Wid eLS 4 := ⟨fun _ => rfl⟩
def loS (s : St) : LS := ⟨s.op, s.n, .ow 93 2 s.pl.length (encL tm s.pl), .ow 93 2 s.ex.length (encL tm s.ex)⟩
theorem encL_loS (l : List St) : encL eLS (l.map loS) = encL stO l := by simp only [encL, List.flatMap_map]; rfl
def zLS : LS := ⟨0, 0, .nl, .nl⟩
theorem map_fill {l : List St} {i : Nat} (h : i < l.length) : ((l.take i).map loS ++ List.replicate (l.length - i) zLS).set i (loS (l.getD i ⟨0, 0, [], []⟩)) = (l.take (i + 1)).map loS ++ List.replicate (l.length - (i + 1)) zLS := by
  have := fill_next (xs := l.map loS) (z := zLS) (i := i) (by simpa using h)
  simp only [List.length_map] at this
  rw [← List.map_take, ← List.map_take] at this
  rw [← this]
  congr 1
  simp [List.getD_eq_getElem?_getD, h]
theorem toStmtS (xs : List St) (hl : xs.length ≤ 1048576) (hs : ∀ s ∈ xs, s.pl.length ≤ 1048576 ∧ s.ex.length ≤ 1048576) : Ev Try.prog X (.fn 71 [.im xs.length (encL stR xs)] (.ow 122 4 xs.length (encL stO xs)) [.dead]) := by
  refine Ev.fnW (env := [(0, .im xs.length (encL stR xs))]) Try.func71 rfl nm_laws_toStmtS rfl rfl (by kernel_rfl) (.cons rfl .nil) ?_
  refine go3 ?_
  refine WO.mk (f := eLS) zLS rfl rfl rfl rfl (by omega) (by unfold maxLen; omega) rfl ?_
  refine go3 ?_
  refine WC.loopS (S := Nat) (fun i => [(0, .im xs.length (encL stR xs)), (4, i64 i), (3, .ow 122 4 xs.length (encL eLS ((xs.take i).map loS ++ List.replicate (xs.length - i) zLS)))]) (fun i => i ≤ xs.length) (fun i => xs.length - i) 0 (.cons rfl (.cons rfl (.cons rfl .nil))) (by simp) ?_
  intro i h1
  have hle : ((xs.take i).map loS ++ List.replicate (xs.length - i) zLS).length = xs.length := by simp; omega
  refine go3 ?_
  refine WO.cmp rfl rfl rfl rfl rfl (fun h => ?_) (fun h => ?_)
  · have hi : i < xs.length := by omega
    have hm : xs.getD i ⟨0, 0, [], []⟩ ∈ xs := by simp [List.getD_eq_getElem?_getD, hi]
    obtain ⟨k1, k2⟩ := hs _ hm
    have hf := map_fill hi
    refine go3 ?_
    refine WO.ixN (f := stR) ⟨0, 0, [], []⟩ rfl rfl rfl hi rfl ?_
    generalize xs.getD i ⟨0, 0, [], []⟩ = s at *
    refine go3 ?_
    refine WO.call rfl rfl rfl (toStmt s k1 k2) rfl rfl ?_
    refine go3 ?_
    refine WO.ixM rfl rfl rfl (by rw [encL_length, hle]; omega) rfl hi rfl rfl ?_
    refine WO.stGA (f := eLS) (i := i) (loS s) rfl rfl (by omega) rfl (takeAgQ (r := 20) (p := []) (cs := eLS (loS s)) rfl (whL_stO s) rfl) ⟨_, rfl⟩ rfl (by rw [hle]; exact hi) rfl ?_
    rw [hf]
    refine go3 ?_
    exact lpK.mk (i + 1) (.cons rfl (.cons rfl (.cons rfl .nil))) (by omega) (by omega)
  · have e : i = xs.length := by omega
    subst e
    refine go3 ?_
    exact retO rfl rfl (by rw [encL_length, hle]) (by rw [List.take_length, Nat.sub_self, List.replicate_zero, List.append_nil, encL_loS]) rfl rfl
theorem St.ext4 {a b : St} : a = b ↔ a.op = b.op ∧ a.n = b.n ∧ a.pl = b.pl ∧ a.ex = b.ex := by
  cases a; cases b; simp
theorem eqStmt (a b : St) (h1 : a.pl.length ≤ 1152921504606846976) (h2 : a.ex.length ≤ 1152921504606846976) {r : Bool} (hr : r = true ↔ a = b) : Ev Try.prog X (.fn 151 [.ag (stR a), .ag (stR b)] (bl r) [.dead, .dead]) := by
  rw [St.ext4] at hr
  refine Ev.fnW (env := [(0, .ag (stR a)), (1, .ag (stR b))]) Try.func151 rfl nm_laws_eqStmt rfl rfl (by kernel_rfl) (.cons rfl (.cons rfl .nil)) ?_
  refine go3 ?_
  refine WO.cmp rfl rfl rfl rfl rfl (fun h => ?_) (fun h => ?_)
  · refine go3 ?_
    exact retV rfl (by cases r <;> simp_all) rfl rfl
  have e1 : a.op = b.op := by omega
  refine go3 ?_
  refine WO.cmp rfl rfl rfl rfl rfl (fun h => ?_) (fun h => ?_)
  · refine go3 ?_
    exact retV rfl (by cases r <;> simp_all) rfl rfl
  have e2 : a.n = b.n := by omega
  refine go3 ?_
  by_cases e3 : a.pl = b.pl
  · refine WO.call rfl rfl rfl (eqTermS a.pl b.pl h1 (r := true) (by simp [e3])) rfl rfl ?_
    refine go3 ?_
    by_cases e4 : a.ex = b.ex
    · refine WO.call rfl rfl rfl (eqTermS a.ex b.ex h2 (r := true) (by simp [e4])) rfl rfl ?_
      refine go3 ?_
      exact retV rfl (by cases r <;> simp_all) rfl rfl
    · refine WO.call rfl rfl rfl (eqTermS a.ex b.ex h2 (r := false) (by simp [e4])) rfl rfl ?_
      refine go3 ?_
      exact retV rfl (by cases r <;> simp_all) rfl rfl
  · refine WO.call rfl rfl rfl (eqTermS a.pl b.pl h1 (r := false) (by simp [e3])) rfl rfl ?_
    refine go3 ?_
    exact retV rfl (by cases r <;> simp_all) rfl rfl
end Go.Eng.C

/- Contracts of functions, by the engine: a drawn program; where a statement ends. -/
import Derived.Test.YtbhdobjjhkkpkaaEngXm
import Derived.Test.YtbhdobjjhkkpkaaEngXd
namespace Go.Eng.C
open Go Go.Eng Go.RowKit Go.Proofs
set_option linter.unusedVariables false
set_option linter.unusedSimpArgs false
set_option maxRecDepth 10000
variable {X : FuncId → List AV → AV → List AV → Prop}
/-- A struct of plain parts, out of a variable; told by a property. -/
theorem retCE {P : Program} {env : Env} {t n ty s : Nat} {cs : List AV} {fin : List AV} {ex : Ex} {G : AV → List AV → Prop} [hT : AgT P ty s] (ht : Nat.blt t HB = true) (hx : look env t = .op cs) (hl : Nat.beq cs.length s = true) (hp : cs.all isPl = true) (hf : fins n (look env) = fin) (hn : fin.all noRf = true) (hG : G (.ag cs) fin) (he : ex = .normal ∨ ex = .ret := by simp) :
    (ex = .normal ∨ ex = .ret) ∧ ∃ az rs σ2, ResL P (look env) [.cell t ty] az ∧ TakeL (look env) az rs σ2 ∧ (fins n σ2).all noRf = true ∧ G (resOf rs) (fins n σ2) := by
  obtain ⟨h1, az, rs, σ2, h2, h3, h4, h5, h6⟩ := retC (P := P) (ty := ty) (s := s) (t := t) (env := env) (n := n) (fin := fin) (res := .ag cs) ht hx (Nat.eq_of_beq_eq_true hl) hp rfl hf hn he
  exact ⟨h1, az, rs, σ2, h2, h3, by rw [h5]; exact h6, by rw [h4, h5]; exact hG⟩
theorem nm_laws_program : (Try.f53.name == "runtime.NumGoroutine") = false := by decide
theorem nm_impl_EndOf : (Try.f214.name == "runtime.NumGoroutine") = false := by decide
/-- The programs that the laws draw. -/
structure Drawn (p : Pr) : Prop where
  ok : PrOk p
  b : PB p
  l : p.lows.length = 1
  s : p.secs.length = 2
  t : p.temps = 2
  w : p.w = 2 ∨ p.w = 3
  a : p.arrs.length ≤ 1
def progG (bs : List Int) (res : AV) (fin : List AV) : Prop := ∃ (p : Pr) (i' h' : Int), res = .ag (prR p) ∧ fin = [dice bs i' h'] ∧ DOk bs i' ∧ Drawn p
theorem sizeW4 {w : Int} (h0 : 2 ≤ w) (h1 : w ≤ 3) : 4 ≤ sizeW w := by
  have : w = 2 ∨ w = 3 := by omega
  rcases this with h | h <;> subst h <;> decide
theorem fall_nodes (s : St) (h : s.op = 6) : nodesX [s] = some (.cons 0 .nil .nil .nil) := by
  have h0 : opA [s] 0 = 6 := h
  unfold nodesX
  rw [B_leaf (by simp) (by unfold stopA; omega) (by unfold nestA; omega), B_end (by simp)]
  rfl
theorem fall_ok {p : Pr} (w0 : 1 ≤ p.w) (w8 : p.w ≤ 8) (hi : inputsOk p) (ht : p.temps = 2) (ha : p.arrs.length ≤ 2 ∧ ∀ n ∈ p.arrs, 1 ≤ n ∧ n ≤ 6) (hb : p.body = [⟨6, 0, [], [⟨1, 1⟩]⟩]) : PrOk p := by
  refine ⟨w0, w8, hi, ⟨by omega, by omega, ha.1, by rw [hb]; simp, ha.2⟩, ?_, .cons 0 .nil .nil .nil, by rw [hb]; exact fall_nodes _ rfl, ?_⟩
  · rw [hb]
    intro s hs
    simp only [List.mem_singleton] at hs
    subst hs
    refine (stOk26 (.inr rfl)).2 ⟨rfl, ⟨by simp, ⟨by decide, ?_⟩, ?_⟩, rfl⟩
    · intro t ht'
      simp only [List.mem_singleton] at ht'
      subst ht'
      refine ⟨by simp, fun _ => ?_, by simp⟩
      unfold varsN insN; rw [ht]; dsimp only; omega
    · intro t ht'
      simp only [List.mem_singleton] at ht'
      subst ht'
      simp
  · rw [hb]; decide
set_option maxHeartbeats 40000000 in
theorem program (bs : List Int) (i h : Int) (hD : DOk bs i) : ∃ res fin, Ev Try.prog X (.fn 53 [dice bs i h] res fin) ∧ progG bs res fin := by
  refine Ev.fnE (env := [(0, .ad 1000000 [] 0), (1000000, dice bs i h)]) (progG bs) Try.func53 rfl nm_laws_program rfl rfl (by kernel_rfl) (.cons rfl (.cons rfl .nil)) ?_
  refine go2 ?_
  refine WO.dice rfl rfl rfl rfl hD (by omega) rfl rfl (fun w i h hD w0 w1 => ?_)
  refine go2 ?_
  refine WO.dice rfl rfl rfl rfl hD (by omega) rfl rfl (fun a i h hD a0 a1 => ?_)
  refine go2 ?_
  refine WO.bld (cs := inp ⟨a, 0⟩) rfl rfl rfl rfl ?_
  refine WO.b1A rfl rfl rfl rfl rfl rfl rfl rfl ?_
  refine WO.hard (r := 11) (p := []) (x := .ow 143 2 1 (encL inp [⟨a, 0⟩])) (y := .im 1 (encL inp [⟨a, 0⟩])) rfl rfl rfl ?_
  refine go2 ?_
  refine WO.dice rfl rfl rfl rfl hD (by omega) rfl rfl (fun b i h hD b0 b1 => ?_)
  refine go2 ?_
  refine WO.dice rfl rfl rfl rfl hD (by omega) rfl rfl (fun c i h hD c0 c1 => ?_)
  refine go2 ?_
  refine WO.bld (cs := inp ⟨1 + b, c⟩) rfl rfl rfl rfl ?_
  refine go2 ?_
  refine WO.dice rfl rfl rfl rfl hD (by omega) rfl rfl (fun d i h hD d0 d1 => ?_)
  refine go2 ?_
  refine WO.dice rfl rfl rfl rfl hD (by omega) rfl rfl (fun e i h hD e0 e1 => ?_)
  refine go2 ?_
  refine WO.bld (cs := inp ⟨d, e⟩) rfl rfl rfl rfl ?_
  refine WO.bsA (us := [.ag (inp ⟨1 + b, c⟩), .ag (inp ⟨d, e⟩)]) (cs := encL inp [⟨1 + b, c⟩, ⟨d, e⟩]) rfl rfl rfl rfl rfl (by kernel_rfl) rfl ?_
  refine WO.hard (r := 23) (p := []) (x := .ow 143 2 2 (encL inp [⟨1 + b, c⟩, ⟨d, e⟩])) (y := .im 2 (encL inp [⟨1 + b, c⟩, ⟨d, e⟩])) rfl rfl rfl ?_
  refine WO.bld (cs := [i64 (2 + w), .im 1 (encL inp [⟨a, 0⟩]), .im 2 (encL inp [⟨1 + b, c⟩, ⟨d, e⟩]), i64 2, .nl, .nl]) rfl rfl rfl rfl ?_
  refine WO.castI (r := 24) (p := [4]) (y := .ag [i64 (2 + w), .im 1 (encL inp [⟨a, 0⟩]), .im 2 (encL inp [⟨1 + b, c⟩, ⟨d, e⟩]), i64 2, .im 0 [], .nl]) rfl rfl ?_
  refine WO.castI (r := 24) (p := [5]) (y := .ag [i64 (2 + w), .im 1 (encL inp [⟨a, 0⟩]), .im 2 (encL inp [⟨1 + b, c⟩, ⟨d, e⟩]), i64 2, .im 0 [], .im 0 []]) rfl rfl ?_
  have hz := sizeW4 (w := 2 + w) (by omega) (by omega)
  have hin : ∀ A : List Int, ∀ l : List St, inputsOk ⟨2 + w, [⟨a, 0⟩], [⟨1 + b, c⟩, ⟨d, e⟩], 2, A, l⟩ := by
    intro A l
    refine ⟨by simp, by simp, ?_, ?_, ?_⟩
    · intro x hx
      simp only [List.mem_singleton] at hx
      subst hx
      exact ⟨a0, by dsimp only; omega, by simp, by simp, fun _ => rfl⟩
    · intro x hx
      simp only [List.mem_cons, List.not_mem_nil, or_false] at hx
      rcases hx with rfl | rfl
      · exact ⟨by dsimp only; omega, by dsimp only; omega, c0, by dsimp only; omega, fun h => by cases h⟩
      · exact ⟨d0, by dsimp only; omega, e0, by dsimp only; omega, fun h => by cases h⟩
    · have h1 := bitsN_le a.toNat
      have h2 := bitsN_le (1 + b).toNat
      have h3 := bitsN_le d.toNat
      simp only [sumBits]; omega
  refine go2 ?_
  refine WO.dice rfl rfl rfl rfl hD (by omega) rfl rfl (fun f i h hD f0 f1 => ?_)
  refine WO.cmp rfl rfl rfl rfl rfl (fun g0 => ?_) (fun g0 => ?_) <;> refine go2 ?_
  · refine WO.dice rfl rfl rfl rfl hD (by omega) rfl rfl (fun j i h hD j0 j1 => ?_)
    refine go2 ?_
    refine WO.bsA (us := [i64 (1 + j)]) (cs := encL eI [1 + j]) rfl rfl rfl rfl rfl (by kernel_rfl) rfl ?_
    refine WO.hard (r := 31) (p := []) (x := .ow 2 1 1 (encL eI [1 + j])) (y := .im 1 (encL eI [1 + j])) rfl rfl rfl ?_
    refine go2 ?_
    refine WO.stI (cs' := prR ⟨2 + w, [⟨a, 0⟩], [⟨1 + b, c⟩, ⟨d, e⟩], 2, [1 + j], []⟩) rfl rfl rfl rfl rfl rfl rfl ?_
    refine go2 ?_
    refine WC.loopS (S := Nat × List St × Int × Int) (fun s => [(0, .ad 1000000 [] 0), (2, .op [i64 0, .nl, .nl, i64 0, .nl, .nl]), (3, .op (prR ⟨2 + w, [⟨a, 0⟩], [⟨1 + b, c⟩, ⟨d, e⟩], 2, [1 + j], s.2.1⟩)), (4, i64 (8 - s.1)), (1000000, dice bs s.2.2.1 s.2.2.2)]) (fun s => s.1 ≤ 8 ∧ DOk bs s.2.2.1) (fun s => s.1) (8, [], i, h) (.cons rfl (.cons rfl (.cons rfl (.cons rfl (.cons rfl .nil))))) ⟨by simp, hD⟩ ?_
    clear hD
    rintro ⟨k, l, i, h⟩ ⟨hk, hD⟩
    dsimp only at hk hD ⊢
    refine go2 ?_
    refine WO.cmp rfl rfl rfl rfl rfl (fun h3 => ?_) (fun h3 => ?_)
    · obtain ⟨k, rfl⟩ : ∃ k', k = k' + 1 := ⟨k - 1, by omega⟩
      refine go2 ?_
      obtain ⟨res, fin', hE, m, i, h, rfl, rfl, hD, hm, hS⟩ := deeds (X := X) bs ⟨2 + w, [⟨a, 0⟩], [⟨1 + b, c⟩, ⟨d, e⟩], 2, [1 + j], l⟩ ⟨by simp, by simp, by simp, by simp, by simp, by simp [insN]⟩ (by simp [insN]) (by simp) 2 4 i h (by decide) (by decide) (by decide) hD
      have hm' : m.length ≤ 144 := (show 4 * cap 2 = 144 by decide) ▸ hm
      refine WO.callDH rfl rfl rfl rfl rfl hE (encL_pl _) rfl rfl rfl ?_
      refine go2 ?_
      refine WO.stI (cs' := prR ⟨2 + w, [⟨a, 0⟩], [⟨1 + b, c⟩, ⟨d, e⟩], 2, [1 + j], m⟩) rfl rfl rfl rfl rfl rfl rfl ?_
      refine go2 ?_
      have hB : PB ⟨2 + w, [⟨a, 0⟩], [⟨1 + b, c⟩, ⟨d, e⟩], 2, [1 + j], m⟩ := ⟨by simp, by simp, by simp, by dsimp only; omega, fun s hs => by have := hS s hs; omega⟩
      refine WO.callB rfl rfl rfl (specProgOk ⟨2 + w, [⟨a, 0⟩], [⟨1 + b, c⟩, ⟨d, e⟩], 2, [1 + j], m⟩ hB) rfl (fun h4 => ?_) (fun h4 => ?_)
      · refine go2 ?_
        exact retCE (G := progG bs) rfl rfl rfl rfl rfl rfl ⟨_, i, h, rfl, rfl, hD, ⟨h4, hB, rfl, rfl, rfl, by dsimp only; omega, by simp⟩⟩
      · refine go2 ?_
        exact lpK.mk (k, m, i, h) (.cons rfl (.cons rfl (.cons rfl (.cons (show i64 (8 - ((k + 1 : Nat) : Int) + 1) = i64 (8 - (k : Int)) from congrArg i64 (by omega)) (.cons rfl .nil))))) ⟨by dsimp only; omega, hD⟩ (by dsimp only; omega)
    · refine go2 ?_
      refine WO.call rfl rfl rfl (variable_ 1) rfl rfl ?_
      refine WO.hard (r := 44) (p := []) (x := .ow 93 2 1 (encL tm [⟨1, 1⟩])) (y := .im 1 (encL tm [⟨1, 1⟩])) rfl rfl rfl ?_
      refine WO.bld (cs := [i64 6, i64 0, .nl, .im 1 (encL tm [⟨1, 1⟩])]) rfl rfl rfl rfl ?_
      refine WO.castI (r := 45) (p := [2]) (y := .ag (stR ⟨6, 0, [], [⟨1, 1⟩]⟩)) rfl rfl ?_
      refine WO.b1A rfl rfl rfl rfl rfl rfl rfl rfl ?_
      refine WO.hard (r := 46) (p := []) (x := .ow 122 4 1 (encL stR [⟨6, 0, [], [⟨1, 1⟩]⟩])) (y := .im 1 (encL stR [⟨6, 0, [], [⟨1, 1⟩]⟩])) rfl rfl rfl ?_
      refine go2 ?_
      refine WO.stI (cs' := prR ⟨2 + w, [⟨a, 0⟩], [⟨1 + b, c⟩, ⟨d, e⟩], 2, [1 + j], [⟨6, 0, [], [⟨1, 1⟩]⟩]⟩) rfl rfl rfl rfl rfl rfl rfl ?_
      refine go2 ?_
      exact retCE (G := progG bs) rfl rfl rfl rfl rfl rfl ⟨_, i, h, rfl, rfl, hD, ⟨fall_ok (by dsimp only; omega) (by dsimp only; omega) (hin _ _) rfl ⟨by simp, fun n hn => by simp only [List.mem_singleton] at hn; subst hn; omega⟩ rfl, ⟨by simp, by simp, by simp, by simp, fun s hs => by simp at hs; subst hs; simp⟩, rfl, rfl, rfl, by dsimp only; omega, by simp⟩⟩
  · refine WC.loopS (S := Nat × List St × Int × Int) (fun s => [(0, .ad 1000000 [] 0), (2, .op [i64 0, .nl, .nl, i64 0, .nl, .nl]), (3, .op (prR ⟨2 + w, [⟨a, 0⟩], [⟨1 + b, c⟩, ⟨d, e⟩], 2, ([] : List Int), s.2.1⟩)), (4, i64 (8 - s.1)), (1000000, dice bs s.2.2.1 s.2.2.2)]) (fun s => s.1 ≤ 8 ∧ DOk bs s.2.2.1) (fun s => s.1) (8, [], i, h) (.cons rfl (.cons rfl (.cons rfl (.cons rfl (.cons rfl .nil))))) ⟨by simp, hD⟩ ?_
    clear hD
    rintro ⟨k, l, i, h⟩ ⟨hk, hD⟩
    dsimp only at hk hD ⊢
    refine go2 ?_
    refine WO.cmp rfl rfl rfl rfl rfl (fun h3 => ?_) (fun h3 => ?_)
    · obtain ⟨k, rfl⟩ : ∃ k', k = k' + 1 := ⟨k - 1, by omega⟩
      refine go2 ?_
      obtain ⟨res, fin', hE, m, i, h, rfl, rfl, hD, hm, hS⟩ := deeds (X := X) bs ⟨2 + w, [⟨a, 0⟩], [⟨1 + b, c⟩, ⟨d, e⟩], 2, ([] : List Int), l⟩ ⟨by simp, by simp, by simp, by simp, by simp, by simp [insN]⟩ (by simp [insN]) (by simp) 2 4 i h (by decide) (by decide) (by decide) hD
      have hm' : m.length ≤ 144 := (show 4 * cap 2 = 144 by decide) ▸ hm
      refine WO.callDH rfl rfl rfl rfl rfl hE (encL_pl _) rfl rfl rfl ?_
      refine go2 ?_
      refine WO.stI (cs' := prR ⟨2 + w, [⟨a, 0⟩], [⟨1 + b, c⟩, ⟨d, e⟩], 2, ([] : List Int), m⟩) rfl rfl rfl rfl rfl rfl rfl ?_
      refine go2 ?_
      have hB : PB ⟨2 + w, [⟨a, 0⟩], [⟨1 + b, c⟩, ⟨d, e⟩], 2, ([] : List Int), m⟩ := ⟨by simp, by simp, by simp, by dsimp only; omega, fun s hs => by have := hS s hs; omega⟩
      refine WO.callB rfl rfl rfl (specProgOk ⟨2 + w, [⟨a, 0⟩], [⟨1 + b, c⟩, ⟨d, e⟩], 2, ([] : List Int), m⟩ hB) rfl (fun h4 => ?_) (fun h4 => ?_)
      · refine go2 ?_
        exact retCE (G := progG bs) rfl rfl rfl rfl rfl rfl ⟨_, i, h, rfl, rfl, hD, ⟨h4, hB, rfl, rfl, rfl, by dsimp only; omega, by simp⟩⟩
      · refine go2 ?_
        exact lpK.mk (k, m, i, h) (.cons rfl (.cons rfl (.cons rfl (.cons (show i64 (8 - ((k + 1 : Nat) : Int) + 1) = i64 (8 - (k : Int)) from congrArg i64 (by omega)) (.cons rfl .nil))))) ⟨by dsimp only; omega, hD⟩ (by dsimp only; omega)
    · refine go2 ?_
      refine WO.call rfl rfl rfl (variable_ 1) rfl rfl ?_
      refine WO.hard (r := 44) (p := []) (x := .ow 93 2 1 (encL tm [⟨1, 1⟩])) (y := .im 1 (encL tm [⟨1, 1⟩])) rfl rfl rfl ?_
      refine WO.bld (cs := [i64 6, i64 0, .nl, .im 1 (encL tm [⟨1, 1⟩])]) rfl rfl rfl rfl ?_
      refine WO.castI (r := 45) (p := [2]) (y := .ag (stR ⟨6, 0, [], [⟨1, 1⟩]⟩)) rfl rfl ?_
      refine WO.b1A rfl rfl rfl rfl rfl rfl rfl rfl ?_
      refine WO.hard (r := 46) (p := []) (x := .ow 122 4 1 (encL stR [⟨6, 0, [], [⟨1, 1⟩]⟩])) (y := .im 1 (encL stR [⟨6, 0, [], [⟨1, 1⟩]⟩])) rfl rfl rfl ?_
      refine go2 ?_
      refine WO.stI (cs' := prR ⟨2 + w, [⟨a, 0⟩], [⟨1 + b, c⟩, ⟨d, e⟩], 2, ([] : List Int), [⟨6, 0, [], [⟨1, 1⟩]⟩]⟩) rfl rfl rfl rfl rfl rfl rfl ?_
      refine go2 ?_
      exact retCE (G := progG bs) rfl rfl rfl rfl rfl rfl ⟨_, i, h, rfl, rfl, hD, ⟨fall_ok (by dsimp only; omega) (by dsimp only; omega) (hin _ _) rfl ⟨by simp, fun n hn => by simp at hn⟩ rfl, ⟨by simp, by simp, by simp, by simp, fun s hs => by simp at hs; subst hs; simp⟩, rfl, rfl, rfl, by dsimp only; omega, by simp⟩⟩
set_option maxHeartbeats 8000000 in
theorem implEndOf (x : List St) (hx : x.length ≤ 40) (a : Nat) (ha : a < x.length) : Ev Try.prog X (.fn 214 [.im x.length (encL stR x), i64 a] (.tu [i64 (midI (E x a)), i64 (endI (E x a))]) [.dead, .dead]) := by
  have hop : opA x a = (x.getD a zst).op := rfl
  refine Ev.fnW (env := [(0, .im x.length (encL stR x)), (1, i64 a)]) Try.func214 rfl nm_impl_EndOf rfl rfl (by kernel_rfl) (.cons rfl (.cons rfl .nil)) ?_
  refine go2 ?_
  refine WO.ixN (f := stR) zst rfl rfl rfl ha rfl ?_
  refine go2 ?_
  by_cases hn : nestA x a
  · have hn' := hn
    unfold nestA at hn'
    rw [hop] at hn'
    rcases hn' with h | h | h <;> refine go2 ?_ <;> refine WO.bld (cs := nsc x a 0 0) rfl rfl rfl rfl ?_ <;> refine go2 ?_ <;>
    obtain ⟨res, fin, hM, hG⟩ := one (X := X) x (by omega) a ha 0 0 <;>
    unfold oneG at hG <;> rw [if_pos hn] at hG <;>
    cases hE : E x a with
    | none =>
      rw [hE] at hG
      obtain ⟨a', m', e', rfl, rfl⟩ := hG
      refine WO.callD rfl rfl rfl rfl rfl hM rfl rfl rfl rfl ?_
      refine go2 ?_
      dsimp only [midI, endI]
      exact retVV rfl rfl rfl rfl rfl
    | some q =>
      obtain ⟨d, c, b, o⟩ := q
      rw [hE] at hG
      obtain ⟨rfl, rfl⟩ := hG
      refine WO.callD rfl rfl rfl rfl rfl hM rfl rfl rfl rfl ?_
      refine go2 ?_
      refine WC.regionDd ⟨[[], [0], [], [2], [0, 1], [0, 1, 2, 3, 4]], [0, 1, 2, 3, 4], [], [47, 48, 49, 50, 4], [0, 1, 2, 3, 4, 5], [([49, 50], [49, 50], false), ([49, 50], [49, 50], false), ([47, 48, 4], [47, 48, 4], false), ([47, 48, 4], [47, 48, 4], false), ([49, 50], [49, 50], false), ([], [], false)]⟩ (by kernel_rfl) ?_
      refine go2 ?_
      refine WD.q rfl rfl rfl rfl rfl (QE.mvSc (.assign _) rfl) rfl rfl rfl ?_
      refine go2 ?_
      exact retVV rfl rfl rfl rfl rfl
  · have hE : E x a = none := by unfold E; rw [if_neg hn]
    rw [hE]
    have hn' := hn
    unfold nestA at hn'
    rw [hop] at hn'
    refine go2 ?_
    exact retVV rfl rfl rfl rfl rfl
end Go.Eng.C

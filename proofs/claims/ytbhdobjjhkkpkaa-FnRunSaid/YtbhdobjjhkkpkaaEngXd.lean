/- Contracts of functions, by the engine: what the laws draw: statements. -/
import Derived.Test.YtbhdobjjhkkpkaaEngXc
namespace Go.Eng.C
open Go Go.Eng Go.RowKit Go.Proofs
set_option linter.unusedVariables false
set_option linter.unusedSimpArgs false
set_option maxRecDepth 10000
variable {X : FuncId → List AV → AV → List AV → Prop}
theorem nm_laws_deeds : (Try.f118.name == "runtime.NumGoroutine") = false := by decide
def cap : Nat → Nat
  | 0 => 1
  | n + 1 => 4 + 4 * cap n
theorem cap_pos (n : Nat) : 1 ≤ cap n := by cases n <;> simp [cap]; omega
/-- Statements with short expressions. -/
def SL (l : List St) : Prop := ∀ s ∈ l, s.pl.length ≤ 16 ∧ s.ex.length ≤ 16
theorem SL.app {l m : List St} (h : SL l) (k : SL m) : SL (l ++ m) := fun s hs => (List.mem_append.1 hs).elim (h s) (k s)
theorem SL.one {s : St} (h : s.pl.length ≤ 16) (k : s.ex.length ≤ 16) : SL [s] := fun x hx => by simp at hx; subst hx; exact ⟨h, k⟩
theorem st_app (l m : List St) : AV.ow 122 4 (l.length + m.length) (encL stR l ++ encL stR m) = .ow 122 4 (l ++ m).length (encL stR (l ++ m)) := by
  rw [List.length_append, encL_append]
theorem st_app1 (l : List St) (s : St) : AV.ow 122 4 (l.length + 1) (encL stR l ++ stR s) = .ow 122 4 (l ++ [s]).length (encL stR (l ++ [s])) := by
  rw [List.length_append, encL_append]; rfl
theorem st_app2 (l : List St) (s t : St) : AV.ow 122 4 (l.length + 2) (encL stR l ++ encL stR [s, t]) = .ow 122 4 (l ++ [s, t]).length (encL stR (l ++ [s, t])) := by
  rw [List.length_append, encL_append]; rfl
def deedG (bs : List Int) (M : Nat) (res : AV) (fin : List AV) : Prop := ∃ (l : List St) (i' h' : Int), res = .ow 122 4 l.length (encL stR l) ∧ fin = [dice bs i' h', .dead, .dead, .dead] ∧ DOk bs i' ∧ l.length ≤ M ∧ SL l
set_option maxHeartbeats 100000000 in
theorem deeds (bs : List Int) (p : Pr) (hp : FOk p) (hi : 0 < insN p) (ht : 0 < p.temps) : ∀ (n m : Nat) (i h : Int), n ≤ 3 → 0 < m → m ≤ 16 → DOk bs i → ∃ res fin, Ev Try.prog X (.fn 118 [dice bs i h, .ag (prR p), i64 m, i64 n] res fin) ∧ deedG bs (m * cap n) res fin := by
  intro n
  have hp0 := hp
  obtain ⟨l1, l2, l3, t0, t1, hv⟩ := hp
  replace hi : 0 < (p.lows.length : Int) + p.secs.length := by unfold insN at hi; omega
  induction n using Nat.strongRecOn with
  | ind n ih =>
  intro m i h hn hm hm16 hD
  have hcp := cap_pos n
  have hM : m * cap n ≤ 16 * cap 3 := by
    have h1 : ∀ n ≤ 3, cap n ≤ cap 3 := by decide
    exact Nat.mul_le_mul hm16 (h1 n hn)
  have hM2 : 16 * cap 3 ≤ 4096 := by decide
  refine Ev.fnE (env := [(0, .ad 1000000 [] 0), (1, .ag (prR p)), (2, i64 m), (3, i64 n), (1000000, dice bs i h)]) (deedG bs (m * cap n)) Try.func118 rfl nm_laws_deeds rfl rfl (by kernel_rfl) (.cons rfl (.cons rfl (.cons rfl (.cons rfl (.cons rfl .nil))))) ?_
  refine go ?_
  refine WO.boxA rfl rfl rfl rfl rfl ?_
  refine go ?_
  refine WO.build0 rfl rfl rfl ?_
  refine go ?_
  refine WO.dice rfl rfl rfl rfl hD (by omega) rfl rfl (fun c i h hD hc0 hc1 => ?_)
  refine go ?_
  obtain ⟨k0, hk0⟩ : ∃ k0 : Nat, 1 + c = k0 := ⟨(1 + c).toNat, by omega⟩
  rw [hk0]
  have hk0m : k0 ≤ m := by omega
  clear hk0 hc0 hc1
  generalize hMM : m * cap n = M at *
  have hC : k0 * cap n ≤ M := by rw [← hMM]; exact Nat.mul_le_mul_right _ hk0m
  clear hMM
  refine WC.loopS (S := Nat × List St × Int × Int) (fun s => [(0, .ad 1000000 [] 0), (3, i64 n), (5, .op (prR p)), (9, .ow 122 4 s.2.1.length (encL stR s.2.1)), (10, i64 (p.lows.length + p.secs.length)), (11, i64 s.1), (1000000, dice bs s.2.2.1 s.2.2.2)]) (fun s => s.2.1.length + s.1 * cap n ≤ M ∧ SL s.2.1 ∧ DOk bs s.2.2.1 ∧ s.1 ≤ m) (fun s => s.1) (k0, [], i, h) (.cons rfl (.cons rfl (.cons rfl (.cons rfl (.cons rfl (.cons rfl (.cons rfl .nil))))))) ⟨by dsimp only; simpa using hC, (fun s (hs : s ∈ []) => by simp at hs), hD, hk0m⟩ ?_
  clear hD hC hk0m
  rintro ⟨k, l, i, h⟩ ⟨hl, hS, hD, hkm⟩
  dsimp only at hl hS hD hkm ⊢
  refine go ?_
  refine WO.cmp rfl rfl rfl rfl rfl (fun h1 => ?_) (fun h1 => ?_)
  · obtain ⟨k, rfl⟩ : ∃ k', k = k' + 1 := ⟨k - 1, by omega⟩
    rw [Nat.succ_mul] at hl
    generalize hz : k * cap n = z at hl
    have e0 : ((k + 1 : Nat) : Int) - 1 = k := by omega
    refine go ?_
    refine WO.dice rfl rfl rfl rfl hD (by omega) rfl rfl (fun c i h hD hc0 hc1 => ?_)
    have fin : ∀ (l' : List St) (L : List St), l' = l ++ L → L.length ≤ cap n → SL L → ∀ i, DOk bs i → l'.length + k * cap n ≤ M ∧ SL l' ∧ DOk bs i ∧ k ≤ m := fun l' L e hL hSL i hD => by
      subst e; exact ⟨by rw [hz, List.length_append]; omega, hS.app hSL, hD, by omega⟩
    have hcase : c < 3 ∨ (3 ≤ c ∧ c < 5) ∨ (c = 5 ∧ 0 < p.arrs.length) ∨ (c = 6 ∧ 0 < n) ∨ (c = 7 ∧ 0 < n) ∨ (c = 8 ∧ 0 < n) ∨ (c = 5 ∧ p.arrs.length = 0) ∨ (c = 6 ∧ n = 0) ∨ (c = 7 ∧ n = 0) ∨ (c = 8 ∧ n = 0) ∨ 9 ≤ c := by omega
    rcases hcase with hc | hc | hc | hc | hc | hc | hdef
    · refine go ?_
      refine WC.regionD ⟨[[], [], [], [], [3], [2, 3, 4], [1, 2, 3, 4, 5], [], [], [2, 3, 4, 5, 7, 8], [1, 2, 3, 4, 5, 6, 7, 8, 9], [1, 2, 3, 4, 5, 6, 7, 8, 9, 10], [0, 1, 2, 3, 4, 5, 6, 7, 8, 9, 10, 11], [0, 1, 2, 3, 4, 5, 6, 7, 8, 9, 10, 11, 12]], [0, 1, 2, 3, 4, 6, 7, 8, 10], [(5, [1000000]), (9, [1000000]), (11, [52])], [42, 43, 44, 45, 46, 47, 48, 49, 50, 51, 52, 53], [0, 1, 2, 3, 4, 5, 6, 7, 8, 9, 10, 11, 12, 13], [([43, 44, 45, 46, 47, 48, 49, 50, 51, 52, 53], [43, 44, 45, 46, 47, 1000000, 48, 49, 50, 51, 1000000, 52, 53, 52], true), ([42, 44, 45, 46, 47, 49, 50, 51], [42, 44, 45, 46, 47, 1000000, 49, 50, 51, 1000000], true), ([42, 43, 45, 46, 49, 50], [42, 43, 45, 46, 49, 50], false), ([42, 43, 44, 49, 50], [42, 43, 44, 49, 50], false), ([42, 43, 44, 49, 50], [42, 43, 44, 49, 50], false), ([42, 43, 49, 50], [42, 43, 49, 50], false), ([42, 49, 50, 51], [42, 49, 50, 51, 1000000], true), ([42, 43, 44, 45, 46, 47, 48, 50], [42, 43, 44, 45, 46, 47, 1000000, 48, 50], true), ([42, 43, 44, 45, 46, 47, 48, 49], [42, 43, 44, 45, 46, 47, 1000000, 48, 49], true), ([42, 43, 48], [42, 43, 48], false), ([42], [42], false), ([42], [42], false), ([], [], false), ([], [], false)]⟩ (by kernel_rfl) rfl ?_
      refine go ?_
      refine WD.dice rfl rfl rfl rfl rfl rfl rfl rfl rfl hD ht rfl rfl rfl rfl rfl (fun c2 i h hD hc0' hc1' => ?_)
      refine go ?_
      obtain ⟨res, fin', hE, e, i, h, rfl, rfl, hD, he, -⟩ := formula (X := X) bs p hp0 2 i h (by decide) hD
      refine WD.callDH rfl rfl rfl rfl rfl rfl rfl rfl rfl rfl hE (encL_pl _) rfl rfl rfl rfl rfl rfl ?_
      refine WD.q rfl rfl rfl rfl rfl (QE.bld (cs := [i64 0, i64 (p.lows.length + p.secs.length + c2), .nl, .im e.length (encL tm e)]) rfl) rfl rfl rfl ?_
      refine WD.gen [(53, .ow 122 4 1 (stR ⟨0, p.lows.length + p.secs.length + c2, [], e⟩)), (52, .ag (stR ⟨0, p.lows.length + p.secs.length + c2, [], e⟩))] rfl rfl rfl rfl rfl ?_ rfl rfl rfl ⟨rfl, trivial⟩ rfl rfl (.cons _ (.cons _ (.nil _))) ?_
      · refine WO.castI (r := 52) (p := [2]) (y := .ag (stR ⟨0, p.lows.length + p.secs.length + c2, [], e⟩)) rfl rfl ?_
        refine WO.b1A rfl rfl rfl rfl rfl rfl rfl rfl ?_
        exact WO.nil (WK.mk' (.cons _ (.cons _ (.nil _))))
      refine WD.mut rfl rfl rfl ?_
      refine WO.apVM rfl rfl rfl (encL_length _) rfl rfl rfl rfl rfl (by unfold maxLen; omega) (by omega) rfl ?_
      rw [st_app1]
      refine WO.cln 9 ?_
      refine go ?_
      rw [e0]
      exact lpK.mk (k, l ++ [⟨0, p.lows.length + p.secs.length + c2, [], e⟩], i, h) (.cons rfl (.cons rfl (.cons rfl (.cons rfl (.cons rfl (.cons rfl (.cons rfl .nil))))))) (fin _ ([⟨0, p.lows.length + p.secs.length + c2, [], e⟩]) (by simp only [List.append_assoc]) (by simp <;> omega) (SL.one (by simp) (by dsimp only; omega)) i hD) (by dsimp only; omega)
    · refine go ?_
      obtain ⟨res, fin', hE, e, i, h, rfl, rfl, hD, he, -⟩ := formula (X := X) bs p hp0 2 i h (by decide) hD
      refine WO.callDH rfl rfl rfl rfl rfl hE (encL_pl _) rfl rfl rfl ?_
      refine WO.bld (cs := [i64 6, i64 0, .nl, .im e.length (encL tm e)]) rfl rfl rfl rfl ?_
      refine WO.castI (r := 62) (p := [2]) (y := .ag (stR ⟨6, 0, [], e⟩)) rfl rfl ?_
      refine WO.b1A rfl rfl rfl rfl rfl rfl rfl rfl ?_
      refine WO.apVM rfl rfl rfl (encL_length _) rfl rfl rfl rfl rfl (by unfold maxLen; first | omega | (simp; omega)) (by first | omega | (simp; omega)) rfl ?_
      rw [st_app1]
      refine WO.cln 9 ?_
      refine go ?_
      rw [e0]
      exact lpK.mk (k, l ++ [⟨6, 0, [], e⟩], i, h) (.cons rfl (.cons rfl (.cons rfl (.cons rfl (.cons rfl (.cons rfl (.cons rfl .nil))))))) (fin _ ([⟨6, 0, [], e⟩]) (by simp only [List.append_assoc]) (by simp <;> omega) (SL.one (by simp) (by dsimp only; omega)) i hD) (by dsimp only; omega)
    · refine go ?_
      refine WC.regionD ⟨[[], [], [], [1, 2], [], [], [1, 2, 3, 4, 5], [1, 2, 3, 4, 5, 6], [1, 2, 3, 4, 5, 6, 7], [0, 1, 2, 3, 4, 5, 6, 7, 8], [0, 1, 2, 3, 4, 5, 6, 7, 8, 9]], [0, 1, 2, 4, 5, 7], [(3, [1000000]), (6, [1000000]), (8, [])], [74, 75, 76, 77, 78, 79, 80, 81, 82], [0, 1, 2, 3, 4, 5, 6, 7, 8, 9, 10], [([75, 76, 77, 78, 79, 80, 81, 82], [75, 76, 77, 1000000, 78, 79, 80, 1000000, 81, 82], true), ([74, 76, 78, 79], [74, 76, 78, 79], false), ([74, 75, 78, 79], [74, 75, 78, 79], false), ([74, 78, 79], [74, 78, 79], false), ([74, 75, 76, 77, 79], [74, 75, 76, 77, 1000000, 79], true), ([74, 75, 76, 77, 78], [74, 75, 76, 77, 1000000, 78], true), ([74], [74], false), ([74], [74], false), ([74], [74], false), ([], [], false), ([], [], false)]⟩ (by kernel_rfl) rfl ?_
      refine go ?_
      obtain ⟨res, fin', hE, e, i, h, rfl, rfl, hD, he, -⟩ := formula (X := X) bs p hp0 1 i h (by decide) hD
      refine WD.callDH rfl rfl rfl rfl rfl rfl rfl rfl rfl rfl hE (encL_pl _) rfl rfl rfl rfl rfl rfl ?_
      refine go ?_
      obtain ⟨res, fin', hE, f, i, h, rfl, rfl, hD, hf, -⟩ := formula (X := X) bs p hp0 1 i h (by decide) hD
      refine WD.callDH rfl rfl rfl rfl rfl rfl rfl rfl rfl rfl hE (encL_pl _) rfl rfl rfl rfl rfl rfl ?_
      refine WD.q rfl rfl rfl rfl rfl (QE.bld (cs := stR ⟨1, 0, e, f⟩) rfl) rfl rfl rfl ?_
      refine WD.gen [(82, .ow 122 4 1 (stR ⟨1, 0, e, f⟩))] rfl rfl rfl rfl rfl ?_ rfl rfl rfl ⟨rfl, trivial⟩ rfl rfl (.cons _ (.nil _)) ?_
      · refine WO.b1A rfl rfl rfl rfl rfl rfl rfl rfl ?_
        exact WO.nil (WK.mk' (.cons _ (.nil _)))
      refine WD.mut rfl rfl rfl ?_
      refine WO.apVM rfl rfl rfl (encL_length _) rfl rfl rfl rfl rfl (by unfold maxLen; omega) (by omega) rfl ?_
      rw [st_app1]
      refine WO.cln 9 ?_
      refine go ?_
      rw [e0]
      exact lpK.mk (k, l ++ [⟨1, 0, e, f⟩], i, h) (.cons rfl (.cons rfl (.cons rfl (.cons rfl (.cons rfl (.cons rfl (.cons rfl .nil))))))) (fin _ ([⟨1, 0, e, f⟩]) (by simp only [List.append_assoc]) (by simp <;> omega) (SL.one (by dsimp only; omega) (by dsimp only; omega)) i hD) (by dsimp only; omega)
    · obtain ⟨n, rfl⟩ : ∃ n', n = n' + 1 := ⟨n - 1, by omega⟩
      have e1 : ((n + 1 : Nat) : Int) - 1 = n := by omega
      have hcap : cap (n + 1) = 4 + 4 * cap n := rfl
      refine go ?_
      obtain ⟨res, fin', hE, e, i, h, rfl, rfl, hD, he, -⟩ := formula (X := X) bs p hp0 1 i h (by decide) hD
      refine WO.callDH rfl rfl rfl rfl rfl hE (encL_pl _) rfl rfl rfl ?_
      refine WO.bld (cs := [i64 2, i64 0, .nl, .im e.length (encL tm e)]) rfl rfl rfl rfl ?_
      refine WO.castI (r := 95) (p := [2]) (y := .ag (stR ⟨2, 0, [], e⟩)) rfl rfl ?_
      refine WO.b1A rfl rfl rfl rfl rfl rfl rfl rfl ?_
      refine WO.apVM rfl rfl rfl (encL_length _) rfl rfl rfl rfl rfl (by unfold maxLen; first | omega | (simp; omega)) (by first | omega | (simp; omega)) rfl ?_
      rw [st_app1]
      refine WO.cln 9 ?_
      refine go ?_
      rw [e1]
      obtain ⟨res, fin', hE, L1, i, h, rfl, rfl, hD, hL1, sL1⟩ := ih n (by omega) 2 i h (by omega) (by omega) (by omega) hD
      refine WO.callD rfl rfl rfl rfl rfl hE rfl rfl rfl rfl ?_
      refine WO.apVM rfl rfl rfl (encL_length _) rfl rfl (encL_length _) rfl rfl (by unfold maxLen; first | omega | (simp; omega)) (by first | omega | (simp; omega)) rfl ?_
      rw [st_app]
      refine WO.cln 9 ?_
      refine go ?_
      refine WO.dice rfl rfl rfl rfl hD (by omega) rfl rfl (fun c3 i h hD hc0' hc1' => ?_)
      refine go ?_
      refine WO.cmp rfl rfl rfl rfl rfl (fun h9 => ?_) (fun h9 => ?_)
      · refine go ?_
        refine WO.bld (cs := [i64 3, i64 0, .nl, .nl]) rfl rfl rfl rfl ?_
        refine WO.castI (r := 109) (p := [2]) (y := .ag [i64 3, i64 0, .im 0 [], .nl]) rfl rfl ?_
        refine WO.castI (r := 109) (p := [3]) (y := .ag (stR ⟨3, 0, [], []⟩)) rfl rfl ?_
        refine WO.b1A rfl rfl rfl rfl rfl rfl rfl rfl ?_
        refine WO.apVM rfl rfl rfl (encL_length _) rfl rfl rfl rfl rfl (by unfold maxLen; first | omega | (simp; omega)) (by first | omega | (simp; omega)) rfl ?_
        rw [st_app1]
        refine WO.cln 9 ?_
        refine go ?_
        rw [e1]
        obtain ⟨res, fin', hE, L2, i, h, rfl, rfl, hD, hL2, sL2⟩ := ih n (by omega) 2 i h (by omega) (by omega) (by omega) hD
        refine WO.callD rfl rfl rfl rfl rfl hE rfl rfl rfl rfl ?_
        refine WO.apVM rfl rfl rfl (encL_length _) rfl rfl (encL_length _) rfl rfl (by unfold maxLen; first | omega | (simp; omega)) (by first | omega | (simp; omega)) rfl ?_
        rw [st_app]
        refine WO.cln 9 ?_
        refine go ?_
        refine WO.bld (cs := [i64 4, i64 0, .nl, .nl]) rfl rfl rfl rfl ?_
        refine WO.castI (r := 120) (p := [2]) (y := .ag [i64 4, i64 0, .im 0 [], .nl]) rfl rfl ?_
        refine WO.castI (r := 120) (p := [3]) (y := .ag (stR ⟨4, 0, [], []⟩)) rfl rfl ?_
        refine WO.b1A rfl rfl rfl rfl rfl rfl rfl rfl ?_
        refine WO.apVM rfl rfl rfl (encL_length _) rfl rfl rfl rfl rfl (by unfold maxLen; first | omega | (simp; omega)) (by first | omega | (simp; omega)) rfl ?_
        rw [st_app1]
        refine WO.cln 9 ?_
        refine go ?_
        rw [e0]
        exact lpK.mk (k, l ++ [⟨2, 0, [], e⟩] ++ L1 ++ [⟨3, 0, [], []⟩] ++ L2 ++ [⟨4, 0, [], []⟩], i, h) (.cons rfl (.cons rfl (.cons rfl (.cons rfl (.cons rfl (.cons rfl (.cons rfl .nil))))))) (fin _ ([⟨2, 0, [], e⟩] ++ (L1 ++ ([⟨3, 0, [], []⟩] ++ (L2 ++ [⟨4, 0, [], []⟩])))) (by simp only [List.append_assoc]) (by simp <;> omega) ((SL.one (by simp) (by dsimp only; omega)).app (sL1.app ((SL.one (by simp) (by simp)).app (sL2.app (SL.one (by simp) (by simp)))))) i hD) (by dsimp only; omega)
      · refine go ?_
        refine WO.bld (cs := [i64 4, i64 0, .nl, .nl]) rfl rfl rfl rfl ?_
        refine WO.castI (r := 120) (p := [2]) (y := .ag [i64 4, i64 0, .im 0 [], .nl]) rfl rfl ?_
        refine WO.castI (r := 120) (p := [3]) (y := .ag (stR ⟨4, 0, [], []⟩)) rfl rfl ?_
        refine WO.b1A rfl rfl rfl rfl rfl rfl rfl rfl ?_
        refine WO.apVM rfl rfl rfl (encL_length _) rfl rfl rfl rfl rfl (by unfold maxLen; first | omega | (simp; omega)) (by first | omega | (simp; omega)) rfl ?_
        rw [st_app1]
        refine WO.cln 9 ?_
        refine go ?_
        rw [e0]
        exact lpK.mk (k, l ++ [⟨2, 0, [], e⟩] ++ L1 ++ [⟨4, 0, [], []⟩], i, h) (.cons rfl (.cons rfl (.cons rfl (.cons rfl (.cons rfl (.cons rfl (.cons rfl .nil))))))) (fin _ ([⟨2, 0, [], e⟩] ++ (L1 ++ [⟨4, 0, [], []⟩])) (by simp only [List.append_assoc]) (by simp <;> omega) ((SL.one (by simp) (by dsimp only; omega)).app (sL1.app (SL.one (by simp) (by simp)))) i hD) (by dsimp only; omega)
    · obtain ⟨n, rfl⟩ : ∃ n', n = n' + 1 := ⟨n - 1, by omega⟩
      have e1 : ((n + 1 : Nat) : Int) - 1 = n := by omega
      have hcap : cap (n + 1) = 4 + 4 * cap n := rfl
      refine go ?_
      refine WO.dice rfl rfl rfl rfl hD (by omega) rfl rfl (fun c3 i h hD hc0' hc1' => ?_)
      refine WO.bld (cs := [i64 5, i64 c3, .nl, .nl]) rfl rfl rfl rfl ?_
      refine WO.castI (r := 133) (p := [2]) (y := .ag [i64 5, i64 c3, .im 0 [], .nl]) rfl rfl ?_
      refine WO.castI (r := 133) (p := [3]) (y := .ag (stR ⟨5, c3, [], []⟩)) rfl rfl ?_
      refine WO.b1A rfl rfl rfl rfl rfl rfl rfl rfl ?_
      refine WO.apVM rfl rfl rfl (encL_length _) rfl rfl rfl rfl rfl (by unfold maxLen; first | omega | (simp; omega)) (by first | omega | (simp; omega)) rfl ?_
      rw [st_app1]
      refine WO.cln 9 ?_
      refine go ?_
      rw [e1]
      obtain ⟨res, fin', hE, L1, i, h, rfl, rfl, hD, hL1, sL1⟩ := ih n (by omega) 2 i h (by omega) (by omega) (by omega) hD
      refine WO.callD rfl rfl rfl rfl rfl hE rfl rfl rfl rfl ?_
      refine WO.apVM rfl rfl rfl (encL_length _) rfl rfl (encL_length _) rfl rfl (by unfold maxLen; first | omega | (simp; omega)) (by first | omega | (simp; omega)) rfl ?_
      rw [st_app]
      refine WO.cln 9 ?_
      refine go ?_
      refine WO.bld (cs := [i64 4, i64 0, .nl, .nl]) rfl rfl rfl rfl ?_
      refine WO.castI (r := 144) (p := [2]) (y := .ag [i64 4, i64 0, .im 0 [], .nl]) rfl rfl ?_
      refine WO.castI (r := 144) (p := [3]) (y := .ag (stR ⟨4, 0, [], []⟩)) rfl rfl ?_
      refine WO.b1A rfl rfl rfl rfl rfl rfl rfl rfl ?_
      refine WO.apVM rfl rfl rfl (encL_length _) rfl rfl rfl rfl rfl (by unfold maxLen; first | omega | (simp; omega)) (by first | omega | (simp; omega)) rfl ?_
      rw [st_app1]
      refine WO.cln 9 ?_
      refine go ?_
      rw [e0]
      exact lpK.mk (k, l ++ [⟨5, c3, [], []⟩] ++ L1 ++ [⟨4, 0, [], []⟩], i, h) (.cons rfl (.cons rfl (.cons rfl (.cons rfl (.cons rfl (.cons rfl (.cons rfl .nil))))))) (fin _ ([⟨5, c3, [], []⟩] ++ (L1 ++ [⟨4, 0, [], []⟩])) (by simp only [List.append_assoc]) (by simp <;> omega) (((SL.one (by simp) (by simp))).app (sL1.app (SL.one (by simp) (by simp)))) i hD) (by dsimp only; omega)
    · obtain ⟨n, rfl⟩ : ∃ n', n = n' + 1 := ⟨n - 1, by omega⟩
      have e1 : ((n + 1 : Nat) : Int) - 1 = n := by omega
      have hcap : cap (n + 1) = 4 + 4 * cap n := rfl
      refine go ?_
      refine WO.bld (cs := [i64 8, i64 0, .nl, .nl]) rfl rfl rfl rfl ?_
      refine WO.castI (r := 155) (p := [2]) (y := .ag [i64 8, i64 0, .im 0 [], .nl]) rfl rfl ?_
      refine WO.castI (r := 155) (p := [3]) (y := .ag (stR ⟨8, 0, [], []⟩)) rfl rfl ?_
      refine WO.b1A rfl rfl rfl rfl rfl rfl rfl rfl ?_
      refine WO.apVM rfl rfl rfl (encL_length _) rfl rfl rfl rfl rfl (by unfold maxLen; first | omega | (simp; omega)) (by first | omega | (simp; omega)) rfl ?_
      rw [st_app1]
      refine WO.cln 9 ?_
      refine go ?_
      rw [e1]
      obtain ⟨res, fin', hE, L1, i, h, rfl, rfl, hD, hL1, sL1⟩ := ih n (by omega) 2 i h (by omega) (by omega) (by omega) hD
      refine WO.callD rfl rfl rfl rfl rfl hE rfl rfl rfl rfl ?_
      refine WO.apVM rfl rfl rfl (encL_length _) rfl rfl (encL_length _) rfl rfl (by unfold maxLen; first | omega | (simp; omega)) (by first | omega | (simp; omega)) rfl ?_
      rw [st_app]
      refine WO.cln 9 ?_
      refine go ?_
      refine WO.dice rfl rfl rfl rfl hD (by omega) rfl rfl (fun c3 i h hD hc0' hc1' => ?_)
      refine WO.bld (cs := [i64 7, i64 c3, .nl, .nl]) rfl rfl rfl rfl ?_
      refine go ?_
      refine WO.dice rfl rfl rfl rfl hD (by omega) rfl rfl (fun c4 i h hD hc0' hc1' => ?_)
      refine WO.bld (cs := [i64 9, i64 c4, .nl, .nl]) rfl rfl rfl rfl ?_
      refine WO.castI (r := 168) (p := [2]) (y := .ag [i64 7, i64 c3, .im 0 [], .nl]) rfl rfl ?_
      refine WO.castI (r := 168) (p := [3]) (y := .ag (stR ⟨7, c3, [], []⟩)) rfl rfl ?_
      refine WO.castI (r := 171) (p := [2]) (y := .ag [i64 9, i64 c4, .im 0 [], .nl]) rfl rfl ?_
      refine WO.castI (r := 171) (p := [3]) (y := .ag (stR ⟨9, c4, [], []⟩)) rfl rfl ?_
      refine WO.bsA (us := [.ag (stR ⟨7, c3, [], []⟩), .ag (stR ⟨9, c4, [], []⟩)]) (cs := encL stR [⟨7, c3, [], []⟩, ⟨9, c4, [], []⟩]) rfl rfl rfl rfl rfl (by kernel_rfl) rfl ?_
      refine WO.apVM rfl rfl rfl (encL_length _) rfl rfl rfl rfl rfl (by unfold maxLen; first | omega | (simp; omega)) (by first | omega | (simp; omega)) rfl ?_
      rw [st_app2]
      refine WO.cln 9 ?_
      refine go ?_
      rw [e1]
      obtain ⟨res, fin', hE, L2, i, h, rfl, rfl, hD, hL2, sL2⟩ := ih n (by omega) 1 i h (by omega) (by omega) (by omega) hD
      refine WO.callD rfl rfl rfl rfl rfl hE rfl rfl rfl rfl ?_
      refine WO.apVM rfl rfl rfl (encL_length _) rfl rfl (encL_length _) rfl rfl (by unfold maxLen; first | omega | (simp; omega)) (by first | omega | (simp; omega)) rfl ?_
      rw [st_app]
      refine WO.cln 9 ?_
      refine go ?_
      refine WO.bld (cs := [i64 4, i64 0, .nl, .nl]) rfl rfl rfl rfl ?_
      refine WO.castI (r := 182) (p := [2]) (y := .ag [i64 4, i64 0, .im 0 [], .nl]) rfl rfl ?_
      refine WO.castI (r := 182) (p := [3]) (y := .ag (stR ⟨4, 0, [], []⟩)) rfl rfl ?_
      refine WO.b1A rfl rfl rfl rfl rfl rfl rfl rfl ?_
      refine WO.apVM rfl rfl rfl (encL_length _) rfl rfl rfl rfl rfl (by unfold maxLen; first | omega | (simp; omega)) (by first | omega | (simp; omega)) rfl ?_
      rw [st_app1]
      refine WO.cln 9 ?_
      refine go ?_
      rw [e0]
      exact lpK.mk (k, l ++ [⟨8, 0, [], []⟩] ++ L1 ++ [⟨7, c3, [], []⟩, ⟨9, c4, [], []⟩] ++ L2 ++ [⟨4, 0, [], []⟩], i, h) (.cons rfl (.cons rfl (.cons rfl (.cons rfl (.cons rfl (.cons rfl (.cons rfl .nil))))))) (fin _ ([⟨8, 0, [], []⟩] ++ (L1 ++ ([⟨7, c3, [], []⟩, ⟨9, c4, [], []⟩] ++ (L2 ++ [⟨4, 0, [], []⟩])))) (by simp only [List.append_assoc]) (by simp <;> omega) ((SL.one (by simp) (by simp)).app (sL1.app ((SL.app (SL.one (by simp) (by simp)) (SL.one (by simp) (by simp)) : SL ([_] ++ [_])).app (sL2.app (SL.one (by simp) (by simp)))))) i hD) (by dsimp only; omega)
    · rcases hdef with hc | hc | hc | hc | hc <;> refine go ?_
      · refine WO.dice rfl rfl rfl rfl hD (by omega) rfl rfl (fun c3 i h hD hc0' hc1' => ?_)
        refine WO.call rfl rfl rfl (variable_ c3) rfl rfl ?_
        refine WO.hard (r := 35) (p := []) (x := .ow 93 2 1 (encL tm [⟨1, c3⟩])) (y := .im 1 (encL tm [⟨1, c3⟩])) rfl rfl rfl ?_
        refine WO.bld (cs := [i64 6, i64 0, .nl, .im 1 (encL tm [⟨1, c3⟩])]) rfl rfl rfl rfl ?_
        refine WO.castI (r := 36) (p := [2]) (y := .ag (stR ⟨6, 0, [], [⟨1, c3⟩]⟩)) rfl rfl ?_
        refine WO.b1A rfl rfl rfl rfl rfl rfl rfl rfl ?_
        refine WO.apVM rfl rfl rfl (encL_length _) rfl rfl rfl rfl rfl (by unfold maxLen; first | omega | (simp; omega)) (by first | omega | (simp; omega)) rfl ?_
        rw [st_app1]
        refine WO.cln 9 ?_
        refine go ?_
        rw [e0]
        exact lpK.mk (k, l ++ [⟨6, 0, [], [⟨1, c3⟩]⟩], i, h) (.cons rfl (.cons rfl (.cons rfl (.cons rfl (.cons rfl (.cons rfl (.cons rfl .nil))))))) (fin _ ([⟨6, 0, [], [⟨1, c3⟩]⟩]) (by simp only [List.append_assoc]) (by simp <;> omega) (SL.one (by simp) (by simp)) i hD) (by dsimp only; omega)
      · refine WO.dice rfl rfl rfl rfl hD (by omega) rfl rfl (fun c3 i h hD hc0' hc1' => ?_)
        refine WO.call rfl rfl rfl (variable_ c3) rfl rfl ?_
        refine WO.hard (r := 35) (p := []) (x := .ow 93 2 1 (encL tm [⟨1, c3⟩])) (y := .im 1 (encL tm [⟨1, c3⟩])) rfl rfl rfl ?_
        refine WO.bld (cs := [i64 6, i64 0, .nl, .im 1 (encL tm [⟨1, c3⟩])]) rfl rfl rfl rfl ?_
        refine WO.castI (r := 36) (p := [2]) (y := .ag (stR ⟨6, 0, [], [⟨1, c3⟩]⟩)) rfl rfl ?_
        refine WO.b1A rfl rfl rfl rfl rfl rfl rfl rfl ?_
        refine WO.apVM rfl rfl rfl (encL_length _) rfl rfl rfl rfl rfl (by unfold maxLen; first | omega | (simp; omega)) (by first | omega | (simp; omega)) rfl ?_
        rw [st_app1]
        refine WO.cln 9 ?_
        refine go ?_
        rw [e0]
        exact lpK.mk (k, l ++ [⟨6, 0, [], [⟨1, c3⟩]⟩], i, h) (.cons rfl (.cons rfl (.cons rfl (.cons rfl (.cons rfl (.cons rfl (.cons rfl .nil))))))) (fin _ ([⟨6, 0, [], [⟨1, c3⟩]⟩]) (by simp only [List.append_assoc]) (by simp <;> omega) (SL.one (by simp) (by simp)) i hD) (by dsimp only; omega)
      · refine WO.dice rfl rfl rfl rfl hD (by omega) rfl rfl (fun c3 i h hD hc0' hc1' => ?_)
        refine WO.call rfl rfl rfl (variable_ c3) rfl rfl ?_
        refine WO.hard (r := 35) (p := []) (x := .ow 93 2 1 (encL tm [⟨1, c3⟩])) (y := .im 1 (encL tm [⟨1, c3⟩])) rfl rfl rfl ?_
        refine WO.bld (cs := [i64 6, i64 0, .nl, .im 1 (encL tm [⟨1, c3⟩])]) rfl rfl rfl rfl ?_
        refine WO.castI (r := 36) (p := [2]) (y := .ag (stR ⟨6, 0, [], [⟨1, c3⟩]⟩)) rfl rfl ?_
        refine WO.b1A rfl rfl rfl rfl rfl rfl rfl rfl ?_
        refine WO.apVM rfl rfl rfl (encL_length _) rfl rfl rfl rfl rfl (by unfold maxLen; first | omega | (simp; omega)) (by first | omega | (simp; omega)) rfl ?_
        rw [st_app1]
        refine WO.cln 9 ?_
        refine go ?_
        rw [e0]
        exact lpK.mk (k, l ++ [⟨6, 0, [], [⟨1, c3⟩]⟩], i, h) (.cons rfl (.cons rfl (.cons rfl (.cons rfl (.cons rfl (.cons rfl (.cons rfl .nil))))))) (fin _ ([⟨6, 0, [], [⟨1, c3⟩]⟩]) (by simp only [List.append_assoc]) (by simp <;> omega) (SL.one (by simp) (by simp)) i hD) (by dsimp only; omega)
      · refine WO.dice rfl rfl rfl rfl hD (by omega) rfl rfl (fun c3 i h hD hc0' hc1' => ?_)
        refine WO.call rfl rfl rfl (variable_ c3) rfl rfl ?_
        refine WO.hard (r := 35) (p := []) (x := .ow 93 2 1 (encL tm [⟨1, c3⟩])) (y := .im 1 (encL tm [⟨1, c3⟩])) rfl rfl rfl ?_
        refine WO.bld (cs := [i64 6, i64 0, .nl, .im 1 (encL tm [⟨1, c3⟩])]) rfl rfl rfl rfl ?_
        refine WO.castI (r := 36) (p := [2]) (y := .ag (stR ⟨6, 0, [], [⟨1, c3⟩]⟩)) rfl rfl ?_
        refine WO.b1A rfl rfl rfl rfl rfl rfl rfl rfl ?_
        refine WO.apVM rfl rfl rfl (encL_length _) rfl rfl rfl rfl rfl (by unfold maxLen; first | omega | (simp; omega)) (by first | omega | (simp; omega)) rfl ?_
        rw [st_app1]
        refine WO.cln 9 ?_
        refine go ?_
        rw [e0]
        exact lpK.mk (k, l ++ [⟨6, 0, [], [⟨1, c3⟩]⟩], i, h) (.cons rfl (.cons rfl (.cons rfl (.cons rfl (.cons rfl (.cons rfl (.cons rfl .nil))))))) (fin _ ([⟨6, 0, [], [⟨1, c3⟩]⟩]) (by simp only [List.append_assoc]) (by simp <;> omega) (SL.one (by simp) (by simp)) i hD) (by dsimp only; omega)
      · refine WO.dice rfl rfl rfl rfl hD (by omega) rfl rfl (fun c3 i h hD hc0' hc1' => ?_)
        refine WO.call rfl rfl rfl (variable_ c3) rfl rfl ?_
        refine WO.hard (r := 35) (p := []) (x := .ow 93 2 1 (encL tm [⟨1, c3⟩])) (y := .im 1 (encL tm [⟨1, c3⟩])) rfl rfl rfl ?_
        refine WO.bld (cs := [i64 6, i64 0, .nl, .im 1 (encL tm [⟨1, c3⟩])]) rfl rfl rfl rfl ?_
        refine WO.castI (r := 36) (p := [2]) (y := .ag (stR ⟨6, 0, [], [⟨1, c3⟩]⟩)) rfl rfl ?_
        refine WO.b1A rfl rfl rfl rfl rfl rfl rfl rfl ?_
        refine WO.apVM rfl rfl rfl (encL_length _) rfl rfl rfl rfl rfl (by unfold maxLen; first | omega | (simp; omega)) (by first | omega | (simp; omega)) rfl ?_
        rw [st_app1]
        refine WO.cln 9 ?_
        refine go ?_
        rw [e0]
        exact lpK.mk (k, l ++ [⟨6, 0, [], [⟨1, c3⟩]⟩], i, h) (.cons rfl (.cons rfl (.cons rfl (.cons rfl (.cons rfl (.cons rfl (.cons rfl .nil))))))) (fin _ ([⟨6, 0, [], [⟨1, c3⟩]⟩]) (by simp only [List.append_assoc]) (by simp <;> omega) (SL.one (by simp) (by simp)) i hD) (by dsimp only; omega)
  · refine go ?_
    exact retOE (G := deedG bs M) rfl rfl (encL_length _) rfl rfl ⟨l, i, h, rfl, rfl, hD, by omega, hS⟩
end Go.Eng.C

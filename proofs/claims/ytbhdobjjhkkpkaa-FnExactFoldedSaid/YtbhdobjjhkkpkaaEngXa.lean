/- Contracts of functions, by the engine: the laws' dice, numbers and variables. -/
import Derived.Test.YtbhdobjjhkkpkaaEngV1
import Derived.Test.YtbhdobjjhkkpkaaEngB4
namespace Go.Eng.C
open Go Go.Eng Go.RowKit Go.Proofs
set_option linter.unusedVariables false
set_option linter.unusedSimpArgs false
set_option maxRecDepth 10000
variable {X : FuncId → List AV → AV → List AV → Prop}
theorem nm_laws_big : (Try.f47.name == "runtime.NumGoroutine") = false := by decide
theorem nm_laws_variable : (Try.f119.name == "runtime.NumGoroutine") = false := by decide
theorem nm_laws_number : (Try.f207.name == "runtime.NumGoroutine") = false := by decide
theorem nm_laws_dice_below : (Try.f117.name == "runtime.NumGoroutine") = false := by decide
def eU8 (n : Int) : List AV := [.sc (.int .u8 n)]
instance : Wid eU8 1 := ⟨fun _ => rfl⟩
instance : Pl eU8 := ⟨fun _ => rfl⟩
theorem big (n : Nat) (cs : List AV) {r : Bool} (hr : r = true ↔ 4096 < n) : Ev Try.prog X (.fn 47 [.im n cs] (bl r) [.dead]) := by
  refine Ev.fnW (env := [(0, .im n cs)]) Try.func47 rfl nm_laws_big rfl rfl (by kernel_rfl) (.cons rfl .nil) ?_
  refine go ?_
  refine WO.cmp rfl rfl rfl rfl rfl (fun h => ?_) (fun h => ?_)
  · refine go ?_
    exact retV rfl (by have : r = true := hr.2 (by omega)
                       rw [this]) rfl rfl
  · refine go ?_
    exact retV rfl (by have : r = false := by cases r <;> simp_all <;> omega
                       rw [this]) rfl rfl
theorem variable_ (n : Int) : Ev Try.prog X (.fn 119 [i64 n] (.ow 93 2 1 (encL tm [⟨1, n⟩])) [.dead]) := by
  refine Ev.fnW (env := [(0, i64 n)]) Try.func119 rfl nm_laws_variable rfl rfl (by kernel_rfl) (.cons rfl .nil) ?_
  refine go ?_
  refine WO.bld (cs := tm ⟨1, n⟩) rfl rfl rfl rfl ?_
  refine WO.b1A rfl rfl rfl rfl rfl rfl rfl rfl ?_
  refine go ?_
  exact retO rfl rfl rfl rfl rfl rfl
theorem number_ (n : Int) : Ev Try.prog X (.fn 207 [i64 n] (.ow 93 2 1 (encL tm [⟨0, n⟩])) [.dead]) := by
  refine Ev.fnW (env := [(0, i64 n)]) Try.func207 rfl nm_laws_number rfl rfl (by kernel_rfl) (.cons rfl .nil) ?_
  refine go ?_
  refine WO.bld (cs := tm ⟨0, n⟩) rfl rfl rfl rfl ?_
  refine WO.b1A rfl rfl rfl rfl rfl rfl rfl rfl ?_
  refine go ?_
  exact retO rfl rfl rfl rfl rfl rfl
theorem u64_mod (n : Int) : 0 ≤ IntKind.u64.wrap n ∧ IntKind.u64.wrap n < 18446744073709551616 := by
  have : IntKind.u64.wrap n = n % 18446744073709551616 := by simp [IntKind.wrap, IntKind.bits, IntKind.signed]
  rw [this]; omega
theorem i64_small {n : Int} (h0 : 0 ≤ n) (h1 : n < 9223372036854775808) : IntKind.i64.wrap n = n := by
  have : IntKind.i64.wrap n = wrap64 n := by rw [Go.IntWalk.i64_left]
  rw [this]; exact w64 (by omega) (by omega)
abbrev dice (bs : List Int) (i h : Int) : AV := .op [.im bs.length (encL eU8 bs), i64 i, .sc (.int .u64 h)]
theorem and_small (G : Int) : 0 ≤ IntKind.u64.wrap (BitVec.ofInt IntKind.u64.bits G &&& BitVec.ofInt IntKind.u64.bits 16777215).toNat ∧ IntKind.u64.wrap (BitVec.ofInt IntKind.u64.bits G &&& BitVec.ofInt IntKind.u64.bits 16777215).toNat ≤ 16777215 := by
  have h1 : (BitVec.ofInt IntKind.u64.bits G &&& BitVec.ofInt IntKind.u64.bits 16777215).toNat ≤ 16777215 := by
    rw [BitVec.toNat_and]
    exact Nat.le_trans Nat.and_le_right (by decide)
  generalize (BitVec.ofInt IntKind.u64.bits G &&& BitVec.ofInt IntKind.u64.bits 16777215).toNat = m at *
  have : IntKind.u64.wrap (m : Int) = (m : Int) % 18446744073709551616 := by simp [IntKind.wrap, IntKind.bits, IntKind.signed]
  rw [this]; omega
def belowG (bs : List Int) (n : Int) (res : AV) (fin : List AV) : Prop := ∃ r i' h', res = i64 r ∧ fin = [dice bs i' h', .dead] ∧ 0 ≤ r ∧ r < n ∧ 0 ≤ i' ∧ i' ≤ bs.length
set_option maxHeartbeats 8000000 in
theorem below (bs : List Int) (i h n : Int) (hb : ∀ b ∈ bs, 0 ≤ b ∧ b ≤ 255) (h0 : 0 ≤ i) (h1 : i ≤ bs.length) (hl : bs.length ≤ 1048576) (hn : 0 < n) :
    ∃ res fin, Ev Try.prog X (.fn 117 [dice bs i h, i64 n] res fin) ∧ belowG bs n res fin := by
  refine Ev.fnE (env := [(0, .ad 1000000 [] 0), (1, i64 n), (1000000, dice bs i h)]) (belowG bs n) Try.func117 rfl nm_laws_dice_below rfl rfl (by kernel_rfl) (.cons rfl (.cons rfl (.cons rfl .nil))) ?_
  refine go ?_
  refine WO.binG rfl rfl rfl rfl rfl rfl ?_
  refine WO.binG rfl rfl rfl rfl rfl rfl ?_
  refine go ?_
  refine WO.st (cs' := [.im bs.length (encL eU8 bs), i64 i, .sc (.int .u64 _)]) rfl rfl rfl rfl rfl rfl rfl ?_
  generalize IntKind.u64.wrap _ = H
  refine go ?_
  refine WO.shr rfl rfl rfl (by decide) rfl rfl ?_
  generalize Int.fdiv H _ = G
  refine WO.binG rfl rfl rfl rfl rfl rfl ?_
  obtain ⟨hc0, hc1⟩ := and_small G
  generalize IntKind.u64.wrap (BitVec.ofInt IntKind.u64.bits G &&& BitVec.ofInt IntKind.u64.bits 16777215).toNat = c at *
  refine WO.conv rfl rfl (i64_small hc0 (by omega)) rfl ?_
  refine go ?_
  refine WC.regionD ⟨[[], [0], [0, 1], [0, 1, 2], [], [4], [4, 5], [4, 5, 6], [4, 5, 6, 7], [0, 1, 2, 3, 4, 5, 6, 7, 8]], [0, 1, 2, 3, 4, 5, 6, 7, 8, 9], [], [22, 23, 24, 25, 26, 27, 28, 29, 30, 31], [0, 1, 2, 3, 4, 5, 6, 7, 8, 9], [([26, 27, 28, 29, 30], [26, 27, 28, 29, 30], false), ([26, 27, 28, 29, 30], [26, 27, 28, 29, 30], false), ([26, 27, 28, 29, 30], [26, 27, 28, 29, 30], false), ([26, 27, 28, 29, 30], [26, 27, 28, 29, 30], false), ([22, 23, 24, 25], [22, 23, 24, 25], false), ([22, 23, 24, 25], [22, 23, 24, 25], false), ([22, 23, 24, 25], [22, 23, 24, 25], false), ([22, 23, 24, 25], [22, 23, 24, 25], false), ([22, 23, 24, 25], [22, 23, 24, 25], false), ([], [], false)]⟩ (by kernel_rfl) rfl ?_
  refine go ?_
  refine WD.q rfl rfl rfl rfl rfl (QE.bin rfl rfl rfl rfl) rfl rfl rfl ?_
  refine go ?_
  refine WC.cond rfl (fun h4 => ?_) (fun h4 => ?_)
  · have h5 : i < bs.length := of_decide_eq_true h4
    refine go ?_
    have hby : 0 ≤ bs.getD i.toNat 0 ∧ bs.getD i.toNat 0 ≤ 255 := by
      apply hb
      have : i.toNat < bs.length := by omega
      simp [List.getD_eq_getElem?_getD, this]
    refine WC.regionD ⟨[[], [], [1], [1, 2], [1, 2, 3], [], [5], [5, 6], [5, 6, 7], [1, 2, 3, 4, 5, 6, 7, 8], [1, 2, 3, 4, 5, 6, 7, 8, 9], [1, 2, 3, 4, 5, 6, 7, 8, 9, 10], [0, 1, 2, 3, 4, 5, 6, 7, 8, 9, 10, 11], [0, 1, 2, 3, 4, 5, 6, 7, 8, 9, 10, 11, 12]], [0, 1, 2, 3, 4, 5, 6, 7, 8, 9, 10, 11, 12], [], [32, 33, 34, 35, 36, 37, 38, 39, 40, 41, 42, 43, 44], [0, 1, 2, 3, 4, 5, 6, 7, 8, 9, 10, 11, 12, 13], [([33, 34, 35, 36, 37, 38, 39, 40, 41, 42, 43], [33, 34, 35, 36, 37, 38, 39, 40, 41, 42, 43], false), ([32, 37, 38, 39, 40], [32, 37, 38, 39, 40], false), ([32, 37, 38, 39, 40], [32, 37, 38, 39, 40], false), ([32, 37, 38, 39, 40], [32, 37, 38, 39, 40], false), ([32, 37, 38, 39, 40], [32, 37, 38, 39, 40], false), ([32, 33, 34, 35, 36], [32, 33, 34, 35, 36], false), ([32, 33, 34, 35, 36], [32, 33, 34, 35, 36], false), ([32, 33, 34, 35, 36], [32, 33, 34, 35, 36], false), ([32, 33, 34, 35, 36], [32, 33, 34, 35, 36], false), ([32], [32], false), ([32], [32], false), ([32], [32], false), ([], [], false), ([], [], false)]⟩ (by kernel_rfl) rfl ?_
    refine go ?_
    refine WD.q rfl rfl rfl rfl rfl (QE.ixI (f := eU8) 0 rfl rfl h0 h5) rfl rfl rfl ?_
    refine go ?_
    refine WD.q rfl rfl rfl rfl rfl (QE.conv rfl (i64_small hby.1 (by omega))) rfl rfl rfl ?_
    refine go ?_
    generalize bs.getD i.toNat 0 = b at *
    refine WO.st (cs' := [.im bs.length (encL eU8 bs), i64 (i + 1), .sc (.int .u64 H)]) rfl rfl rfl rfl rfl rfl rfl ?_
    refine go ?_
    refine WO.binG rfl rfl rfl (show Eng.binG .rem .i64 (c + b) n = some (.int .i64 ((c + b).tmod n)) by simp only [Eng.binG, if_neg (show ¬ n = 0 by omega)]) rfl rfl ?_
    refine go ?_
    exact retVE (G := belowG bs n) rfl rfl rfl ⟨_, i + 1, H, rfl, rfl, Int.tmod_nonneg _ (by omega), Int.tmod_lt_of_pos _ hn, by omega, by omega⟩
  · refine go ?_
    refine WO.binG rfl rfl rfl (show Eng.binG .rem .i64 c n = some (.int .i64 (c.tmod n)) by simp only [Eng.binG, if_neg (show ¬ n = 0 by omega)]) rfl rfl ?_
    refine go ?_
    exact retVE (G := belowG bs n) rfl rfl rfl ⟨_, i, H, rfl, rfl, Int.tmod_nonneg _ hc0, Int.tmod_lt_of_pos _ hn, h0, h1⟩
/-- The dice stand well. -/
structure DOk (bs : List Int) (i : Int) : Prop where
  b : ∀ b ∈ bs, 0 ≤ b ∧ b ≤ 255
  h0 : 0 ≤ i
  h1 : i ≤ bs.length
  l : bs.length ≤ 1048576
theorem WO.dice {all : Array Oper} {R : (Nat → AV) → Prop} {g : Option (Nat × Bool)} {env : Env} {d r : Nat} {l : List Oper} {ty : TypeId} {pos : String} {af : Array Edge} {x0 : Operand} {xs : List Operand} {ts : Array TypeId} {bs : List Int} {i h n : Int} (hg : gg all (look env) g = some true) (hx : ov (look env) x0 = .ad r [] 0) (hr : look env r = dice bs i h) (ha : xs.map (ov (look env)) = [i64 n]) (hD : DOk bs i) (hn : 0 < n) (hne : nbE r 0 env = true) (hd : nrE d env = true)
    (k : ∀ c i' h', DOk bs i' → 0 ≤ c → c < n → WO Try.prog X all l (look ((d, i64 c) :: (r, dice bs i' h') :: env)) R) : WO Try.prog X all (⟨some d, .call { callee := .value (.func 117), args := (x0 :: xs).toArray, argTypes := ts }, ty, pos, af, g⟩ :: l) (look env) R := by
  obtain ⟨res, fin, hE, c, i', h', rfl, rfl, h1, h2, h3, h4⟩ := below (X := X) bs i h n hD.b hD.h0 hD.h1 hD.l hn
  exact WO.callD hg hx hr ha rfl hE rfl hne hd rfl (k c i' h' ⟨hD.b, h3, h4, hD.l⟩ h1 h2)
theorem WD.dice {all : Array Oper} {ri : RI} {l : List Nat} {R : (Nat → AV) → Prop} {g : Option (Nat × Bool)} {env : Env} {d r j : Nat} {ty : TypeId} {pos : String} {af : Array Edge} {x0 : Operand} {xs : List Operand} {ts : Array TypeId} {bs : List Int} {i h n : Int} {HD H : List Nat} {gm : Bool} (hi : all[j]? = some ⟨some d, .call { callee := .value (.func 117), args := (x0 :: xs).toArray, argTypes := ts }, ty, pos, af, g⟩) (hq : ri.quiet.contains j = false) (hT : gTn ri.gen j = some [r]) (ht : ri.tab[j]? = some (HD, H, gm)) (hg : gg all (look (deE H env)) g = some true) (hx : ov (look (deE H env)) x0 = .ad r [] 0) (hr : look (deE H env) r = dice bs i h) (hr2 : noRf (look env r) = true) (ha : xs.map (ov (look (deE H env))) = [i64 n]) (hD : DOk bs i) (hn : 0 < n) (hne : nbE r 0 env = true) (hrd : Nat.beq r d = false) (hd : nrE d env = true) (hd2 : look env d = .dead) (hc : chkE [d] H env = true)
    (k : ∀ c i' h', DOk bs i' → 0 ≤ c → c < n → WD Try.prog X all ri l (look ((d, i64 c) :: (r, dice bs i' h') :: env)) R) : WD Try.prog X all ri (j :: l) (look env) R := by
  obtain ⟨res, fin, hE, c, i', h', rfl, rfl, h1, h2, h3, h4⟩ := below (X := X) bs i h n hD.b hD.h0 hD.h1 hD.l hn
  exact WD.callD hi hq hT ht hg hx hr hr2 ha rfl hE rfl hne hrd hd hd2 rfl rfl hc (k c i' h' ⟨hD.b, h3, h4, hD.l⟩ h1 h2)
theorem nm_laws_roll : (Try.f54.name == "runtime.NumGoroutine") = false := by decide
def rollG (bs : List Int) (res : AV) (fin : List AV) : Prop := ∃ h, res = dice bs 0 h ∧ fin = [.dead, .dead]
set_option maxHeartbeats 8000000 in
theorem roll (bs : List Int) (seed : Int) (hl : bs.length ≤ 1048576) : ∃ res fin, Ev Try.prog X (.fn 54 [.im bs.length (encL eU8 bs), .sc (.int .u64 seed)] res fin) ∧ rollG bs res fin := by
  refine Ev.fnE (env := [(0, .im bs.length (encL eU8 bs)), (1, .sc (.int .u64 seed))]) (rollG bs) Try.func54 rfl nm_laws_roll rfl rfl (by kernel_rfl) (.cons rfl (.cons rfl .nil)) ?_
  refine go ?_
  refine WO.binG rfl rfl rfl rfl rfl rfl ?_
  refine go ?_
  refine WO.conv rfl rfl rfl rfl ?_
  refine WO.binG rfl rfl rfl rfl rfl rfl ?_
  generalize IntKind.u64.wrap (_ + _) = h
  refine WO.bld (cs := [.im bs.length (encL eU8 bs), i64 0, .sc (.int .u64 h)]) rfl rfl rfl rfl ?_
  refine WO.boxA rfl rfl rfl rfl rfl ?_
  refine WO.takeOp rfl (.assign _) rfl rfl rfl ?_
  refine go ?_
  refine WC.loopS (S := Nat × Int) (fun s => [(0, .im bs.length (encL eU8 bs)), (6, i64 s.1), (5, dice bs 0 s.2)]) (fun s => s.1 ≤ bs.length) (fun s => bs.length - s.1) (0, h) (.cons rfl (.cons rfl (.cons rfl .nil))) (by simp) ?_
  rintro ⟨i, H⟩ h1
  dsimp only at h1 ⊢
  refine go ?_
  refine WO.cmp rfl rfl rfl rfl rfl (fun h3 => ?_) (fun h3 => ?_)
  · refine go ?_
    have hi : i < bs.length := by omega
    refine WC.regionD ⟨[[], [], [1], [1, 2], [1, 2, 3], [1, 2, 3, 4], [], [], [6, 7], [6, 7, 8], [6, 7, 8, 9], [1, 2, 3, 4, 5, 6, 7, 8, 9, 10], [1, 2, 3, 4, 5, 6, 7, 8, 9, 10, 11], [0, 1, 2, 3, 4, 5, 6, 7, 8, 9, 10, 11, 12], [0, 1, 2, 3, 4, 5, 6, 7, 8, 9, 10, 11, 12, 13], [0, 1, 2, 3, 4, 5, 6, 7, 8, 9, 10, 11, 12, 13, 14]], [0, 1, 2, 3, 4, 5, 6, 7, 8, 9, 10, 11, 12, 13, 14], [], [22, 23, 24, 25, 26, 27, 28, 29, 30, 31, 32, 33, 34, 35, 36], [0, 1, 2, 3, 4, 5, 6, 7, 8, 9, 10, 11, 12, 13, 14, 15], [([23, 24, 25, 26, 27, 28, 29, 30, 31, 32, 33, 34], [23, 24, 25, 26, 27, 28, 29, 30, 31, 32, 33, 34], false), ([22, 28, 29, 30, 31, 32], [22, 28, 29, 30, 31, 32], false), ([22, 28, 29, 30, 31, 32], [22, 28, 29, 30, 31, 32], false), ([22, 28, 29, 30, 31, 32], [22, 28, 29, 30, 31, 32], false), ([22, 28, 29, 30, 31, 32], [22, 28, 29, 30, 31, 32], false), ([22, 28, 29, 30, 31, 32], [22, 28, 29, 30, 31, 32], false), ([22, 23, 24, 25, 26, 27, 29], [22, 23, 24, 25, 26, 27, 29], false), ([22, 23, 24, 25, 26, 27, 28], [22, 23, 24, 25, 26, 27, 28], false), ([22, 23, 24, 25, 26, 27], [22, 23, 24, 25, 26, 27], false), ([22, 23, 24, 25, 26, 27], [22, 23, 24, 25, 26, 27], false), ([22, 23, 24, 25, 26, 27], [22, 23, 24, 25, 26, 27], false), ([22], [22], false), ([22], [22], false), ([], [], false), ([], [], false), ([], [], false)]⟩ (by kernel_rfl) rfl ?_
    refine go ?_
    refine WD.q rfl rfl rfl rfl rfl (QE.binG rfl rfl rfl rfl) rfl rfl rfl ?_
    refine go ?_
    refine WD.q rfl rfl rfl rfl rfl (QE.ixN (f := eU8) 0 rfl rfl hi) rfl rfl rfl ?_
    refine go ?_
    refine WD.q rfl rfl rfl rfl rfl (QE.conv rfl rfl) rfl rfl rfl ?_
    refine WD.q rfl rfl rfl rfl rfl (QE.binG rfl rfl rfl rfl) rfl rfl rfl ?_
    refine WD.q rfl rfl rfl rfl rfl (QE.binG rfl rfl rfl rfl) rfl rfl rfl ?_
    refine go ?_
    refine WO.st (cs' := [.im bs.length (encL eU8 bs), i64 0, .sc (.int .u64 _)]) rfl rfl rfl rfl rfl rfl rfl ?_
    refine go ?_
    exact lpK.mk (i + 1, _) (.cons rfl (.cons rfl (.cons rfl .nil))) (by dsimp only; omega) (by dsimp only; omega)
  · refine go ?_
    exact retDE (G := rollG bs) rfl rfl rfl rfl ⟨H, rfl, rfl⟩
theorem nm_laws_two : (Try.f208.name == "runtime.NumGoroutine") = false := by decide
theorem two (op : Int) (a b : List Tm) (ha : a.length ≤ 1048576) (hb : b.length ≤ 1048576) : Ev Try.prog X (.fn 208 [i64 op, .im a.length (encL tm a), .im b.length (encL tm b)] (.ow 93 2 (a ++ b ++ [(⟨op, 0⟩ : Tm)]).length (encL tm (a ++ b ++ [(⟨op, 0⟩ : Tm)]))) [.dead, .dead, .dead]) := by
  refine Ev.fnW (env := [(0, i64 op), (1, .im a.length (encL tm a)), (2, .im b.length (encL tm b))]) Try.func208 rfl nm_laws_two rfl rfl (by kernel_rfl) (.cons rfl (.cons rfl (.cons rfl .nil))) ?_
  refine go ?_
  refine WO.build0 rfl rfl rfl ?_
  refine go ?_
  refine WO.apI rfl rfl rfl rfl rfl (encL_length _) rfl (by unfold maxLen; omega) (by omega) rfl ?_
  rw [Nat.zero_add, List.nil_append]
  refine go ?_
  refine WO.apVI rfl rfl rfl (encL_length _) rfl (encL_length _) rfl (by unfold maxLen; omega) (by omega) rfl ?_
  rw [← List.length_append, ← encL_append]
  refine WO.cln 7 ?_
  refine go ?_
  refine WO.bld (cs := tm ⟨op, 0⟩) rfl rfl rfl rfl ?_
  refine WO.b1A rfl rfl rfl rfl rfl rfl rfl rfl ?_
  refine WO.apVM rfl rfl rfl (encL_length _) rfl rfl rfl rfl rfl (by unfold maxLen; simp; omega) (by simp; omega) rfl ?_
  change WO _ _ _ _ (look ((18, .ow 93 2 ((a ++ b).length + 1) (encL tm (a ++ b) ++ encL tm [(⟨op, 0⟩ : Tm)])) :: _)) _
  rw [← encL_append, show (a ++ b).length + 1 = (a ++ b ++ [(⟨op, 0⟩ : Tm)]).length by simp [Nat.add_assoc]]
  refine go ?_
  exact retO rfl rfl (encL_length _) rfl rfl rfl
end Go.Eng.C

/- Contracts of functions, by the engine: folding, of the program: take. Printed by mk/mkfr.py. -/
import Derived.Test.YtbhdobjjhkkpkaaEngFq
namespace Go.Eng
open Go Go.RowKit
set_option linter.unusedVariables false
set_option linter.unusedSimpArgs false
section
variable {P : Program} {X : FuncId → List AV → AV → List AV → Prop} {all : Array Oper} {l : List Oper} {R : (Nat → AV) → Prop} {env : Env} {g : Option (Nat × Bool)} {d t : Nat} {ty : TypeId} {pos : String} {af : Array Edge}
/-- The beginning of a slice that stands in a variable's cell. -/
theorem QE.slHP {x y : Operand} {tx e sz e' sz' m b n r j : Nat} {ds cs : List AV} [hT : SlT P tx e sz] (hx : ov (look env) x = .vw r [j] 0 n) (hr : look env r = .op ds) (hj : ds[j]? = some (.ow e' sz' m cs)) (h1 : b ≤ n) (hy : ov (look env) y = .sc (.int .i64 (b : Int)) := by rfl) : Ev P X (.qe ⟨some d, .slice tx x none (some y) none, ty, pos, af, g⟩ (look env) (.vw r [j] 0 b)) := by
  have := QO.sliceV (P := P) (σ := look env) tx x none (some y) e sz 0 b r 0 n m e' sz' [j] cs hT.ht hT.hs hT.h0 hx (by simp [getN, hr, kids, hj]) rfl (by simp only [bnd, hy]) (by omega) (by omega) (by omega)
  have e1 : 0 + Int.toNat 0 * sz = 0 := by simp
  have e2 : (b : Int).toNat - Int.toNat 0 = b := by simp
  rw [e1, e2] at this
  exact .qo this
/-- An append behind the beginning of what stands in a variable's cell: the rest of it is lost. -/
theorem WO.apPT {s x : Operand} {tx e by_ n m k r j : Nat} {z : Value} {xs : List Int} {cs' ds L zc : List AV} [hT : SlT P tx e 1] [hZ : ZrT P e by_ z zc] (hg : gg all (look env) g = some true) (hs : ov (look env) s = .vw r [j] 0 n) (hr : look env r = .op ds) (hj : ds[j]? = some (.ow e 1 m (encL eI xs))) (hm : n ≤ m) (hx : ov (look env) x = .im k L) (hL : L.length = k * 1) (hz : Nat.beq zc.length 1 = true) (h63 : n + k ≤ maxLen) (hby : (n + k) * by_ ≤ 140737488355328) (hn : nrE d env = true) (hd : ds.set j .dead = cs') (hnr : nrL d cs' = true)
    (hk : WO P X all l (look ((d, .ow e 1 (n + k) (encL eI (xs.take n) ++ L)) :: (r, .op cs') :: env)) R) : WO P X all (⟨some d, .call { callee := .builtin .append, args := #[s, x], argTypes := #[tx, tx] }, ty, pos, af, g⟩ :: l) (look env) R := by
  have ht : (encL eI xs).take (n * 1) = encL eI (xs.take n) := encL_take (f := eI) (sz := 1) ..
  have e1 : setS (look env) r [j] .dead = look ((r, .op cs') :: env) := by
    rw [← look_upd]; simp only [setS, hr, setN, kids, hj, withKids, hd]
  have h1 : TakeL (look env) [.vw r [j] 0 n] [.ow e 1 n (encL eI (xs.take n))] (look ((r, .op cs') :: env)) := by
    have := TakeL.vw (σ := look env) (σ' := look ((r, .op cs') :: env)) (r := r) (n := n) (p := [j]) (e := e) (sz := 1) (m := m) (cs := encL eI xs) (by simp [getN, hr, kids, hj]) hm (show TakeL (setS (look env) r [j] .dead) [] [] _ from by rw [e1]; exact .nil _)
    rwa [ht] at this
  refine WO.op (σ1 := put (look ((r, .op cs') :: env)) d (.ow e 1 (n + k) (encL eI (xs.take n) ++ L))) (gg_goes hg) (.appendC (z := z) rfl rfl hT.ht hT.hs hZ.hb hZ.hz (zr_size hZ hz) hT.h0 (by rw [hs]; exact h1) (.ow n _) (by rw [hx]; exact .im k L) hL h63 hby) ?_
  rw [put_look (by simp only [nrE, nrA, hn, hnr, Bool.and_self]) rfl]
  exact hk
/-- What refers into a variable is let go. -/
def clnB (r : Nat) : Env → Env
  | [] => []
  | (k, a) :: e => (k, bif nbA r 0 a then a else .dead) :: clnB r e
theorem clnB_mask {r i : Nat} : ∀ (e : Env) (t : Nat), look (clnB r e) t = .dead ∨ look (clnB r e) t = mask (isC r [] i) (look e t)
  | [], t => .inr rfl
  | (k, a) :: e, t => by
    simp only [look, clnB]
    cases Nat.beq k t
    · simp only [cond_false]; exact clnB_mask e t
    · simp only [cond_true]
      cases h : nbA r 0 a
      · exact .inl rfl
      · exact .inr (nbA_mask (p := []) a h).symm
/-- The beginning of what stands in a variable's cell is stored there. -/
theorem WO.stTr {α : Type} {f : α → List AV} {x y : Operand} {tx e sz m n r j : Nat} {xs : List α} {ds cs' : List AV} [hT : OnT P tx] [hW : Wid f sz] (hg : gg all (look env) g = some true) (hx : ov (look env) x = .ad r [] j) (hy : ov (look env) y = .vw r [j] 0 n) (hr : look env r = .op ds) (hj : ds[j]? = some (.ow e sz m (encL f xs))) (hm : n ≤ m) (hi : Nat.blt j ds.length = true) (hnz : nbA r 0 (.op cs') = true) (hc : ds.set j (.ow e sz n (encL f (xs.take n))) = cs') (k : WO P X all l (look ((r, .op cs') :: clnB r env)) R) : WO P X all (⟨none, .store tx x y, ty, pos, af, g⟩ :: l) (look env) R := by
  have hi := Nat.le_of_ble_eq_true hi
  have ht : (encL f xs).take (n * sz) = encL f (xs.take n) := encL_take (f := f) (sz := sz) ..
  have e1 : setS (look env) r [j] .dead = look ((r, .op (ds.set j .dead)) :: env) := by
    rw [← look_upd]; simp only [setS, hr, setN, kids, hj, withKids]
  have h1 : TakeL (look env) [.vw r [j] 0 n] [.ow e sz n (encL f (xs.take n))] (look ((r, .op (ds.set j .dead)) :: env)) := by
    have := TakeL.vw (σ := look env) (σ' := look ((r, .op (ds.set j .dead)) :: env)) (r := r) (n := n) (p := [j]) (e := e) (sz := sz) (m := m) (cs := encL f xs) (by simp [getN, hr, kids, hj]) hm (show TakeL (setS (look env) r [j] .dead) [] [] _ from by rw [e1]; exact .nil _)
    rwa [ht] at this
  have hr2 : look ((r, .op (ds.set j .dead)) :: env) r = .op (ds.set j .dead) := by simp only [look, Nat.beq_refl, cond_true]
  have hS : (ds.set j .dead).set j (.ow e sz n (encL f (xs.take n))) = cs' := by rw [List.set_set, hc]
  have h3 : StoreL (look ((r, .op (ds.set j .dead)) :: env)) r [] j [.ow e sz n (encL f (xs.take n))] (modS (look ((r, .op (ds.set j .dead)) :: env)) r [] (isC r [] j) (.op cs')) := by
    have := StoreL.cons (σ := look ((r, .op (ds.set j .dead)) :: env)) (r := r) (p := []) (i := j) (nd := .op (ds.set j .dead)) (cs := ds.set j .dead) (c := .ow e sz n (encL f (xs.take n))) (vs := []) (by simp only [getN, hr2]) (.inr rfl) (by rw [List.length_set]; omega) (.nil _ _ _ _)
    rwa [show withKids (.op (ds.set j .dead)) ((ds.set j .dead).set j (.ow e sz n (encL f (xs.take n)))) = .op cs' by rw [hS]; rfl] at this
  refine WO.op (σ1 := putD (modS (look ((r, .op (ds.set j .dead)) :: env)) r [] (isC r [] j) (.op cs')) none .dead) (gg_goes hg) (.store (σ1 := look ((r, .op (ds.set j .dead)) :: env)) (vs := [.ow e sz n (encL f (xs.take n))]) (tr := .ow e sz n (encL f (xs.take n))) rfl hx ?_ (by rw [hy]; exact h1) rfl hT.hs h3) ?_
  · simp only [nodeCells, getN, hr2]; rfl
  · show WO P X all l (modS (look ((r, .op (ds.set j .dead)) :: env)) r [] (isC r [] j) (.op cs')) R
    refine WO.drop (fun t => ?_) k
    by_cases htr : t = r
    · subst htr
      refine .inr ?_
      simp only [modS, upd_same, setN]
      rw [nbA_mask (p := []) _ hnz]
      simp only [look, Nat.beq_refl, cond_true]
    · have hb : Nat.beq r t = false := by
        cases h : Nat.beq r t
        · rfl
        · exact absurd (Nat.eq_of_beq_eq_true h).symm htr
      simp only [modS, upd_ne _ _ _ htr, look, hb, cond_false]
      exact clnB_mask env t
end
end Go.Eng
namespace Go.Eng.C
open Go Go.Eng Go.RowKit Go.Proofs
set_option linter.unusedVariables false
set_option linter.unusedSimpArgs false
set_option maxRecDepth 10000
variable {X : FuncId → List AV → AV → List AV → Prop}
theorem nm_impl_folder_take : (Try.f159.name == "runtime.NumGoroutine") = false := by decide
/-- A number's term. -/
def nmT (x : Int) : Tm := ⟨0, x⟩
theorem hardL_fo (p : Pr) (S : List (List Tm)) : hardL (fo p S) = foR p S := by
  simp only [fo, foR, hardL, Eng.hard, hardL_pl (encL_pl (f := eI) _), hardL_pl (encL_pl (f := tm) _)]
/-- Numbers that may stand. -/
def NmS (w : Int) (S : List (List Tm)) : Prop := ∀ s ∈ S, ∀ u ∈ s, u.op = 0 → 0 ≤ u.n ∧ u.n < sizeW w
theorem nums_of : ∀ {xs : List (List Tm)}, (∀ s ∈ xs, isN s) → xs.flatten = (xs.map nv).map nmT
  | [], _ => rfl
  | s :: xs, h => by
    obtain ⟨h1, h2⟩ := h s (by simp)
    obtain ⟨u, rfl⟩ : ∃ u, s = [u] := List.length_eq_one_iff.1 h1
    simp only [List.flatten_cons, List.map_cons, nums_of fun s hs => h s (List.mem_cons_of_mem _ hs)]
    simp only [List.getD_cons_zero] at h2
    obtain ⟨op, n⟩ := u
    simp only at h2
    subst h2
    rfl
theorem hgt_nums {w : Int} (w8 : w ≤ 8) : ∀ (xs : List Int) (l : List Tm) (h : Int), 0 ≤ h → (∀ x ∈ xs, 0 ≤ x ∧ x < sizeW w) → hgt (xs.map nmT ++ l) h = hgt l (h + xs.length)
  | [], l, h, _, _ => by simp
  | x :: xs, l, h, h0, hx => by
    have hz := (sizeW_bd w8).2
    obtain ⟨h1, h2⟩ := hx x (by simp)
    have e : tks (nmT x).op = 0 := rfl
    have ho : tmOk (nmT x) := ⟨by rw [e]; omega, h1, by show x ≤ 255; omega, fun h => absurd h (by show ¬ ((0 : Int) > 2); omega)⟩
    simp only [List.map_cons, List.cons_append, hgt]
    rw [e, if_pos ⟨ho, h0⟩, hgt_nums w8 xs l _ (by omega) (fun y hy => hx y (List.mem_cons_of_mem _ hy))]
    congr 1
    simp only [List.length_cons]; omega
set_option maxHeartbeats 40000000 in
theorem take (p : Pr) (S : List (List Tm)) (t : Tm) (hB : PB p) (w1 : 1 ≤ p.w) (w8 : p.w ≤ 8) (ht : tmOk t) (hk : tks t.op ≤ (S.length : Int)) (hN : NmS p.w S) (htn : t.op = 0 → t.n < sizeW p.w) (hS : S.length ≤ 3000) (hF : S.flatten.length ≤ 3000) : Ev Try.prog X (.fn 159 [.op (fo p S), .ag (tm t)] (.tu []) [.op (fo p (stk p.w S t)), .dead]) := by
  have hsl := sts_len S 0
  have hkr := tks_range t.op
  have hk0 := ht.1
  obtain ⟨j, hj⟩ : ∃ j : Nat, j = S.length - (tks t.op).toNat := ⟨_, rfl⟩
  have hjl : j ≤ S.length := by omega
  have hjt : (S.length : Int) - tks t.op = j := by omega
  obtain ⟨b, hb⟩ : ∃ b, b = (S.take j).flatten.length := ⟨_, rfl⟩
  have hbl : b ≤ S.flatten.length := by rw [hb]; exact fl_le S j
  have hstk : stk p.w S t = S.take j ++ [cl p.w t (S.drop j)] := by unfold stk; rw [← hj]
  have hsp : S.flatten = (S.take j).flatten ++ (S.drop j).flatten := by rw [← List.flatten_append, List.take_append_drop]
  have hfb : S.flatten.take b = (S.take j).flatten := by rw [hsp, hb, List.take_left]
  have cK := known (X := X) p S j hjl hS (by omega)
  have hP : AV.ow 3 1 (j + 1) (encL eI ((sts S 0).take j) ++ [i64 b]) = .ow 3 1 (sts (stk p.w S t) 0).length (encL eI (sts (stk p.w S t) 0)) := by
    rw [hstk, sts_app, sts_take, Nat.zero_add, ← hb, List.length_append, sts_len, List.length_take, encL_append, show min j S.length = j by omega]; rfl
  have hno : ¬ ((∀ s ∈ S.drop j, isN s) ∧ knT t = true ∧ (rp p.w nov ((S.drop j).flatten ++ [t]) []).2 = 0) → S.flatten ++ [t] = (stk p.w S t).flatten := fun h => by
    rw [hstk, List.flatten_append, hsp]; unfold cl; rw [if_neg h]; simp
  have hyes : (∀ s ∈ S.drop j, isN s) → knT t = true → (rp p.w nov ((S.drop j).flatten ++ [t]) []).2 = 0 → (S.take j).flatten ++ [⟨0, (rp p.w nov ((S.drop j).flatten ++ [t]) []).1⟩] = (stk p.w S t).flatten := fun h1 h2 h3 => by
    rw [hstk, List.flatten_append]; unfold cl; rw [if_pos ⟨h1, h2, h3⟩]; simp
  have kx : (∀ s ∈ S.drop j, isN s) → (S.drop j).flatten = ((S.drop j).map nv).map nmT := fun h => nums_of h
  have cRk : (∀ s ∈ S.drop j, isN s) → knT t = true → Ev Try.prog X (.fn 76 [.ip (prR p), .ip (enR nov), .im (((S.drop j).map nv).map nmT ++ [t]).length (encL tm (((S.drop j).map nv).map nmT ++ [t])), .sc (.bool false)] (.tu [i64 (rk p.w nov (((S.drop j).map nv).map nmT ++ [t]) []).1, i64 (rk p.w nov (((S.drop j).map nv).map nmT ++ [t]) []).2]) [.dead, .dead, .dead, .dead]) := fun h1 h2 => by
    have hb1 : ∀ x ∈ (S.drop j).map nv, 0 ≤ x ∧ x < sizeW p.w := fun x hx => by
      obtain ⟨s, hs, rfl⟩ := List.mem_map.1 hx
      obtain ⟨g1, g2⟩ := h1 s hs
      obtain ⟨u, rfl⟩ : ∃ u, s = [u] := List.length_eq_one_iff.1 g1
      exact hN _ (List.mem_of_mem_drop hs) u (by simp) g2
    have hl : ((S.drop j).map nv).length = (tks t.op).toNat := by rw [List.length_map, List.length_drop]; omega
    refine reckon p nov _ w1 w8 hB ?_ (nov_fit ?_ ?_)
    · simp only [expOk, Bool.and_eq_true, decide_eq_true_eq]
      refine ⟨by simp only [List.length_append, List.length_map, List.length_cons, List.length_nil] at *; omega, ?_⟩
      rw [hgt_nums w8 _ _ 0 (by omega) hb1]
      simp only [hgt]
      rw [if_pos ⟨ht, by omega⟩]
      congr 1; omega
    · intro u hu h0
      rcases List.mem_append.1 hu with h | h
      · obtain ⟨x, hx, rfl⟩ := List.mem_map.1 h; exact (hb1 x hx).2
      · simp only [List.mem_singleton] at h; subst h; exact htn h0
    · rw [List.all_append, Bool.and_eq_true]
      exact ⟨by rw [List.all_eq_true]; intro u hu; obtain ⟨x, hx, rfl⟩ := List.mem_map.1 hu; rfl, by simp [h2]⟩
  refine Ev.fnW (env := [(0, .ad 1000000 [] 0), (1, .ag (tm t)), (1000000, .op (fo p S))]) Try.func159 rfl nm_impl_folder_take rfl rfl (by kernel_rfl) (.cons rfl (.cons rfl (.cons rfl .nil))) ?_
  clear hN ht htn
  refine go3 ?_
  refine WC.regionDd ⟨[[], [0], [0, 1], [0, 1, 2], [0, 1, 2, 3], [], [5], [5, 6], [0, 1, 2, 3, 4, 5, 6, 7], [0, 1, 2, 3, 4, 5, 6, 7, 8]], [0, 1, 2, 3, 4, 5, 6, 7, 8], [], [13, 14, 15, 16, 17, 18, 19, 20, 21], [0, 1, 2, 3, 4, 5, 6, 7, 8, 9], [([18, 19, 20], [18, 19, 20], false), ([18, 19, 20], [18, 19, 20], false), ([18, 19, 20], [18, 19, 20], false), ([18, 19, 20], [18, 19, 20], false), ([18, 19, 20], [18, 19, 20], false), ([13, 14, 15, 16, 17], [13, 14, 15, 16, 17], false), ([13, 14, 15, 16, 17], [13, 14, 15, 16, 17], false), ([13, 14, 15, 16, 17], [13, 14, 15, 16, 17], false), ([], [], false), ([], [], false)]⟩ (by kernel_rfl) ?_
  refine go3 ?_
  refine WD.q rfl rfl rfl rfl rfl (QE.ldOw rfl rfl rfl) rfl rfl rfl ?_
  refine go3 ?_
  refine WD.q rfl rfl rfl rfl rfl (QE.call rfl rfl (implTakesOf t.op)) rfl rfl rfl ?_
  refine go3 ?_
  rw [hsl, hjt]
  refine WO.q rfl (QE.ldOw rfl rfl rfl) rfl rfl ?_
  refine go3 ?_
  refine WO.q rfl (QE.ldOw rfl rfl rfl) rfl rfl ?_
  refine go3 ?_
  by_cases hz : j < S.length
  · have hgj := sts_get (S := S) (k := 0) hz
    rw [Nat.zero_add, ← hb] at hgj
    have hj2 : j < (sts S 0).length := by omega
    have hgc : (encL eI (sts S 0))[j]? = some (i64 b) := by
      have := encL_get (f := eI) (sz := 1) (j := 0) hj2 (by omega) 0
      rw [hgj] at this
      simpa [eI] using this
    refine go3 ?_
    refine WO.q rfl (QE.ldOw rfl rfl rfl) rfl rfl ?_
    refine go3 ?_
    refine WO.q rfl (QE.ixP j rfl rfl (by rw [encL_len1]; exact Nat.le_refl _) rfl hj2) rfl rfl ?_
    refine go3 ?_
    refine WO.q rfl (QE.ldO (c := i64 b) rfl rfl hgc rfl) rfl rfl ?_
    refine go3 ?_
    refine WO.keep (e' := [(0, .ad 1000000 [] 0), (3, .op (tm t)), (4, i64 j), (5, i64 b), (42, .ad 1000000 [] 0), (43, i64 j), (1000000, .op (fo p S))]) (.cons rfl (.cons rfl (.cons rfl (.cons rfl (.cons rfl (.cons rfl (.cons rfl .nil))))))) ?_
    by_cases hall : ∀ s ∈ S.drop j, isN s
    · rw [show knR S j = .tu [ints ((S.drop j).map nv), bl true] from if_pos hall] at cK
      refine WO.callF rfl (.cons (frzI rfl (hardL_fo p S)) (.cons (.plain _ rfl) .nil)) cK (by simp only [ints, noIm, noImL, noIm_eI, Bool.and_self]) rfl rfl ?_
      refine WO.hard (r := 44) (p := [0]) (x := ints ((S.drop j).map nv)) (y := .tu [.im ((S.drop j).map nv).length (encL eI ((S.drop j).map nv)), bl true]) rfl rfl (by simp only [ints, Eng.hard, hardL_pl (encL_pl (f := eI) _)]; rfl) ?_
      by_cases h1 : t.op = 1
      · have hA := hno (fun h => absurd h.2.1 (by simp [knT, h1]))
        refine go3 ?_
        refine WC.keep (e' := [(0, .ad 1000000 [] 0), (3, .op (tm t)), (4, i64 j), (5, i64 b), (1000000, .op [.ip (prR p), .ow 93 2 (S.flatten).length (encL tm (S.flatten)), .ow 3 1 (sts S 0).length (encL eI (sts S 0))])]) (.cons rfl (.cons rfl (.cons rfl (.cons rfl (.cons rfl .nil))))) ?_
        refine WC.regionDd ⟨[[], [], [1], [1, 2], [1, 2, 3], [], [5], [1, 2, 3, 4, 5, 6], [0, 1, 2, 3, 4, 5, 6, 7], [0, 1, 2, 3, 4, 5, 6, 7, 8], [0, 1, 2, 3, 4, 5, 6, 7, 8, 9]], [0, 1, 2, 3, 5, 8, 9], [(4, [1000000]), (6, []), (7, [1000000])], [98, 99, 100, 101, 102, 103, 104, 105, 106, 107], [0, 1, 2, 3, 4, 5, 6, 7, 8, 9, 10], [([99, 100, 101, 102, 103, 104, 105], [99, 100, 101, 102, 1000000, 103, 104, 105, 1000000], true), ([98, 103, 104], [98, 103, 104], true), ([98, 103, 104], [98, 103, 104], true), ([98, 103, 104], [98, 103, 104], true), ([98, 103, 104], [98, 103, 104], true), ([98, 99, 100, 101, 102], [98, 99, 100, 101, 102, 1000000], true), ([98, 99, 100, 101, 102], [98, 99, 100, 101, 102, 1000000], true), ([98], [98], false), ([], [], false), ([], [], false), ([], [], false)]⟩ (by kernel_rfl) ?_
        refine go3 ?_
        refine WD.gen [(1000000, .op [.ip (prR p), .ow 93 2 (S.flatten).length (encL tm (S.flatten)), .ow 3 1 (sts S 0).length (encL eI (sts S 0))]), (102, .vw 1000000 [1] 0 (S.flatten).length)] rfl rfl rfl rfl rfl ?_ rfl rfl rfl ⟨rfl, trivial⟩ rfl rfl (.cons _ (.cons _ (.nil _))) ?_
        · refine WO.q rfl (QE.ldOw rfl rfl rfl) rfl rfl ?_
          refine WO.re (r := 1000000) rfl ?_
          exact WO.nil (WK.mk' (.cons _ (.cons _ (.nil _))))
        refine go3 ?_
        refine WD.gen [(104, .im 1 (encL tm [t]))] rfl rfl rfl rfl rfl ?_ rfl rfl rfl ⟨rfl, trivial⟩ rfl rfl (.cons _ (.nil _)) ?_
        · refine WO.b1A rfl rfl rfl rfl rfl rfl rfl rfl ?_
          refine WO.hard (r := 104) (p := []) (x := .ow 93 2 1 (encL tm [t])) (y := .im 1 (encL tm [t])) rfl rfl rfl ?_
          rw [look_dup]
          exact WO.nil (WK.mk' (.cons _ (.nil _)))
        refine go3 ?_
        refine WD.gen [(105, .ow 93 2 ((S.flatten).length + 1) (encL tm (S.flatten) ++ encL tm [t])), (1000000, .op [.ip (prR p), .dead, .ow 3 1 (sts S 0).length (encL eI (sts S 0))])] rfl rfl rfl rfl rfl ?_ rfl rfl rfl ⟨rfl, trivial⟩ rfl rfl (.cons _ (.cons _ (.nil _))) ?_
        · refine WO.apP (r := 1000000) (j := 1) (cs' := [.ip (prR p), .dead, .ow 3 1 (sts S 0).length (encL eI (sts S 0))]) rfl rfl rfl rfl (encL_length _) rfl rfl rfl (by unfold maxLen; omega) (by omega) rfl rfl rfl ?_
          exact WO.nil (WK.mk' (.cons _ (.cons _ (.nil _))))
        rw [← encL_append, show (S.flatten).length + 1 = (S.flatten ++ [t]).length by simp, hA]
        refine go3 ?_
        refine WO.keep (e' := [(0, .ad 1000000 [] 0), (4, i64 j), (5, i64 b), (105, .ow 93 2 (stk p.w S t).flatten.length (encL tm (stk p.w S t).flatten)), (107, .ad 1000000 [] 1), (1000000, .op [.ip (prR p), .dead, .ow 3 1 (sts S 0).length (encL eI (sts S 0))])]) (.cons rfl (.cons rfl (.cons rfl (.cons rfl (.cons rfl (.cons rfl .nil)))))) ?_
        refine WO.stOp (a := 1) (cs' := [.ip (prR p), .ow 93 2 (stk p.w S t).flatten.length (encL tm (stk p.w S t).flatten), .ow 3 1 (sts S 0).length (encL eI (sts S 0))]) rfl rfl rfl rfl (encL_length _) rfl rfl rfl rfl rfl ?_
        refine go3 ?_
        refine WO.q rfl (QE.ldOw rfl rfl rfl) rfl rfl ?_
        refine go3 ?_
        refine WO.q rfl (QE.slHP (b := j) rfl rfl rfl (by omega)) rfl rfl ?_
        refine go3 ?_
        refine WO.bsA (us := [i64 b]) (cs := [i64 b]) rfl rfl rfl rfl rfl (by kernel_rfl) rfl ?_
        refine WO.hard (r := 116) (p := []) (x := .ow 3 1 1 [i64 b]) (y := .im 1 [i64 b]) rfl rfl rfl ?_
        refine WO.apPT (r := 1000000) (j := 2) (xs := sts S 0) (cs' := [.ip (prR p), .ow 93 2 (stk p.w S t).flatten.length (encL tm (stk p.w S t).flatten), .dead]) rfl rfl rfl rfl (by omega) rfl rfl rfl (by unfold maxLen; omega) (by omega) rfl rfl rfl ?_
        rw [hP]
        refine WO.keep (e' := [(108, .ad 1000000 [] 0), (117, .ow 3 1 (sts (stk p.w S t) 0).length (encL eI (sts (stk p.w S t) 0))), (1000000, .op [.ip (prR p), .ow 93 2 (stk p.w S t).flatten.length (encL tm (stk p.w S t).flatten), .dead])]) (.cons rfl (.cons rfl (.cons rfl .nil))) ?_
        refine go3 ?_
        refine WO.stOp (a := 2) (cs' := fo p (stk p.w S t)) rfl rfl rfl rfl (encL_length _) rfl rfl rfl rfl rfl ?_
        refine go3 ?_
        exact ret0q rfl rfl
      by_cases h2 : t.op = 2
      · have hA := hno (fun h => absurd h.2.1 (by simp [knT, h2]))
        refine go3 ?_
        refine WC.keep (e' := [(0, .ad 1000000 [] 0), (3, .op (tm t)), (4, i64 j), (5, i64 b), (1000000, .op [.ip (prR p), .ow 93 2 (S.flatten).length (encL tm (S.flatten)), .ow 3 1 (sts S 0).length (encL eI (sts S 0))])]) (.cons rfl (.cons rfl (.cons rfl (.cons rfl (.cons rfl .nil))))) ?_
        refine WC.regionDd ⟨[[], [], [1], [1, 2], [1, 2, 3], [], [5], [1, 2, 3, 4, 5, 6], [0, 1, 2, 3, 4, 5, 6, 7], [0, 1, 2, 3, 4, 5, 6, 7, 8], [0, 1, 2, 3, 4, 5, 6, 7, 8, 9]], [0, 1, 2, 3, 5, 8, 9], [(4, [1000000]), (6, []), (7, [1000000])], [98, 99, 100, 101, 102, 103, 104, 105, 106, 107], [0, 1, 2, 3, 4, 5, 6, 7, 8, 9, 10], [([99, 100, 101, 102, 103, 104, 105], [99, 100, 101, 102, 1000000, 103, 104, 105, 1000000], true), ([98, 103, 104], [98, 103, 104], true), ([98, 103, 104], [98, 103, 104], true), ([98, 103, 104], [98, 103, 104], true), ([98, 103, 104], [98, 103, 104], true), ([98, 99, 100, 101, 102], [98, 99, 100, 101, 102, 1000000], true), ([98, 99, 100, 101, 102], [98, 99, 100, 101, 102, 1000000], true), ([98], [98], false), ([], [], false), ([], [], false), ([], [], false)]⟩ (by kernel_rfl) ?_
        refine go3 ?_
        refine WD.gen [(1000000, .op [.ip (prR p), .ow 93 2 (S.flatten).length (encL tm (S.flatten)), .ow 3 1 (sts S 0).length (encL eI (sts S 0))]), (102, .vw 1000000 [1] 0 (S.flatten).length)] rfl rfl rfl rfl rfl ?_ rfl rfl rfl ⟨rfl, trivial⟩ rfl rfl (.cons _ (.cons _ (.nil _))) ?_
        · refine WO.q rfl (QE.ldOw rfl rfl rfl) rfl rfl ?_
          refine WO.re (r := 1000000) rfl ?_
          exact WO.nil (WK.mk' (.cons _ (.cons _ (.nil _))))
        refine go3 ?_
        refine WD.gen [(104, .im 1 (encL tm [t]))] rfl rfl rfl rfl rfl ?_ rfl rfl rfl ⟨rfl, trivial⟩ rfl rfl (.cons _ (.nil _)) ?_
        · refine WO.b1A rfl rfl rfl rfl rfl rfl rfl rfl ?_
          refine WO.hard (r := 104) (p := []) (x := .ow 93 2 1 (encL tm [t])) (y := .im 1 (encL tm [t])) rfl rfl rfl ?_
          rw [look_dup]
          exact WO.nil (WK.mk' (.cons _ (.nil _)))
        refine go3 ?_
        refine WD.gen [(105, .ow 93 2 ((S.flatten).length + 1) (encL tm (S.flatten) ++ encL tm [t])), (1000000, .op [.ip (prR p), .dead, .ow 3 1 (sts S 0).length (encL eI (sts S 0))])] rfl rfl rfl rfl rfl ?_ rfl rfl rfl ⟨rfl, trivial⟩ rfl rfl (.cons _ (.cons _ (.nil _))) ?_
        · refine WO.apP (r := 1000000) (j := 1) (cs' := [.ip (prR p), .dead, .ow 3 1 (sts S 0).length (encL eI (sts S 0))]) rfl rfl rfl rfl (encL_length _) rfl rfl rfl (by unfold maxLen; omega) (by omega) rfl rfl rfl ?_
          exact WO.nil (WK.mk' (.cons _ (.cons _ (.nil _))))
        rw [← encL_append, show (S.flatten).length + 1 = (S.flatten ++ [t]).length by simp, hA]
        refine go3 ?_
        refine WO.keep (e' := [(0, .ad 1000000 [] 0), (4, i64 j), (5, i64 b), (105, .ow 93 2 (stk p.w S t).flatten.length (encL tm (stk p.w S t).flatten)), (107, .ad 1000000 [] 1), (1000000, .op [.ip (prR p), .dead, .ow 3 1 (sts S 0).length (encL eI (sts S 0))])]) (.cons rfl (.cons rfl (.cons rfl (.cons rfl (.cons rfl (.cons rfl .nil)))))) ?_
        refine WO.stOp (a := 1) (cs' := [.ip (prR p), .ow 93 2 (stk p.w S t).flatten.length (encL tm (stk p.w S t).flatten), .ow 3 1 (sts S 0).length (encL eI (sts S 0))]) rfl rfl rfl rfl (encL_length _) rfl rfl rfl rfl rfl ?_
        refine go3 ?_
        refine WO.q rfl (QE.ldOw rfl rfl rfl) rfl rfl ?_
        refine go3 ?_
        refine WO.q rfl (QE.slHP (b := j) rfl rfl rfl (by omega)) rfl rfl ?_
        refine go3 ?_
        refine WO.bsA (us := [i64 b]) (cs := [i64 b]) rfl rfl rfl rfl rfl (by kernel_rfl) rfl ?_
        refine WO.hard (r := 116) (p := []) (x := .ow 3 1 1 [i64 b]) (y := .im 1 [i64 b]) rfl rfl rfl ?_
        refine WO.apPT (r := 1000000) (j := 2) (xs := sts S 0) (cs' := [.ip (prR p), .ow 93 2 (stk p.w S t).flatten.length (encL tm (stk p.w S t).flatten), .dead]) rfl rfl rfl rfl (by omega) rfl rfl rfl (by unfold maxLen; omega) (by omega) rfl rfl rfl ?_
        rw [hP]
        refine WO.keep (e' := [(108, .ad 1000000 [] 0), (117, .ow 3 1 (sts (stk p.w S t) 0).length (encL eI (sts (stk p.w S t) 0))), (1000000, .op [.ip (prR p), .ow 93 2 (stk p.w S t).flatten.length (encL tm (stk p.w S t).flatten), .dead])]) (.cons rfl (.cons rfl (.cons rfl .nil))) ?_
        refine go3 ?_
        refine WO.stOp (a := 2) (cs' := fo p (stk p.w S t)) rfl rfl rfl rfl (encL_length _) rfl rfl rfl rfl rfl ?_
        refine go3 ?_
        exact ret0q rfl rfl
      have hkn : knT t = true := by simp [knT, h1, h2]
      have cR := cRk hall hkn
      have hyes := hyes hall hkn
      have hno := fun (h : ¬ (rp p.w nov ((S.drop j).flatten ++ [t]) []).2 = 0) => hno (fun h2 => h h2.2.2)
      clear cRk
      rw [kx hall] at hyes hno
      have hvl : ((S.drop j).map nv).length ≤ 3 := by rw [List.length_map, List.length_drop]; omega
      generalize (S.drop j).map nv = vs at *
      refine go3 ?_
      refine WC.loopS (S := Nat) (fun i => [(0, .ad 1000000 [] 0), (3, .op (tm t)), (4, i64 j), (5, i64 b), (8, .ow 93 2 ((vs.take i).map nmT).length (encL tm ((vs.take i).map nmT))), (59, .im vs.length (encL eI vs)), (60, i64 vs.length), (61, i64 i), (1000000, .op (fo p S))]) (fun i => i ≤ vs.length) (fun i => vs.length - i) 0 (.cons rfl (.cons rfl (.cons rfl (.cons rfl (.cons rfl (.cons rfl (.cons rfl (.cons rfl (.cons rfl .nil))))))))) (Nat.zero_le _) ?_
      intro i g
      have hml : ((vs.take i).map nmT).length ≤ 3 := by rw [List.length_map, List.length_take]; omega
      refine go3 ?_
      refine WO.cmp rfl rfl rfl rfl rfl (fun h3 => ?_) (fun h3 => ?_)
      · have hi : i < vs.length := by omega
        have en : (vs.take (i + 1)).map nmT = (vs.take i).map nmT ++ [⟨0, vs.getD i 0⟩] := by
          rw [List.take_add_one, List.getElem?_eq_getElem hi, List.map_append]; simp [nmT, List.getD_eq_getElem?_getD, hi]
        refine go3 ?_
        refine WO.ixN (f := eI) 0 rfl rfl rfl hi rfl ?_
        refine go3 ?_
        refine WO.bld (cs := tm ⟨0, vs.getD i 0⟩) rfl rfl rfl rfl ?_
        refine WO.b1A rfl rfl rfl rfl rfl rfl rfl rfl ?_
        refine WO.hard (r := 68) (p := []) (x := .ow 93 2 1 (encL tm [⟨0, vs.getD i 0⟩])) (y := .im 1 (encL tm [⟨0, vs.getD i 0⟩])) rfl rfl rfl ?_
        refine WO.apVI rfl rfl rfl (encL_length _) rfl rfl rfl (by unfold maxLen; omega) (by omega) rfl ?_
        rw [← encL_append, show ((vs.take i).map nmT).length + 1 = ((vs.take i).map nmT ++ [(⟨0, vs.getD i 0⟩ : Tm)]).length by simp, ← en]
        refine WO.cln 8 ?_
        refine go3 ?_
        exact lpK.mk (i + 1) (.cons rfl (.cons rfl (.cons rfl (.cons rfl (.cons rfl (.cons rfl (.cons rfl (.cons rfl (.cons rfl .nil))))))))) hi (show vs.length - (i + 1) < vs.length - i by omega)
      have hie : i = vs.length := by omega
      subst hie
      rw [List.take_length] at hml ⊢
      refine go3 ?_
      refine WC.regionDd ⟨[[], [0], [0, 1], [0, 1, 2], [], [4], [], [], [7], [6, 7, 8], [0, 1, 2, 3, 4, 5, 6, 7, 8, 9], [0, 1, 2, 3, 4, 5, 6, 7, 8, 9, 10], [0, 1, 2, 3, 4, 5, 6, 7, 8, 9, 10, 11], [0, 1, 2, 3, 4, 5, 6, 7, 8, 9, 10, 11], [0, 1, 2, 3, 4, 5, 6, 7, 8, 9, 10, 11, 12], [0, 1, 2, 3, 4, 5, 6, 7, 8, 9, 10, 11, 12, 13, 14]], [0, 1, 2, 3, 4, 6, 7, 11, 12, 13, 14], [(5, []), (8, []), (9, [8])], [72, 73, 74, 75, 76, 77, 78, 79, 80, 81, 71, 83, 84, 11], [0, 1, 2, 3, 4, 5, 6, 7, 8, 9, 10, 11, 12, 13, 14, 15], [([76, 77, 78, 79, 80, 81], [76, 77, 78, 79, 80, 81, 8], true), ([76, 77, 78, 79, 80, 81], [76, 77, 78, 79, 80, 81, 8], true), ([76, 77, 78, 79, 80, 81], [76, 77, 78, 79, 80, 81, 8], true), ([76, 77, 78, 79, 80, 81], [76, 77, 78, 79, 80, 81, 8], true), ([72, 73, 74, 75, 78, 79, 80, 81], [72, 73, 74, 75, 78, 79, 80, 81, 8], true), ([72, 73, 74, 75, 78, 79, 80, 81], [72, 73, 74, 75, 78, 79, 80, 81, 8], true), ([72, 73, 74, 75, 76, 77, 79, 80], [72, 73, 74, 75, 76, 77, 79, 80], true), ([72, 73, 74, 75, 76, 77, 78], [72, 73, 74, 75, 76, 77, 78], true), ([72, 73, 74, 75, 76, 77, 78], [72, 73, 74, 75, 76, 77, 78], true), ([72, 73, 74, 75, 76, 77], [72, 73, 74, 75, 76, 77], true), ([], [], false), ([], [], false), ([84], [84], false), ([83, 11], [83, 11], false), ([84], [84], false), ([], [], false)]⟩ (by kernel_rfl) ?_
      refine go3 ?_
      refine WD.q rfl rfl rfl rfl rfl (QE.bld (cs := [.nl, .nl]) rfl) rfl rfl rfl ?_
      refine go3 ?_
      refine WD.gen [(77, .op (enR nov))] rfl rfl rfl rfl rfl ?_ rfl rfl rfl ⟨rfl, trivial⟩ rfl rfl (.cons _ (.nil _)) ?_
      · refine WO.boxA rfl rfl rfl rfl rfl ?_
        refine WO.castI (r := 77) (p := [0]) (y := .op [.im 0 [], .nl]) rfl rfl ?_
        refine WO.castI (r := 77) (p := [1]) (y := .op (enR nov)) rfl rfl ?_
        rw [look_dup, look_dup]
        exact WO.nil (WK.mk' (.cons _ (.nil _)))
      refine go3 ?_
      refine WD.gen [(80, .im 1 (encL tm [t]))] rfl rfl rfl rfl rfl ?_ rfl rfl rfl ⟨rfl, trivial⟩ rfl rfl (.cons _ (.nil _)) ?_
      · refine WO.b1A rfl rfl rfl rfl rfl rfl rfl rfl ?_
        refine WO.hard (r := 80) (p := []) (x := .ow 93 2 1 (encL tm [t])) (y := .im 1 (encL tm [t])) rfl rfl rfl ?_
        rw [look_dup]
        exact WO.nil (WK.mk' (.cons _ (.nil _)))
      refine go3 ?_
      refine WD.gen [(81, .ow 93 2 ((vs.map nmT).length + 1) (encL tm (vs.map nmT) ++ encL tm [t])), (8, .dead)] rfl rfl rfl rfl rfl ?_ rfl rfl rfl ⟨rfl, trivial⟩ rfl rfl (.cons _ (.cons _ (.nil _))) ?_
      · refine WO.apVI rfl rfl rfl (encL_length _) rfl rfl rfl (by unfold maxLen; omega) (by omega) rfl ?_
        exact WO.nil (WK.mk' (.cons _ (.cons _ (.nil _))))
      rw [← encL_append, show (vs.map nmT).length + 1 = (vs.map nmT ++ [t]).length by simp]
      refine go3 ?_
      refine WO.callF rfl (.cons (.plain _ rfl) (.cons (frzA rfl rfl) (.cons (frz1 rfl rfl) (.cons (.plain _ rfl) .nil)))) cR rfl rfl rfl ?_
      by_cases tr : (rp p.w nov (vs.map nmT ++ [t]) []).2 = 0
      · have hA := hyes tr
        rw [rk_rp, if_neg (by omega)]
        generalize (rp p.w nov (vs.map nmT ++ [t]) []).1 = x at *
        refine go3 ?_
        refine WO.keep (e' := [(0, .ad 1000000 [] 0), (3, .op (tm t)), (4, i64 j), (5, i64 b), (11, i64 x), (87, .ad 1000000 [] 0), (90, .ad 1000000 [] 1), (1000000, .op (fo p S))]) (.cons rfl (.cons rfl (.cons rfl (.cons rfl (.cons rfl (.cons rfl (.cons rfl (.cons rfl .nil)))))))) ?_
        refine WO.q rfl (QE.ldOw rfl rfl rfl) rfl rfl ?_
        refine go3 ?_
        refine WO.q rfl (QE.slHP (b := b) rfl rfl rfl hbl) rfl rfl ?_
        refine go3 ?_
        refine WO.stTr (f := tm) (xs := S.flatten) (r := 1000000) (j := 1) (cs' := [.ip (prR p), .ow 93 2 b (encL tm (S.flatten.take b)), .ow 3 1 (sts S 0).length (encL eI (sts S 0))]) rfl rfl rfl rfl rfl hbl rfl rfl rfl ?_
        rw [hfb, show AV.ow 93 2 b (encL tm (S.take j).flatten) = .ow 93 2 (S.take j).flatten.length (encL tm (S.take j).flatten) by rw [hb]]
        refine go3 ?_
        refine WO.bld (cs := tm ⟨0, x⟩) rfl rfl rfl rfl ?_
        refine go3 ?_
        refine WC.keep (e' := [(0, .ad 1000000 [] 0), (3, .op (tm (⟨0, x⟩ : Tm))), (4, i64 j), (5, i64 b), (1000000, .op [.ip (prR p), .ow 93 2 ((S.take j).flatten).length (encL tm ((S.take j).flatten)), .ow 3 1 (sts S 0).length (encL eI (sts S 0))])]) (.cons rfl (.cons rfl (.cons rfl (.cons rfl (.cons rfl .nil))))) ?_
        refine WC.regionDd ⟨[[], [], [1], [1, 2], [1, 2, 3], [], [5], [1, 2, 3, 4, 5, 6], [0, 1, 2, 3, 4, 5, 6, 7], [0, 1, 2, 3, 4, 5, 6, 7, 8], [0, 1, 2, 3, 4, 5, 6, 7, 8, 9]], [0, 1, 2, 3, 5, 8, 9], [(4, [1000000]), (6, []), (7, [1000000])], [98, 99, 100, 101, 102, 103, 104, 105, 106, 107], [0, 1, 2, 3, 4, 5, 6, 7, 8, 9, 10], [([99, 100, 101, 102, 103, 104, 105], [99, 100, 101, 102, 1000000, 103, 104, 105, 1000000], true), ([98, 103, 104], [98, 103, 104], true), ([98, 103, 104], [98, 103, 104], true), ([98, 103, 104], [98, 103, 104], true), ([98, 103, 104], [98, 103, 104], true), ([98, 99, 100, 101, 102], [98, 99, 100, 101, 102, 1000000], true), ([98, 99, 100, 101, 102], [98, 99, 100, 101, 102, 1000000], true), ([98], [98], false), ([], [], false), ([], [], false), ([], [], false)]⟩ (by kernel_rfl) ?_
        refine go3 ?_
        refine WD.gen [(1000000, .op [.ip (prR p), .ow 93 2 ((S.take j).flatten).length (encL tm ((S.take j).flatten)), .ow 3 1 (sts S 0).length (encL eI (sts S 0))]), (102, .vw 1000000 [1] 0 ((S.take j).flatten).length)] rfl rfl rfl rfl rfl ?_ rfl rfl rfl ⟨rfl, trivial⟩ rfl rfl (.cons _ (.cons _ (.nil _))) ?_
        · refine WO.q rfl (QE.ldOw rfl rfl rfl) rfl rfl ?_
          refine WO.re (r := 1000000) rfl ?_
          exact WO.nil (WK.mk' (.cons _ (.cons _ (.nil _))))
        refine go3 ?_
        refine WD.gen [(104, .im 1 (encL tm [(⟨0, x⟩ : Tm)]))] rfl rfl rfl rfl rfl ?_ rfl rfl rfl ⟨rfl, trivial⟩ rfl rfl (.cons _ (.nil _)) ?_
        · refine WO.b1A rfl rfl rfl rfl rfl rfl rfl rfl ?_
          refine WO.hard (r := 104) (p := []) (x := .ow 93 2 1 (encL tm [(⟨0, x⟩ : Tm)])) (y := .im 1 (encL tm [(⟨0, x⟩ : Tm)])) rfl rfl rfl ?_
          rw [look_dup]
          exact WO.nil (WK.mk' (.cons _ (.nil _)))
        refine go3 ?_
        refine WD.gen [(105, .ow 93 2 (((S.take j).flatten).length + 1) (encL tm ((S.take j).flatten) ++ encL tm [(⟨0, x⟩ : Tm)])), (1000000, .op [.ip (prR p), .dead, .ow 3 1 (sts S 0).length (encL eI (sts S 0))])] rfl rfl rfl rfl rfl ?_ rfl rfl rfl ⟨rfl, trivial⟩ rfl rfl (.cons _ (.cons _ (.nil _))) ?_
        · refine WO.apP (r := 1000000) (j := 1) (cs' := [.ip (prR p), .dead, .ow 3 1 (sts S 0).length (encL eI (sts S 0))]) rfl rfl rfl rfl (encL_length _) rfl rfl rfl (by unfold maxLen; omega) (by omega) rfl rfl rfl ?_
          exact WO.nil (WK.mk' (.cons _ (.cons _ (.nil _))))
        rw [← encL_append, show ((S.take j).flatten).length + 1 = ((S.take j).flatten ++ [(⟨0, x⟩ : Tm)]).length by simp, hA]
        refine go3 ?_
        refine WO.keep (e' := [(0, .ad 1000000 [] 0), (4, i64 j), (5, i64 b), (105, .ow 93 2 (stk p.w S t).flatten.length (encL tm (stk p.w S t).flatten)), (107, .ad 1000000 [] 1), (1000000, .op [.ip (prR p), .dead, .ow 3 1 (sts S 0).length (encL eI (sts S 0))])]) (.cons rfl (.cons rfl (.cons rfl (.cons rfl (.cons rfl (.cons rfl .nil)))))) ?_
        refine WO.stOp (a := 1) (cs' := [.ip (prR p), .ow 93 2 (stk p.w S t).flatten.length (encL tm (stk p.w S t).flatten), .ow 3 1 (sts S 0).length (encL eI (sts S 0))]) rfl rfl rfl rfl (encL_length _) rfl rfl rfl rfl rfl ?_
        refine go3 ?_
        refine WO.q rfl (QE.ldOw rfl rfl rfl) rfl rfl ?_
        refine go3 ?_
        refine WO.q rfl (QE.slHP (b := j) rfl rfl rfl (by omega)) rfl rfl ?_
        refine go3 ?_
        refine WO.bsA (us := [i64 b]) (cs := [i64 b]) rfl rfl rfl rfl rfl (by kernel_rfl) rfl ?_
        refine WO.hard (r := 116) (p := []) (x := .ow 3 1 1 [i64 b]) (y := .im 1 [i64 b]) rfl rfl rfl ?_
        refine WO.apPT (r := 1000000) (j := 2) (xs := sts S 0) (cs' := [.ip (prR p), .ow 93 2 (stk p.w S t).flatten.length (encL tm (stk p.w S t).flatten), .dead]) rfl rfl rfl rfl (by omega) rfl rfl rfl (by unfold maxLen; omega) (by omega) rfl rfl rfl ?_
        rw [hP]
        refine WO.keep (e' := [(108, .ad 1000000 [] 0), (117, .ow 3 1 (sts (stk p.w S t) 0).length (encL eI (sts (stk p.w S t) 0))), (1000000, .op [.ip (prR p), .ow 93 2 (stk p.w S t).flatten.length (encL tm (stk p.w S t).flatten), .dead])]) (.cons rfl (.cons rfl (.cons rfl .nil))) ?_
        refine go3 ?_
        refine WO.stOp (a := 2) (cs' := fo p (stk p.w S t)) rfl rfl rfl rfl (encL_length _) rfl rfl rfl rfl rfl ?_
        refine go3 ?_
        exact ret0q rfl rfl
      · have hA := hno tr
        rw [rk_rp, if_pos tr]
        generalize (rp p.w nov (vs.map nmT ++ [t]) []).2 = tr' at *
        refine go3 ?_
        refine WC.keep (e' := [(0, .ad 1000000 [] 0), (3, .op (tm t)), (4, i64 j), (5, i64 b), (1000000, .op [.ip (prR p), .ow 93 2 (S.flatten).length (encL tm (S.flatten)), .ow 3 1 (sts S 0).length (encL eI (sts S 0))])]) (.cons rfl (.cons rfl (.cons rfl (.cons rfl (.cons rfl .nil))))) ?_
        refine WC.regionDd ⟨[[], [], [1], [1, 2], [1, 2, 3], [], [5], [1, 2, 3, 4, 5, 6], [0, 1, 2, 3, 4, 5, 6, 7], [0, 1, 2, 3, 4, 5, 6, 7, 8], [0, 1, 2, 3, 4, 5, 6, 7, 8, 9]], [0, 1, 2, 3, 5, 8, 9], [(4, [1000000]), (6, []), (7, [1000000])], [98, 99, 100, 101, 102, 103, 104, 105, 106, 107], [0, 1, 2, 3, 4, 5, 6, 7, 8, 9, 10], [([99, 100, 101, 102, 103, 104, 105], [99, 100, 101, 102, 1000000, 103, 104, 105, 1000000], true), ([98, 103, 104], [98, 103, 104], true), ([98, 103, 104], [98, 103, 104], true), ([98, 103, 104], [98, 103, 104], true), ([98, 103, 104], [98, 103, 104], true), ([98, 99, 100, 101, 102], [98, 99, 100, 101, 102, 1000000], true), ([98, 99, 100, 101, 102], [98, 99, 100, 101, 102, 1000000], true), ([98], [98], false), ([], [], false), ([], [], false), ([], [], false)]⟩ (by kernel_rfl) ?_
        refine go3 ?_
        refine WD.gen [(1000000, .op [.ip (prR p), .ow 93 2 (S.flatten).length (encL tm (S.flatten)), .ow 3 1 (sts S 0).length (encL eI (sts S 0))]), (102, .vw 1000000 [1] 0 (S.flatten).length)] rfl rfl rfl rfl rfl ?_ rfl rfl rfl ⟨rfl, trivial⟩ rfl rfl (.cons _ (.cons _ (.nil _))) ?_
        · refine WO.q rfl (QE.ldOw rfl rfl rfl) rfl rfl ?_
          refine WO.re (r := 1000000) rfl ?_
          exact WO.nil (WK.mk' (.cons _ (.cons _ (.nil _))))
        refine go3 ?_
        refine WD.gen [(104, .im 1 (encL tm [t]))] rfl rfl rfl rfl rfl ?_ rfl rfl rfl ⟨rfl, trivial⟩ rfl rfl (.cons _ (.nil _)) ?_
        · refine WO.b1A rfl rfl rfl rfl rfl rfl rfl rfl ?_
          refine WO.hard (r := 104) (p := []) (x := .ow 93 2 1 (encL tm [t])) (y := .im 1 (encL tm [t])) rfl rfl rfl ?_
          rw [look_dup]
          exact WO.nil (WK.mk' (.cons _ (.nil _)))
        refine go3 ?_
        refine WD.gen [(105, .ow 93 2 ((S.flatten).length + 1) (encL tm (S.flatten) ++ encL tm [t])), (1000000, .op [.ip (prR p), .dead, .ow 3 1 (sts S 0).length (encL eI (sts S 0))])] rfl rfl rfl rfl rfl ?_ rfl rfl rfl ⟨rfl, trivial⟩ rfl rfl (.cons _ (.cons _ (.nil _))) ?_
        · refine WO.apP (r := 1000000) (j := 1) (cs' := [.ip (prR p), .dead, .ow 3 1 (sts S 0).length (encL eI (sts S 0))]) rfl rfl rfl rfl (encL_length _) rfl rfl rfl (by unfold maxLen; omega) (by omega) rfl rfl rfl ?_
          exact WO.nil (WK.mk' (.cons _ (.cons _ (.nil _))))
        rw [← encL_append, show (S.flatten).length + 1 = (S.flatten ++ [t]).length by simp, hA]
        refine go3 ?_
        refine WO.keep (e' := [(0, .ad 1000000 [] 0), (4, i64 j), (5, i64 b), (105, .ow 93 2 (stk p.w S t).flatten.length (encL tm (stk p.w S t).flatten)), (107, .ad 1000000 [] 1), (1000000, .op [.ip (prR p), .dead, .ow 3 1 (sts S 0).length (encL eI (sts S 0))])]) (.cons rfl (.cons rfl (.cons rfl (.cons rfl (.cons rfl (.cons rfl .nil)))))) ?_
        refine WO.stOp (a := 1) (cs' := [.ip (prR p), .ow 93 2 (stk p.w S t).flatten.length (encL tm (stk p.w S t).flatten), .ow 3 1 (sts S 0).length (encL eI (sts S 0))]) rfl rfl rfl rfl (encL_length _) rfl rfl rfl rfl rfl ?_
        refine go3 ?_
        refine WO.q rfl (QE.ldOw rfl rfl rfl) rfl rfl ?_
        refine go3 ?_
        refine WO.q rfl (QE.slHP (b := j) rfl rfl rfl (by omega)) rfl rfl ?_
        refine go3 ?_
        refine WO.bsA (us := [i64 b]) (cs := [i64 b]) rfl rfl rfl rfl rfl (by kernel_rfl) rfl ?_
        refine WO.hard (r := 116) (p := []) (x := .ow 3 1 1 [i64 b]) (y := .im 1 [i64 b]) rfl rfl rfl ?_
        refine WO.apPT (r := 1000000) (j := 2) (xs := sts S 0) (cs' := [.ip (prR p), .ow 93 2 (stk p.w S t).flatten.length (encL tm (stk p.w S t).flatten), .dead]) rfl rfl rfl rfl (by omega) rfl rfl rfl (by unfold maxLen; omega) (by omega) rfl rfl rfl ?_
        rw [hP]
        refine WO.keep (e' := [(108, .ad 1000000 [] 0), (117, .ow 3 1 (sts (stk p.w S t) 0).length (encL eI (sts (stk p.w S t) 0))), (1000000, .op [.ip (prR p), .ow 93 2 (stk p.w S t).flatten.length (encL tm (stk p.w S t).flatten), .dead])]) (.cons rfl (.cons rfl (.cons rfl .nil))) ?_
        refine go3 ?_
        refine WO.stOp (a := 2) (cs' := fo p (stk p.w S t)) rfl rfl rfl rfl (encL_length _) rfl rfl rfl rfl rfl ?_
        refine go3 ?_
        exact ret0q rfl rfl
    · rw [show knR S j = .tu [.nl, bl false] from if_neg hall] at cK
      refine WO.callF rfl (.cons (frzI rfl (hardL_fo p S)) (.cons (.plain _ rfl) .nil)) cK rfl rfl rfl ?_
      have hA := hno (fun h => hall h.1)
      refine go3 ?_
      refine WC.keep (e' := [(0, .ad 1000000 [] 0), (3, .op (tm t)), (4, i64 j), (5, i64 b), (1000000, .op [.ip (prR p), .ow 93 2 (S.flatten).length (encL tm (S.flatten)), .ow 3 1 (sts S 0).length (encL eI (sts S 0))])]) (.cons rfl (.cons rfl (.cons rfl (.cons rfl (.cons rfl .nil))))) ?_
      refine WC.regionDd ⟨[[], [], [1], [1, 2], [1, 2, 3], [], [5], [1, 2, 3, 4, 5, 6], [0, 1, 2, 3, 4, 5, 6, 7], [0, 1, 2, 3, 4, 5, 6, 7, 8], [0, 1, 2, 3, 4, 5, 6, 7, 8, 9]], [0, 1, 2, 3, 5, 8, 9], [(4, [1000000]), (6, []), (7, [1000000])], [98, 99, 100, 101, 102, 103, 104, 105, 106, 107], [0, 1, 2, 3, 4, 5, 6, 7, 8, 9, 10], [([99, 100, 101, 102, 103, 104, 105], [99, 100, 101, 102, 1000000, 103, 104, 105, 1000000], true), ([98, 103, 104], [98, 103, 104], true), ([98, 103, 104], [98, 103, 104], true), ([98, 103, 104], [98, 103, 104], true), ([98, 103, 104], [98, 103, 104], true), ([98, 99, 100, 101, 102], [98, 99, 100, 101, 102, 1000000], true), ([98, 99, 100, 101, 102], [98, 99, 100, 101, 102, 1000000], true), ([98], [98], false), ([], [], false), ([], [], false), ([], [], false)]⟩ (by kernel_rfl) ?_
      refine go3 ?_
      refine WD.gen [(1000000, .op [.ip (prR p), .ow 93 2 (S.flatten).length (encL tm (S.flatten)), .ow 3 1 (sts S 0).length (encL eI (sts S 0))]), (102, .vw 1000000 [1] 0 (S.flatten).length)] rfl rfl rfl rfl rfl ?_ rfl rfl rfl ⟨rfl, trivial⟩ rfl rfl (.cons _ (.cons _ (.nil _))) ?_
      · refine WO.q rfl (QE.ldOw rfl rfl rfl) rfl rfl ?_
        refine WO.re (r := 1000000) rfl ?_
        exact WO.nil (WK.mk' (.cons _ (.cons _ (.nil _))))
      refine go3 ?_
      refine WD.gen [(104, .im 1 (encL tm [t]))] rfl rfl rfl rfl rfl ?_ rfl rfl rfl ⟨rfl, trivial⟩ rfl rfl (.cons _ (.nil _)) ?_
      · refine WO.b1A rfl rfl rfl rfl rfl rfl rfl rfl ?_
        refine WO.hard (r := 104) (p := []) (x := .ow 93 2 1 (encL tm [t])) (y := .im 1 (encL tm [t])) rfl rfl rfl ?_
        rw [look_dup]
        exact WO.nil (WK.mk' (.cons _ (.nil _)))
      refine go3 ?_
      refine WD.gen [(105, .ow 93 2 ((S.flatten).length + 1) (encL tm (S.flatten) ++ encL tm [t])), (1000000, .op [.ip (prR p), .dead, .ow 3 1 (sts S 0).length (encL eI (sts S 0))])] rfl rfl rfl rfl rfl ?_ rfl rfl rfl ⟨rfl, trivial⟩ rfl rfl (.cons _ (.cons _ (.nil _))) ?_
      · refine WO.apP (r := 1000000) (j := 1) (cs' := [.ip (prR p), .dead, .ow 3 1 (sts S 0).length (encL eI (sts S 0))]) rfl rfl rfl rfl (encL_length _) rfl rfl rfl (by unfold maxLen; omega) (by omega) rfl rfl rfl ?_
        exact WO.nil (WK.mk' (.cons _ (.cons _ (.nil _))))
      rw [← encL_append, show (S.flatten).length + 1 = (S.flatten ++ [t]).length by simp, hA]
      refine go3 ?_
      refine WO.keep (e' := [(0, .ad 1000000 [] 0), (4, i64 j), (5, i64 b), (105, .ow 93 2 (stk p.w S t).flatten.length (encL tm (stk p.w S t).flatten)), (107, .ad 1000000 [] 1), (1000000, .op [.ip (prR p), .dead, .ow 3 1 (sts S 0).length (encL eI (sts S 0))])]) (.cons rfl (.cons rfl (.cons rfl (.cons rfl (.cons rfl (.cons rfl .nil)))))) ?_
      refine WO.stOp (a := 1) (cs' := [.ip (prR p), .ow 93 2 (stk p.w S t).flatten.length (encL tm (stk p.w S t).flatten), .ow 3 1 (sts S 0).length (encL eI (sts S 0))]) rfl rfl rfl rfl (encL_length _) rfl rfl rfl rfl rfl ?_
      refine go3 ?_
      refine WO.q rfl (QE.ldOw rfl rfl rfl) rfl rfl ?_
      refine go3 ?_
      refine WO.q rfl (QE.slHP (b := j) rfl rfl rfl (by omega)) rfl rfl ?_
      refine go3 ?_
      refine WO.bsA (us := [i64 b]) (cs := [i64 b]) rfl rfl rfl rfl rfl (by kernel_rfl) rfl ?_
      refine WO.hard (r := 116) (p := []) (x := .ow 3 1 1 [i64 b]) (y := .im 1 [i64 b]) rfl rfl rfl ?_
      refine WO.apPT (r := 1000000) (j := 2) (xs := sts S 0) (cs' := [.ip (prR p), .ow 93 2 (stk p.w S t).flatten.length (encL tm (stk p.w S t).flatten), .dead]) rfl rfl rfl rfl (by omega) rfl rfl rfl (by unfold maxLen; omega) (by omega) rfl rfl rfl ?_
      rw [hP]
      refine WO.keep (e' := [(108, .ad 1000000 [] 0), (117, .ow 3 1 (sts (stk p.w S t) 0).length (encL eI (sts (stk p.w S t) 0))), (1000000, .op [.ip (prR p), .ow 93 2 (stk p.w S t).flatten.length (encL tm (stk p.w S t).flatten), .dead])]) (.cons rfl (.cons rfl (.cons rfl .nil))) ?_
      refine go3 ?_
      refine WO.stOp (a := 2) (cs' := fo p (stk p.w S t)) rfl rfl rfl rfl (encL_length _) rfl rfl rfl rfl rfl ?_
      refine go3 ?_
      exact ret0q rfl rfl
  · have hbe : S.flatten.length = b := by rw [hb, show j = S.length by omega, List.take_length]
    refine go3 ?_
    rw [hbe]
    refine WO.keep (e' := [(0, .ad 1000000 [] 0), (3, .op (tm t)), (4, i64 j), (5, i64 b), (42, .ad 1000000 [] 0), (43, i64 j), (1000000, .op (fo p S))]) (.cons rfl (.cons rfl (.cons rfl (.cons rfl (.cons rfl (.cons rfl (.cons rfl .nil))))))) ?_
    by_cases hall : ∀ s ∈ S.drop j, isN s
    · rw [show knR S j = .tu [ints ((S.drop j).map nv), bl true] from if_pos hall] at cK
      refine WO.callF rfl (.cons (frzI rfl (hardL_fo p S)) (.cons (.plain _ rfl) .nil)) cK (by simp only [ints, noIm, noImL, noIm_eI, Bool.and_self]) rfl rfl ?_
      refine WO.hard (r := 44) (p := [0]) (x := ints ((S.drop j).map nv)) (y := .tu [.im ((S.drop j).map nv).length (encL eI ((S.drop j).map nv)), bl true]) rfl rfl (by simp only [ints, Eng.hard, hardL_pl (encL_pl (f := eI) _)]; rfl) ?_
      by_cases h1 : t.op = 1
      · have hA := hno (fun h => absurd h.2.1 (by simp [knT, h1]))
        refine go3 ?_
        refine WC.keep (e' := [(0, .ad 1000000 [] 0), (3, .op (tm t)), (4, i64 j), (5, i64 b), (1000000, .op [.ip (prR p), .ow 93 2 (S.flatten).length (encL tm (S.flatten)), .ow 3 1 (sts S 0).length (encL eI (sts S 0))])]) (.cons rfl (.cons rfl (.cons rfl (.cons rfl (.cons rfl .nil))))) ?_
        refine WC.regionDd ⟨[[], [], [1], [1, 2], [1, 2, 3], [], [5], [1, 2, 3, 4, 5, 6], [0, 1, 2, 3, 4, 5, 6, 7], [0, 1, 2, 3, 4, 5, 6, 7, 8], [0, 1, 2, 3, 4, 5, 6, 7, 8, 9]], [0, 1, 2, 3, 5, 8, 9], [(4, [1000000]), (6, []), (7, [1000000])], [98, 99, 100, 101, 102, 103, 104, 105, 106, 107], [0, 1, 2, 3, 4, 5, 6, 7, 8, 9, 10], [([99, 100, 101, 102, 103, 104, 105], [99, 100, 101, 102, 1000000, 103, 104, 105, 1000000], true), ([98, 103, 104], [98, 103, 104], true), ([98, 103, 104], [98, 103, 104], true), ([98, 103, 104], [98, 103, 104], true), ([98, 103, 104], [98, 103, 104], true), ([98, 99, 100, 101, 102], [98, 99, 100, 101, 102, 1000000], true), ([98, 99, 100, 101, 102], [98, 99, 100, 101, 102, 1000000], true), ([98], [98], false), ([], [], false), ([], [], false), ([], [], false)]⟩ (by kernel_rfl) ?_
        refine go3 ?_
        refine WD.gen [(1000000, .op [.ip (prR p), .ow 93 2 (S.flatten).length (encL tm (S.flatten)), .ow 3 1 (sts S 0).length (encL eI (sts S 0))]), (102, .vw 1000000 [1] 0 (S.flatten).length)] rfl rfl rfl rfl rfl ?_ rfl rfl rfl ⟨rfl, trivial⟩ rfl rfl (.cons _ (.cons _ (.nil _))) ?_
        · refine WO.q rfl (QE.ldOw rfl rfl rfl) rfl rfl ?_
          refine WO.re (r := 1000000) rfl ?_
          exact WO.nil (WK.mk' (.cons _ (.cons _ (.nil _))))
        refine go3 ?_
        refine WD.gen [(104, .im 1 (encL tm [t]))] rfl rfl rfl rfl rfl ?_ rfl rfl rfl ⟨rfl, trivial⟩ rfl rfl (.cons _ (.nil _)) ?_
        · refine WO.b1A rfl rfl rfl rfl rfl rfl rfl rfl ?_
          refine WO.hard (r := 104) (p := []) (x := .ow 93 2 1 (encL tm [t])) (y := .im 1 (encL tm [t])) rfl rfl rfl ?_
          rw [look_dup]
          exact WO.nil (WK.mk' (.cons _ (.nil _)))
        refine go3 ?_
        refine WD.gen [(105, .ow 93 2 ((S.flatten).length + 1) (encL tm (S.flatten) ++ encL tm [t])), (1000000, .op [.ip (prR p), .dead, .ow 3 1 (sts S 0).length (encL eI (sts S 0))])] rfl rfl rfl rfl rfl ?_ rfl rfl rfl ⟨rfl, trivial⟩ rfl rfl (.cons _ (.cons _ (.nil _))) ?_
        · refine WO.apP (r := 1000000) (j := 1) (cs' := [.ip (prR p), .dead, .ow 3 1 (sts S 0).length (encL eI (sts S 0))]) rfl rfl rfl rfl (encL_length _) rfl rfl rfl (by unfold maxLen; omega) (by omega) rfl rfl rfl ?_
          exact WO.nil (WK.mk' (.cons _ (.cons _ (.nil _))))
        rw [← encL_append, show (S.flatten).length + 1 = (S.flatten ++ [t]).length by simp, hA]
        refine go3 ?_
        refine WO.keep (e' := [(0, .ad 1000000 [] 0), (4, i64 j), (5, i64 b), (105, .ow 93 2 (stk p.w S t).flatten.length (encL tm (stk p.w S t).flatten)), (107, .ad 1000000 [] 1), (1000000, .op [.ip (prR p), .dead, .ow 3 1 (sts S 0).length (encL eI (sts S 0))])]) (.cons rfl (.cons rfl (.cons rfl (.cons rfl (.cons rfl (.cons rfl .nil)))))) ?_
        refine WO.stOp (a := 1) (cs' := [.ip (prR p), .ow 93 2 (stk p.w S t).flatten.length (encL tm (stk p.w S t).flatten), .ow 3 1 (sts S 0).length (encL eI (sts S 0))]) rfl rfl rfl rfl (encL_length _) rfl rfl rfl rfl rfl ?_
        refine go3 ?_
        refine WO.q rfl (QE.ldOw rfl rfl rfl) rfl rfl ?_
        refine go3 ?_
        refine WO.q rfl (QE.slHP (b := j) rfl rfl rfl (by omega)) rfl rfl ?_
        refine go3 ?_
        refine WO.bsA (us := [i64 b]) (cs := [i64 b]) rfl rfl rfl rfl rfl (by kernel_rfl) rfl ?_
        refine WO.hard (r := 116) (p := []) (x := .ow 3 1 1 [i64 b]) (y := .im 1 [i64 b]) rfl rfl rfl ?_
        refine WO.apPT (r := 1000000) (j := 2) (xs := sts S 0) (cs' := [.ip (prR p), .ow 93 2 (stk p.w S t).flatten.length (encL tm (stk p.w S t).flatten), .dead]) rfl rfl rfl rfl (by omega) rfl rfl rfl (by unfold maxLen; omega) (by omega) rfl rfl rfl ?_
        rw [hP]
        refine WO.keep (e' := [(108, .ad 1000000 [] 0), (117, .ow 3 1 (sts (stk p.w S t) 0).length (encL eI (sts (stk p.w S t) 0))), (1000000, .op [.ip (prR p), .ow 93 2 (stk p.w S t).flatten.length (encL tm (stk p.w S t).flatten), .dead])]) (.cons rfl (.cons rfl (.cons rfl .nil))) ?_
        refine go3 ?_
        refine WO.stOp (a := 2) (cs' := fo p (stk p.w S t)) rfl rfl rfl rfl (encL_length _) rfl rfl rfl rfl rfl ?_
        refine go3 ?_
        exact ret0q rfl rfl
      by_cases h2 : t.op = 2
      · have hA := hno (fun h => absurd h.2.1 (by simp [knT, h2]))
        refine go3 ?_
        refine WC.keep (e' := [(0, .ad 1000000 [] 0), (3, .op (tm t)), (4, i64 j), (5, i64 b), (1000000, .op [.ip (prR p), .ow 93 2 (S.flatten).length (encL tm (S.flatten)), .ow 3 1 (sts S 0).length (encL eI (sts S 0))])]) (.cons rfl (.cons rfl (.cons rfl (.cons rfl (.cons rfl .nil))))) ?_
        refine WC.regionDd ⟨[[], [], [1], [1, 2], [1, 2, 3], [], [5], [1, 2, 3, 4, 5, 6], [0, 1, 2, 3, 4, 5, 6, 7], [0, 1, 2, 3, 4, 5, 6, 7, 8], [0, 1, 2, 3, 4, 5, 6, 7, 8, 9]], [0, 1, 2, 3, 5, 8, 9], [(4, [1000000]), (6, []), (7, [1000000])], [98, 99, 100, 101, 102, 103, 104, 105, 106, 107], [0, 1, 2, 3, 4, 5, 6, 7, 8, 9, 10], [([99, 100, 101, 102, 103, 104, 105], [99, 100, 101, 102, 1000000, 103, 104, 105, 1000000], true), ([98, 103, 104], [98, 103, 104], true), ([98, 103, 104], [98, 103, 104], true), ([98, 103, 104], [98, 103, 104], true), ([98, 103, 104], [98, 103, 104], true), ([98, 99, 100, 101, 102], [98, 99, 100, 101, 102, 1000000], true), ([98, 99, 100, 101, 102], [98, 99, 100, 101, 102, 1000000], true), ([98], [98], false), ([], [], false), ([], [], false), ([], [], false)]⟩ (by kernel_rfl) ?_
        refine go3 ?_
        refine WD.gen [(1000000, .op [.ip (prR p), .ow 93 2 (S.flatten).length (encL tm (S.flatten)), .ow 3 1 (sts S 0).length (encL eI (sts S 0))]), (102, .vw 1000000 [1] 0 (S.flatten).length)] rfl rfl rfl rfl rfl ?_ rfl rfl rfl ⟨rfl, trivial⟩ rfl rfl (.cons _ (.cons _ (.nil _))) ?_
        · refine WO.q rfl (QE.ldOw rfl rfl rfl) rfl rfl ?_
          refine WO.re (r := 1000000) rfl ?_
          exact WO.nil (WK.mk' (.cons _ (.cons _ (.nil _))))
        refine go3 ?_
        refine WD.gen [(104, .im 1 (encL tm [t]))] rfl rfl rfl rfl rfl ?_ rfl rfl rfl ⟨rfl, trivial⟩ rfl rfl (.cons _ (.nil _)) ?_
        · refine WO.b1A rfl rfl rfl rfl rfl rfl rfl rfl ?_
          refine WO.hard (r := 104) (p := []) (x := .ow 93 2 1 (encL tm [t])) (y := .im 1 (encL tm [t])) rfl rfl rfl ?_
          rw [look_dup]
          exact WO.nil (WK.mk' (.cons _ (.nil _)))
        refine go3 ?_
        refine WD.gen [(105, .ow 93 2 ((S.flatten).length + 1) (encL tm (S.flatten) ++ encL tm [t])), (1000000, .op [.ip (prR p), .dead, .ow 3 1 (sts S 0).length (encL eI (sts S 0))])] rfl rfl rfl rfl rfl ?_ rfl rfl rfl ⟨rfl, trivial⟩ rfl rfl (.cons _ (.cons _ (.nil _))) ?_
        · refine WO.apP (r := 1000000) (j := 1) (cs' := [.ip (prR p), .dead, .ow 3 1 (sts S 0).length (encL eI (sts S 0))]) rfl rfl rfl rfl (encL_length _) rfl rfl rfl (by unfold maxLen; omega) (by omega) rfl rfl rfl ?_
          exact WO.nil (WK.mk' (.cons _ (.cons _ (.nil _))))
        rw [← encL_append, show (S.flatten).length + 1 = (S.flatten ++ [t]).length by simp, hA]
        refine go3 ?_
        refine WO.keep (e' := [(0, .ad 1000000 [] 0), (4, i64 j), (5, i64 b), (105, .ow 93 2 (stk p.w S t).flatten.length (encL tm (stk p.w S t).flatten)), (107, .ad 1000000 [] 1), (1000000, .op [.ip (prR p), .dead, .ow 3 1 (sts S 0).length (encL eI (sts S 0))])]) (.cons rfl (.cons rfl (.cons rfl (.cons rfl (.cons rfl (.cons rfl .nil)))))) ?_
        refine WO.stOp (a := 1) (cs' := [.ip (prR p), .ow 93 2 (stk p.w S t).flatten.length (encL tm (stk p.w S t).flatten), .ow 3 1 (sts S 0).length (encL eI (sts S 0))]) rfl rfl rfl rfl (encL_length _) rfl rfl rfl rfl rfl ?_
        refine go3 ?_
        refine WO.q rfl (QE.ldOw rfl rfl rfl) rfl rfl ?_
        refine go3 ?_
        refine WO.q rfl (QE.slHP (b := j) rfl rfl rfl (by omega)) rfl rfl ?_
        refine go3 ?_
        refine WO.bsA (us := [i64 b]) (cs := [i64 b]) rfl rfl rfl rfl rfl (by kernel_rfl) rfl ?_
        refine WO.hard (r := 116) (p := []) (x := .ow 3 1 1 [i64 b]) (y := .im 1 [i64 b]) rfl rfl rfl ?_
        refine WO.apPT (r := 1000000) (j := 2) (xs := sts S 0) (cs' := [.ip (prR p), .ow 93 2 (stk p.w S t).flatten.length (encL tm (stk p.w S t).flatten), .dead]) rfl rfl rfl rfl (by omega) rfl rfl rfl (by unfold maxLen; omega) (by omega) rfl rfl rfl ?_
        rw [hP]
        refine WO.keep (e' := [(108, .ad 1000000 [] 0), (117, .ow 3 1 (sts (stk p.w S t) 0).length (encL eI (sts (stk p.w S t) 0))), (1000000, .op [.ip (prR p), .ow 93 2 (stk p.w S t).flatten.length (encL tm (stk p.w S t).flatten), .dead])]) (.cons rfl (.cons rfl (.cons rfl .nil))) ?_
        refine go3 ?_
        refine WO.stOp (a := 2) (cs' := fo p (stk p.w S t)) rfl rfl rfl rfl (encL_length _) rfl rfl rfl rfl rfl ?_
        refine go3 ?_
        exact ret0q rfl rfl
      have hkn : knT t = true := by simp [knT, h1, h2]
      have cR := cRk hall hkn
      have hyes := hyes hall hkn
      have hno := fun (h : ¬ (rp p.w nov ((S.drop j).flatten ++ [t]) []).2 = 0) => hno (fun h2 => h h2.2.2)
      clear cRk
      rw [kx hall] at hyes hno
      have hvl : ((S.drop j).map nv).length ≤ 3 := by rw [List.length_map, List.length_drop]; omega
      generalize (S.drop j).map nv = vs at *
      refine go3 ?_
      refine WC.loopS (S := Nat) (fun i => [(0, .ad 1000000 [] 0), (3, .op (tm t)), (4, i64 j), (5, i64 b), (8, .ow 93 2 ((vs.take i).map nmT).length (encL tm ((vs.take i).map nmT))), (59, .im vs.length (encL eI vs)), (60, i64 vs.length), (61, i64 i), (1000000, .op (fo p S))]) (fun i => i ≤ vs.length) (fun i => vs.length - i) 0 (.cons rfl (.cons rfl (.cons rfl (.cons rfl (.cons rfl (.cons rfl (.cons rfl (.cons rfl (.cons rfl .nil))))))))) (Nat.zero_le _) ?_
      intro i g
      have hml : ((vs.take i).map nmT).length ≤ 3 := by rw [List.length_map, List.length_take]; omega
      refine go3 ?_
      refine WO.cmp rfl rfl rfl rfl rfl (fun h3 => ?_) (fun h3 => ?_)
      · have hi : i < vs.length := by omega
        have en : (vs.take (i + 1)).map nmT = (vs.take i).map nmT ++ [⟨0, vs.getD i 0⟩] := by
          rw [List.take_add_one, List.getElem?_eq_getElem hi, List.map_append]; simp [nmT, List.getD_eq_getElem?_getD, hi]
        refine go3 ?_
        refine WO.ixN (f := eI) 0 rfl rfl rfl hi rfl ?_
        refine go3 ?_
        refine WO.bld (cs := tm ⟨0, vs.getD i 0⟩) rfl rfl rfl rfl ?_
        refine WO.b1A rfl rfl rfl rfl rfl rfl rfl rfl ?_
        refine WO.hard (r := 68) (p := []) (x := .ow 93 2 1 (encL tm [⟨0, vs.getD i 0⟩])) (y := .im 1 (encL tm [⟨0, vs.getD i 0⟩])) rfl rfl rfl ?_
        refine WO.apVI rfl rfl rfl (encL_length _) rfl rfl rfl (by unfold maxLen; omega) (by omega) rfl ?_
        rw [← encL_append, show ((vs.take i).map nmT).length + 1 = ((vs.take i).map nmT ++ [(⟨0, vs.getD i 0⟩ : Tm)]).length by simp, ← en]
        refine WO.cln 8 ?_
        refine go3 ?_
        exact lpK.mk (i + 1) (.cons rfl (.cons rfl (.cons rfl (.cons rfl (.cons rfl (.cons rfl (.cons rfl (.cons rfl (.cons rfl .nil))))))))) hi (show vs.length - (i + 1) < vs.length - i by omega)
      have hie : i = vs.length := by omega
      subst hie
      rw [List.take_length] at hml ⊢
      refine go3 ?_
      refine WC.regionDd ⟨[[], [0], [0, 1], [0, 1, 2], [], [4], [], [], [7], [6, 7, 8], [0, 1, 2, 3, 4, 5, 6, 7, 8, 9], [0, 1, 2, 3, 4, 5, 6, 7, 8, 9, 10], [0, 1, 2, 3, 4, 5, 6, 7, 8, 9, 10, 11], [0, 1, 2, 3, 4, 5, 6, 7, 8, 9, 10, 11], [0, 1, 2, 3, 4, 5, 6, 7, 8, 9, 10, 11, 12], [0, 1, 2, 3, 4, 5, 6, 7, 8, 9, 10, 11, 12, 13, 14]], [0, 1, 2, 3, 4, 6, 7, 11, 12, 13, 14], [(5, []), (8, []), (9, [8])], [72, 73, 74, 75, 76, 77, 78, 79, 80, 81, 71, 83, 84, 11], [0, 1, 2, 3, 4, 5, 6, 7, 8, 9, 10, 11, 12, 13, 14, 15], [([76, 77, 78, 79, 80, 81], [76, 77, 78, 79, 80, 81, 8], true), ([76, 77, 78, 79, 80, 81], [76, 77, 78, 79, 80, 81, 8], true), ([76, 77, 78, 79, 80, 81], [76, 77, 78, 79, 80, 81, 8], true), ([76, 77, 78, 79, 80, 81], [76, 77, 78, 79, 80, 81, 8], true), ([72, 73, 74, 75, 78, 79, 80, 81], [72, 73, 74, 75, 78, 79, 80, 81, 8], true), ([72, 73, 74, 75, 78, 79, 80, 81], [72, 73, 74, 75, 78, 79, 80, 81, 8], true), ([72, 73, 74, 75, 76, 77, 79, 80], [72, 73, 74, 75, 76, 77, 79, 80], true), ([72, 73, 74, 75, 76, 77, 78], [72, 73, 74, 75, 76, 77, 78], true), ([72, 73, 74, 75, 76, 77, 78], [72, 73, 74, 75, 76, 77, 78], true), ([72, 73, 74, 75, 76, 77], [72, 73, 74, 75, 76, 77], true), ([], [], false), ([], [], false), ([84], [84], false), ([83, 11], [83, 11], false), ([84], [84], false), ([], [], false)]⟩ (by kernel_rfl) ?_
      refine go3 ?_
      refine WD.q rfl rfl rfl rfl rfl (QE.bld (cs := [.nl, .nl]) rfl) rfl rfl rfl ?_
      refine go3 ?_
      refine WD.gen [(77, .op (enR nov))] rfl rfl rfl rfl rfl ?_ rfl rfl rfl ⟨rfl, trivial⟩ rfl rfl (.cons _ (.nil _)) ?_
      · refine WO.boxA rfl rfl rfl rfl rfl ?_
        refine WO.castI (r := 77) (p := [0]) (y := .op [.im 0 [], .nl]) rfl rfl ?_
        refine WO.castI (r := 77) (p := [1]) (y := .op (enR nov)) rfl rfl ?_
        rw [look_dup, look_dup]
        exact WO.nil (WK.mk' (.cons _ (.nil _)))
      refine go3 ?_
      refine WD.gen [(80, .im 1 (encL tm [t]))] rfl rfl rfl rfl rfl ?_ rfl rfl rfl ⟨rfl, trivial⟩ rfl rfl (.cons _ (.nil _)) ?_
      · refine WO.b1A rfl rfl rfl rfl rfl rfl rfl rfl ?_
        refine WO.hard (r := 80) (p := []) (x := .ow 93 2 1 (encL tm [t])) (y := .im 1 (encL tm [t])) rfl rfl rfl ?_
        rw [look_dup]
        exact WO.nil (WK.mk' (.cons _ (.nil _)))
      refine go3 ?_
      refine WD.gen [(81, .ow 93 2 ((vs.map nmT).length + 1) (encL tm (vs.map nmT) ++ encL tm [t])), (8, .dead)] rfl rfl rfl rfl rfl ?_ rfl rfl rfl ⟨rfl, trivial⟩ rfl rfl (.cons _ (.cons _ (.nil _))) ?_
      · refine WO.apVI rfl rfl rfl (encL_length _) rfl rfl rfl (by unfold maxLen; omega) (by omega) rfl ?_
        exact WO.nil (WK.mk' (.cons _ (.cons _ (.nil _))))
      rw [← encL_append, show (vs.map nmT).length + 1 = (vs.map nmT ++ [t]).length by simp]
      refine go3 ?_
      refine WO.callF rfl (.cons (.plain _ rfl) (.cons (frzA rfl rfl) (.cons (frz1 rfl rfl) (.cons (.plain _ rfl) .nil)))) cR rfl rfl rfl ?_
      by_cases tr : (rp p.w nov (vs.map nmT ++ [t]) []).2 = 0
      · have hA := hyes tr
        rw [rk_rp, if_neg (by omega)]
        generalize (rp p.w nov (vs.map nmT ++ [t]) []).1 = x at *
        refine go3 ?_
        refine WO.keep (e' := [(0, .ad 1000000 [] 0), (3, .op (tm t)), (4, i64 j), (5, i64 b), (11, i64 x), (87, .ad 1000000 [] 0), (90, .ad 1000000 [] 1), (1000000, .op (fo p S))]) (.cons rfl (.cons rfl (.cons rfl (.cons rfl (.cons rfl (.cons rfl (.cons rfl (.cons rfl .nil)))))))) ?_
        refine WO.q rfl (QE.ldOw rfl rfl rfl) rfl rfl ?_
        refine go3 ?_
        refine WO.q rfl (QE.slHP (b := b) rfl rfl rfl hbl) rfl rfl ?_
        refine go3 ?_
        refine WO.stTr (f := tm) (xs := S.flatten) (r := 1000000) (j := 1) (cs' := [.ip (prR p), .ow 93 2 b (encL tm (S.flatten.take b)), .ow 3 1 (sts S 0).length (encL eI (sts S 0))]) rfl rfl rfl rfl rfl hbl rfl rfl rfl ?_
        rw [hfb, show AV.ow 93 2 b (encL tm (S.take j).flatten) = .ow 93 2 (S.take j).flatten.length (encL tm (S.take j).flatten) by rw [hb]]
        refine go3 ?_
        refine WO.bld (cs := tm ⟨0, x⟩) rfl rfl rfl rfl ?_
        refine go3 ?_
        refine WC.keep (e' := [(0, .ad 1000000 [] 0), (3, .op (tm (⟨0, x⟩ : Tm))), (4, i64 j), (5, i64 b), (1000000, .op [.ip (prR p), .ow 93 2 ((S.take j).flatten).length (encL tm ((S.take j).flatten)), .ow 3 1 (sts S 0).length (encL eI (sts S 0))])]) (.cons rfl (.cons rfl (.cons rfl (.cons rfl (.cons rfl .nil))))) ?_
        refine WC.regionDd ⟨[[], [], [1], [1, 2], [1, 2, 3], [], [5], [1, 2, 3, 4, 5, 6], [0, 1, 2, 3, 4, 5, 6, 7], [0, 1, 2, 3, 4, 5, 6, 7, 8], [0, 1, 2, 3, 4, 5, 6, 7, 8, 9]], [0, 1, 2, 3, 5, 8, 9], [(4, [1000000]), (6, []), (7, [1000000])], [98, 99, 100, 101, 102, 103, 104, 105, 106, 107], [0, 1, 2, 3, 4, 5, 6, 7, 8, 9, 10], [([99, 100, 101, 102, 103, 104, 105], [99, 100, 101, 102, 1000000, 103, 104, 105, 1000000], true), ([98, 103, 104], [98, 103, 104], true), ([98, 103, 104], [98, 103, 104], true), ([98, 103, 104], [98, 103, 104], true), ([98, 103, 104], [98, 103, 104], true), ([98, 99, 100, 101, 102], [98, 99, 100, 101, 102, 1000000], true), ([98, 99, 100, 101, 102], [98, 99, 100, 101, 102, 1000000], true), ([98], [98], false), ([], [], false), ([], [], false), ([], [], false)]⟩ (by kernel_rfl) ?_
        refine go3 ?_
        refine WD.gen [(1000000, .op [.ip (prR p), .ow 93 2 ((S.take j).flatten).length (encL tm ((S.take j).flatten)), .ow 3 1 (sts S 0).length (encL eI (sts S 0))]), (102, .vw 1000000 [1] 0 ((S.take j).flatten).length)] rfl rfl rfl rfl rfl ?_ rfl rfl rfl ⟨rfl, trivial⟩ rfl rfl (.cons _ (.cons _ (.nil _))) ?_
        · refine WO.q rfl (QE.ldOw rfl rfl rfl) rfl rfl ?_
          refine WO.re (r := 1000000) rfl ?_
          exact WO.nil (WK.mk' (.cons _ (.cons _ (.nil _))))
        refine go3 ?_
        refine WD.gen [(104, .im 1 (encL tm [(⟨0, x⟩ : Tm)]))] rfl rfl rfl rfl rfl ?_ rfl rfl rfl ⟨rfl, trivial⟩ rfl rfl (.cons _ (.nil _)) ?_
        · refine WO.b1A rfl rfl rfl rfl rfl rfl rfl rfl ?_
          refine WO.hard (r := 104) (p := []) (x := .ow 93 2 1 (encL tm [(⟨0, x⟩ : Tm)])) (y := .im 1 (encL tm [(⟨0, x⟩ : Tm)])) rfl rfl rfl ?_
          rw [look_dup]
          exact WO.nil (WK.mk' (.cons _ (.nil _)))
        refine go3 ?_
        refine WD.gen [(105, .ow 93 2 (((S.take j).flatten).length + 1) (encL tm ((S.take j).flatten) ++ encL tm [(⟨0, x⟩ : Tm)])), (1000000, .op [.ip (prR p), .dead, .ow 3 1 (sts S 0).length (encL eI (sts S 0))])] rfl rfl rfl rfl rfl ?_ rfl rfl rfl ⟨rfl, trivial⟩ rfl rfl (.cons _ (.cons _ (.nil _))) ?_
        · refine WO.apP (r := 1000000) (j := 1) (cs' := [.ip (prR p), .dead, .ow 3 1 (sts S 0).length (encL eI (sts S 0))]) rfl rfl rfl rfl (encL_length _) rfl rfl rfl (by unfold maxLen; omega) (by omega) rfl rfl rfl ?_
          exact WO.nil (WK.mk' (.cons _ (.cons _ (.nil _))))
        rw [← encL_append, show ((S.take j).flatten).length + 1 = ((S.take j).flatten ++ [(⟨0, x⟩ : Tm)]).length by simp, hA]
        refine go3 ?_
        refine WO.keep (e' := [(0, .ad 1000000 [] 0), (4, i64 j), (5, i64 b), (105, .ow 93 2 (stk p.w S t).flatten.length (encL tm (stk p.w S t).flatten)), (107, .ad 1000000 [] 1), (1000000, .op [.ip (prR p), .dead, .ow 3 1 (sts S 0).length (encL eI (sts S 0))])]) (.cons rfl (.cons rfl (.cons rfl (.cons rfl (.cons rfl (.cons rfl .nil)))))) ?_
        refine WO.stOp (a := 1) (cs' := [.ip (prR p), .ow 93 2 (stk p.w S t).flatten.length (encL tm (stk p.w S t).flatten), .ow 3 1 (sts S 0).length (encL eI (sts S 0))]) rfl rfl rfl rfl (encL_length _) rfl rfl rfl rfl rfl ?_
        refine go3 ?_
        refine WO.q rfl (QE.ldOw rfl rfl rfl) rfl rfl ?_
        refine go3 ?_
        refine WO.q rfl (QE.slHP (b := j) rfl rfl rfl (by omega)) rfl rfl ?_
        refine go3 ?_
        refine WO.bsA (us := [i64 b]) (cs := [i64 b]) rfl rfl rfl rfl rfl (by kernel_rfl) rfl ?_
        refine WO.hard (r := 116) (p := []) (x := .ow 3 1 1 [i64 b]) (y := .im 1 [i64 b]) rfl rfl rfl ?_
        refine WO.apPT (r := 1000000) (j := 2) (xs := sts S 0) (cs' := [.ip (prR p), .ow 93 2 (stk p.w S t).flatten.length (encL tm (stk p.w S t).flatten), .dead]) rfl rfl rfl rfl (by omega) rfl rfl rfl (by unfold maxLen; omega) (by omega) rfl rfl rfl ?_
        rw [hP]
        refine WO.keep (e' := [(108, .ad 1000000 [] 0), (117, .ow 3 1 (sts (stk p.w S t) 0).length (encL eI (sts (stk p.w S t) 0))), (1000000, .op [.ip (prR p), .ow 93 2 (stk p.w S t).flatten.length (encL tm (stk p.w S t).flatten), .dead])]) (.cons rfl (.cons rfl (.cons rfl .nil))) ?_
        refine go3 ?_
        refine WO.stOp (a := 2) (cs' := fo p (stk p.w S t)) rfl rfl rfl rfl (encL_length _) rfl rfl rfl rfl rfl ?_
        refine go3 ?_
        exact ret0q rfl rfl
      · have hA := hno tr
        rw [rk_rp, if_pos tr]
        generalize (rp p.w nov (vs.map nmT ++ [t]) []).2 = tr' at *
        refine go3 ?_
        refine WC.keep (e' := [(0, .ad 1000000 [] 0), (3, .op (tm t)), (4, i64 j), (5, i64 b), (1000000, .op [.ip (prR p), .ow 93 2 (S.flatten).length (encL tm (S.flatten)), .ow 3 1 (sts S 0).length (encL eI (sts S 0))])]) (.cons rfl (.cons rfl (.cons rfl (.cons rfl (.cons rfl .nil))))) ?_
        refine WC.regionDd ⟨[[], [], [1], [1, 2], [1, 2, 3], [], [5], [1, 2, 3, 4, 5, 6], [0, 1, 2, 3, 4, 5, 6, 7], [0, 1, 2, 3, 4, 5, 6, 7, 8], [0, 1, 2, 3, 4, 5, 6, 7, 8, 9]], [0, 1, 2, 3, 5, 8, 9], [(4, [1000000]), (6, []), (7, [1000000])], [98, 99, 100, 101, 102, 103, 104, 105, 106, 107], [0, 1, 2, 3, 4, 5, 6, 7, 8, 9, 10], [([99, 100, 101, 102, 103, 104, 105], [99, 100, 101, 102, 1000000, 103, 104, 105, 1000000], true), ([98, 103, 104], [98, 103, 104], true), ([98, 103, 104], [98, 103, 104], true), ([98, 103, 104], [98, 103, 104], true), ([98, 103, 104], [98, 103, 104], true), ([98, 99, 100, 101, 102], [98, 99, 100, 101, 102, 1000000], true), ([98, 99, 100, 101, 102], [98, 99, 100, 101, 102, 1000000], true), ([98], [98], false), ([], [], false), ([], [], false), ([], [], false)]⟩ (by kernel_rfl) ?_
        refine go3 ?_
        refine WD.gen [(1000000, .op [.ip (prR p), .ow 93 2 (S.flatten).length (encL tm (S.flatten)), .ow 3 1 (sts S 0).length (encL eI (sts S 0))]), (102, .vw 1000000 [1] 0 (S.flatten).length)] rfl rfl rfl rfl rfl ?_ rfl rfl rfl ⟨rfl, trivial⟩ rfl rfl (.cons _ (.cons _ (.nil _))) ?_
        · refine WO.q rfl (QE.ldOw rfl rfl rfl) rfl rfl ?_
          refine WO.re (r := 1000000) rfl ?_
          exact WO.nil (WK.mk' (.cons _ (.cons _ (.nil _))))
        refine go3 ?_
        refine WD.gen [(104, .im 1 (encL tm [t]))] rfl rfl rfl rfl rfl ?_ rfl rfl rfl ⟨rfl, trivial⟩ rfl rfl (.cons _ (.nil _)) ?_
        · refine WO.b1A rfl rfl rfl rfl rfl rfl rfl rfl ?_
          refine WO.hard (r := 104) (p := []) (x := .ow 93 2 1 (encL tm [t])) (y := .im 1 (encL tm [t])) rfl rfl rfl ?_
          rw [look_dup]
          exact WO.nil (WK.mk' (.cons _ (.nil _)))
        refine go3 ?_
        refine WD.gen [(105, .ow 93 2 ((S.flatten).length + 1) (encL tm (S.flatten) ++ encL tm [t])), (1000000, .op [.ip (prR p), .dead, .ow 3 1 (sts S 0).length (encL eI (sts S 0))])] rfl rfl rfl rfl rfl ?_ rfl rfl rfl ⟨rfl, trivial⟩ rfl rfl (.cons _ (.cons _ (.nil _))) ?_
        · refine WO.apP (r := 1000000) (j := 1) (cs' := [.ip (prR p), .dead, .ow 3 1 (sts S 0).length (encL eI (sts S 0))]) rfl rfl rfl rfl (encL_length _) rfl rfl rfl (by unfold maxLen; omega) (by omega) rfl rfl rfl ?_
          exact WO.nil (WK.mk' (.cons _ (.cons _ (.nil _))))
        rw [← encL_append, show (S.flatten).length + 1 = (S.flatten ++ [t]).length by simp, hA]
        refine go3 ?_
        refine WO.keep (e' := [(0, .ad 1000000 [] 0), (4, i64 j), (5, i64 b), (105, .ow 93 2 (stk p.w S t).flatten.length (encL tm (stk p.w S t).flatten)), (107, .ad 1000000 [] 1), (1000000, .op [.ip (prR p), .dead, .ow 3 1 (sts S 0).length (encL eI (sts S 0))])]) (.cons rfl (.cons rfl (.cons rfl (.cons rfl (.cons rfl (.cons rfl .nil)))))) ?_
        refine WO.stOp (a := 1) (cs' := [.ip (prR p), .ow 93 2 (stk p.w S t).flatten.length (encL tm (stk p.w S t).flatten), .ow 3 1 (sts S 0).length (encL eI (sts S 0))]) rfl rfl rfl rfl (encL_length _) rfl rfl rfl rfl rfl ?_
        refine go3 ?_
        refine WO.q rfl (QE.ldOw rfl rfl rfl) rfl rfl ?_
        refine go3 ?_
        refine WO.q rfl (QE.slHP (b := j) rfl rfl rfl (by omega)) rfl rfl ?_
        refine go3 ?_
        refine WO.bsA (us := [i64 b]) (cs := [i64 b]) rfl rfl rfl rfl rfl (by kernel_rfl) rfl ?_
        refine WO.hard (r := 116) (p := []) (x := .ow 3 1 1 [i64 b]) (y := .im 1 [i64 b]) rfl rfl rfl ?_
        refine WO.apPT (r := 1000000) (j := 2) (xs := sts S 0) (cs' := [.ip (prR p), .ow 93 2 (stk p.w S t).flatten.length (encL tm (stk p.w S t).flatten), .dead]) rfl rfl rfl rfl (by omega) rfl rfl rfl (by unfold maxLen; omega) (by omega) rfl rfl rfl ?_
        rw [hP]
        refine WO.keep (e' := [(108, .ad 1000000 [] 0), (117, .ow 3 1 (sts (stk p.w S t) 0).length (encL eI (sts (stk p.w S t) 0))), (1000000, .op [.ip (prR p), .ow 93 2 (stk p.w S t).flatten.length (encL tm (stk p.w S t).flatten), .dead])]) (.cons rfl (.cons rfl (.cons rfl .nil))) ?_
        refine go3 ?_
        refine WO.stOp (a := 2) (cs' := fo p (stk p.w S t)) rfl rfl rfl rfl (encL_length _) rfl rfl rfl rfl rfl ?_
        refine go3 ?_
        exact ret0q rfl rfl
    · rw [show knR S j = .tu [.nl, bl false] from if_neg hall] at cK
      refine WO.callF rfl (.cons (frzI rfl (hardL_fo p S)) (.cons (.plain _ rfl) .nil)) cK rfl rfl rfl ?_
      have hA := hno (fun h => hall h.1)
      refine go3 ?_
      refine WC.keep (e' := [(0, .ad 1000000 [] 0), (3, .op (tm t)), (4, i64 j), (5, i64 b), (1000000, .op [.ip (prR p), .ow 93 2 (S.flatten).length (encL tm (S.flatten)), .ow 3 1 (sts S 0).length (encL eI (sts S 0))])]) (.cons rfl (.cons rfl (.cons rfl (.cons rfl (.cons rfl .nil))))) ?_
      refine WC.regionDd ⟨[[], [], [1], [1, 2], [1, 2, 3], [], [5], [1, 2, 3, 4, 5, 6], [0, 1, 2, 3, 4, 5, 6, 7], [0, 1, 2, 3, 4, 5, 6, 7, 8], [0, 1, 2, 3, 4, 5, 6, 7, 8, 9]], [0, 1, 2, 3, 5, 8, 9], [(4, [1000000]), (6, []), (7, [1000000])], [98, 99, 100, 101, 102, 103, 104, 105, 106, 107], [0, 1, 2, 3, 4, 5, 6, 7, 8, 9, 10], [([99, 100, 101, 102, 103, 104, 105], [99, 100, 101, 102, 1000000, 103, 104, 105, 1000000], true), ([98, 103, 104], [98, 103, 104], true), ([98, 103, 104], [98, 103, 104], true), ([98, 103, 104], [98, 103, 104], true), ([98, 103, 104], [98, 103, 104], true), ([98, 99, 100, 101, 102], [98, 99, 100, 101, 102, 1000000], true), ([98, 99, 100, 101, 102], [98, 99, 100, 101, 102, 1000000], true), ([98], [98], false), ([], [], false), ([], [], false), ([], [], false)]⟩ (by kernel_rfl) ?_
      refine go3 ?_
      refine WD.gen [(1000000, .op [.ip (prR p), .ow 93 2 (S.flatten).length (encL tm (S.flatten)), .ow 3 1 (sts S 0).length (encL eI (sts S 0))]), (102, .vw 1000000 [1] 0 (S.flatten).length)] rfl rfl rfl rfl rfl ?_ rfl rfl rfl ⟨rfl, trivial⟩ rfl rfl (.cons _ (.cons _ (.nil _))) ?_
      · refine WO.q rfl (QE.ldOw rfl rfl rfl) rfl rfl ?_
        refine WO.re (r := 1000000) rfl ?_
        exact WO.nil (WK.mk' (.cons _ (.cons _ (.nil _))))
      refine go3 ?_
      refine WD.gen [(104, .im 1 (encL tm [t]))] rfl rfl rfl rfl rfl ?_ rfl rfl rfl ⟨rfl, trivial⟩ rfl rfl (.cons _ (.nil _)) ?_
      · refine WO.b1A rfl rfl rfl rfl rfl rfl rfl rfl ?_
        refine WO.hard (r := 104) (p := []) (x := .ow 93 2 1 (encL tm [t])) (y := .im 1 (encL tm [t])) rfl rfl rfl ?_
        rw [look_dup]
        exact WO.nil (WK.mk' (.cons _ (.nil _)))
      refine go3 ?_
      refine WD.gen [(105, .ow 93 2 ((S.flatten).length + 1) (encL tm (S.flatten) ++ encL tm [t])), (1000000, .op [.ip (prR p), .dead, .ow 3 1 (sts S 0).length (encL eI (sts S 0))])] rfl rfl rfl rfl rfl ?_ rfl rfl rfl ⟨rfl, trivial⟩ rfl rfl (.cons _ (.cons _ (.nil _))) ?_
      · refine WO.apP (r := 1000000) (j := 1) (cs' := [.ip (prR p), .dead, .ow 3 1 (sts S 0).length (encL eI (sts S 0))]) rfl rfl rfl rfl (encL_length _) rfl rfl rfl (by unfold maxLen; omega) (by omega) rfl rfl rfl ?_
        exact WO.nil (WK.mk' (.cons _ (.cons _ (.nil _))))
      rw [← encL_append, show (S.flatten).length + 1 = (S.flatten ++ [t]).length by simp, hA]
      refine go3 ?_
      refine WO.keep (e' := [(0, .ad 1000000 [] 0), (4, i64 j), (5, i64 b), (105, .ow 93 2 (stk p.w S t).flatten.length (encL tm (stk p.w S t).flatten)), (107, .ad 1000000 [] 1), (1000000, .op [.ip (prR p), .dead, .ow 3 1 (sts S 0).length (encL eI (sts S 0))])]) (.cons rfl (.cons rfl (.cons rfl (.cons rfl (.cons rfl (.cons rfl .nil)))))) ?_
      refine WO.stOp (a := 1) (cs' := [.ip (prR p), .ow 93 2 (stk p.w S t).flatten.length (encL tm (stk p.w S t).flatten), .ow 3 1 (sts S 0).length (encL eI (sts S 0))]) rfl rfl rfl rfl (encL_length _) rfl rfl rfl rfl rfl ?_
      refine go3 ?_
      refine WO.q rfl (QE.ldOw rfl rfl rfl) rfl rfl ?_
      refine go3 ?_
      refine WO.q rfl (QE.slHP (b := j) rfl rfl rfl (by omega)) rfl rfl ?_
      refine go3 ?_
      refine WO.bsA (us := [i64 b]) (cs := [i64 b]) rfl rfl rfl rfl rfl (by kernel_rfl) rfl ?_
      refine WO.hard (r := 116) (p := []) (x := .ow 3 1 1 [i64 b]) (y := .im 1 [i64 b]) rfl rfl rfl ?_
      refine WO.apPT (r := 1000000) (j := 2) (xs := sts S 0) (cs' := [.ip (prR p), .ow 93 2 (stk p.w S t).flatten.length (encL tm (stk p.w S t).flatten), .dead]) rfl rfl rfl rfl (by omega) rfl rfl rfl (by unfold maxLen; omega) (by omega) rfl rfl rfl ?_
      rw [hP]
      refine WO.keep (e' := [(108, .ad 1000000 [] 0), (117, .ow 3 1 (sts (stk p.w S t) 0).length (encL eI (sts (stk p.w S t) 0))), (1000000, .op [.ip (prR p), .ow 93 2 (stk p.w S t).flatten.length (encL tm (stk p.w S t).flatten), .dead])]) (.cons rfl (.cons rfl (.cons rfl .nil))) ?_
      refine go3 ?_
      refine WO.stOp (a := 2) (cs' := fo p (stk p.w S t)) rfl rfl rfl rfl (encL_length _) rfl rfl rfl rfl rfl ?_
      refine go3 ?_
      exact ret0q rfl rfl
end Go.Eng.C

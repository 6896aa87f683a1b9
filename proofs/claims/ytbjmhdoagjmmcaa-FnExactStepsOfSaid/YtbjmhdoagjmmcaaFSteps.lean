/- Part of the pure side: Steps. -/
import Derived.Test.YtbjmhdoagjmmcaaPCoreg
import Derived.Test.YtbjmhdoagjmmcaaPCoreg0
import Derived.Test.YtbjmhdoagjmmcaaPCoreg3
import Derived.Test.YtbjmhdoagjmmcaaPCoreg7
import Derived.Test.YtbjmhdoagjmmcaaTerm
import Derived.Test.YtbjmhdoagjmmcaaFNest
set_option linter.unusedVariables false
set_option linter.unusedSimpArgs false
namespace Go.Proofs.Ytbjmhdoagjmmcaa.Pure
open Go.RowKit Go.Proofs.Ytbjmhdoagjmmcaa.PCore Go.Proofs.YtbjmhdoagjmmcaaW.PrintWords Go.Proofs.YtbjmhdoagjmmcaaW.PrintLast Go.Proofs.YtbjmhdoagjmmcaaW.PrintMore Go.Proofs.Ytbjmhdoagjmmcaa.Bs

theorem specEnd_leaf (x : List S42) (hx : x.length ≤ 1000) (a : Nat) (h : a < x.length) (ho : opx x a ≠ 2 ∧ opx x a ≠ 5 ∧ opx x a ≠ 8) : Ev (fun k => spec_l3End.f k x (a : Int)) (-1, -1) := by
  have key : ∀ t : Int, Ev (fun k => spec_l3Block.l0 k x ((a + 1 : Nat) : Int)) t → Ev (fun k => spec_l3End.f k x (a : Int)) (-1, -1) := by
    intro t k1
    refine Ev.step (fun k => by rw [spec_l3End.f]) ?_
    refine Ev.bind (l3E_step x a h hx k1) ?_
    unfold opx at ho
    simp only [if_pos (show 0 ≤ (a : Int) by omega), if_pos (show (a : Int) < (x.length : Int) by omega), if_neg ho.1, if_neg ho.2.1, if_neg ho.2.2]
    exact Ev.now _
  rcases blk_all x hx (x.length - (a + 1)) (a + 1) (by omega) with ⟨e, l, _, _, k1, _⟩ | ⟨k1, _⟩
  · exact key _ k1
  · exact key _ k1
theorem l3E_one (x : List S42) (hx : x.length ≤ 1000) (a c : Nat) (h : a < x.length) (ho : opx x a = 2 ∨ opx x a = 5) (k1 : Ev (fun k => spec_l3Block.l0 k x ((a + 1 : Nat) : Int)) (c : Int)) (h4 : isB x c 4 = true) : Ev (fun k => spec_l3End.f k x (a : Int)) (-1, (c : Int)) := by
  have hop : (rd_T42 x (a : Int)).f0 = opx x a := rfl
  refine Ev.step (fun k => by rw [spec_l3End.f]) ?_
  refine Ev.bind (l3E_step x a h hx k1) ?_
  simp only [if_pos (show 0 ≤ (a : Int) by omega), if_pos (show (a : Int) < (x.length : Int) by omega), hop, specIs_eq x hx, Option.bind_some, h4, if_true]
  rcases ho with e2 | e2
  · simp only [e2, if_neg (show ¬ (2 : Int) = 5 by decide), if_true]; exact Ev.now _
  · simp only [e2, if_true]; exact Ev.now _
theorem l3E_two (x : List S42) (hx : x.length ≤ 1000) (a c d : Nat) (h : a < x.length) (ho : opx x a = 2 ∧ isB x c 3 = true ∨ opx x a = 8 ∧ isB x c 9 = true) (k1 : Ev (fun k => spec_l3Block.l0 k x ((a + 1 : Nat) : Int)) (c : Int)) (j1 : Ev (fun k => spec_l3Block.l0 k x ((c + 1 : Nat) : Int)) (d : Int)) (h5 : isB x d 4 = true) : Ev (fun k => spec_l3End.f k x (a : Int)) ((c : Int), (d : Int)) := by
  have hop : (rd_T42 x (a : Int)).f0 = opx x a := rfl
  have hcl : c < x.length := by
    rcases ho with hh | hh
    · exact (isB_lt hh.2).1
    · exact (isB_lt hh.2).1
  have h4 : isB x c 4 = false := by
    rw [← Bool.not_eq_true]; intro hh
    have e1 := (isB_lt hh).2
    rcases ho with hh2 | hh2
    · have := (isB_lt hh2.2).2; omega
    · have := (isB_lt hh2.2).2; omega
  have js : Ev (fun k => spec_l3Block.f k x (wrap64 ((c : Int) + 1))) (d : Int) := l3E_step x c hcl hx j1
  refine Ev.step (fun k => by rw [spec_l3End.f]) ?_
  refine Ev.bind (l3E_step x a h hx k1) ?_
  simp only [if_pos (show 0 ≤ (a : Int) by omega), if_pos (show (a : Int) < (x.length : Int) by omega), hop, specIs_eq x hx, Option.bind_some, h4, Bool.false_eq_true, if_false]
  rcases ho with ⟨e2, e3⟩ | ⟨e2, e3⟩
  · simp only [e2, if_neg (show ¬ (2 : Int) = 5 by decide), if_true, e3]
    refine Ev.bind js ?_
    simp only [specIs_eq x hx, Option.bind_some, h5, if_true]
    exact Ev.now _
  · simp only [e2, if_neg (show ¬ (8 : Int) = 5 by decide), if_neg (show ¬ (8 : Int) = 2 by decide), if_true, e3]
    refine Ev.bind js ?_
    simp only [specIs_eq x hx, Option.bind_some, h5, if_true]
    exact Ev.now _
/-- The reference's block of what is well nested. -/
theorem nst_block (x : List S42) (hx : x.length ≤ 1000) {a e : Nat} {l : List S71} (h : Nst x a e l) : Ev (fun k => spec_l3Block.l0 k x (a : Int)) (e : Int) := by
  induction h with
  | @nil a h =>
    by_cases c : x.length ≤ a
    · exact l3B_end x a c
    · exact l3B_stop x a (by omega) (by rcases h with h | h; exact absurd h c; exact h)
  | leaf h ho _ ih => exact l3B_leaf x hx _ h ho ih
  | one h ho hb hc hr ih1 ih2 => exact l3B_nest x hx _ h (by omega) (by have := (isB_lt hc).1; omega) (l3E_one x hx _ _ h ho ih1 hc) ih2
  | two h ho hb hm hd hr ih1 ih2 ih3 => exact l3B_nest x hx _ h (by omega) (by have := (isB_lt hd).1; omega) (l3E_two x hx _ _ _ h ho ih1 ih2 hd) ih3
theorem bnd_seq {A1 A2 B1 B2 v1 v2 : Nat} (h1 : A1 * (v1 + 1) ≤ B1) (h2 : A2 * (v2 + 1) ≤ B2) : A1 * A2 * (v1 + v2 + 1) ≤ B1 * B2 := by
  have h3 : v1 + v2 + 1 ≤ (v1 + 1) * (v2 + 1) := by rw [Nat.add_mul, Nat.mul_add]; omega
  calc A1 * A2 * (v1 + v2 + 1) ≤ A1 * A2 * ((v1 + 1) * (v2 + 1)) := Nat.mul_le_mul_left _ h3
    _ = A1 * (v1 + 1) * (A2 * (v2 + 1)) := by rw [Nat.mul_mul_mul_comm]
    _ ≤ B1 * B2 := Nat.mul_le_mul h1 h2
theorem bnd_one {A B v n : Nat} (h : A * (v + 1) ≤ B) (hv : n + 1 ≤ 6 * (v + 1)) : A * 4 * (n + 1) ≤ B * 25 := by
  calc A * 4 * (n + 1) ≤ A * 4 * (6 * (v + 1)) := Nat.mul_le_mul_left _ hv
    _ = A * (v + 1) * 24 := by rw [Nat.mul_mul_mul_comm, Nat.mul_comm (A * 6), ← Nat.mul_assoc, Nat.mul_comm (4 * (v + 1) * A) 6, Nat.mul_comm (4 * (v + 1)) A, ← Nat.mul_assoc A, Nat.mul_right_comm A 4]; omega
    _ ≤ B * 25 := by omega
theorem bnd_two {A1 A2 B1 B2 v1 v2 n : Nat} (h1 : A1 * (v1 + 1) ≤ B1) (h2 : A2 * (v2 + 1) ≤ B2) (hv : n + 1 ≤ 2 * (v1 + v2 + 1)) : A1 * A2 * 8 * (n + 1) ≤ B1 * B2 * 125 := by
  have h3 := bnd_seq h1 h2
  generalize A1 * A2 = A at h3 ⊢
  generalize B1 * B2 = B at h3 ⊢
  generalize v1 + v2 + 1 = V at h3 hv
  calc A * 8 * (n + 1) ≤ A * 8 * (2 * V) := Nat.mul_le_mul_left _ hv
    _ = A * V * 16 := by rw [Nat.mul_mul_mul_comm, Nat.mul_comm (A * 2), ← Nat.mul_assoc, Nat.mul_comm (8 * V * A) 2, Nat.mul_comm (8 * V) A, ← Nat.mul_assoc A, Nat.mul_right_comm A 8]; omega
    _ ≤ B * 125 := by omega
theorem bnd_num {m v : Nat} (hm : m ≤ 40) (h : 2 ^ m * (v + 1) ≤ 5 ^ m) : v ≤ 10000000000000000 := by
  have h1 : 2 ^ (40 - m) * (2 ^ m * (v + 1)) ≤ 5 ^ (40 - m) * 5 ^ m := Nat.mul_le_mul (Nat.pow_le_pow_left (by omega) _) h
  rw [← Nat.mul_assoc, ← Nat.pow_add, ← Nat.pow_add, show 40 - m + m = 40 by omega] at h1
  have h2 : (1099511627776 : Nat) * (v + 1) ≤ 9094947017729282379150390625 := h1
  omega
def SpecS (x : List S42) (a e v : Nat) : Prop := ∀ acc : Nat, acc + v ≤ 100000000000000000 → Ev (fun k => spec_l3Steps.l0 k x (e : Int) (acc : Int) (a : Int)) ((acc + v : Nat) : Int)
def ImplS (x : List S42) (l : List S71) (v : Nat) : Prop := ∀ (L : List S71) (i s : Nat), L.drop i = l → L.length ≤ 1000 → s ≤ 4000 → Ev (fun k => impl_stepsIn.l0 k x (s : Int) L (L.length : Int) (i : Int)) ((min (s + v) 4000 : Nat) : Int)
theorem SpecS.f {x : List S42} {a e v : Nat} (h : SpecS x a e v) (hv : v ≤ 10000000000000000) : Ev (fun k => spec_l3Steps.f k x (a : Int) (e : Int)) (v : Int) := by
  refine Ev.step (fun k => by rw [spec_l3Steps.f]) ?_
  exact (h 0 (by omega)).cast (by rw [Nat.zero_add])
theorem ImplS.f {x : List S42} {l : List S71} {v : Nat} (h : ImplS x l v) (hl : l.length ≤ 1000) : Ev (fun k => impl_stepsIn.f k x l) ((min v 4000 : Nat) : Int) := by
  refine Ev.step (fun k => by rw [impl_stepsIn.f]) ?_
  exact (h l 0 0 rfl hl (by omega)).cast (by rw [Nat.zero_add])
theorem rdNd_drop {L l : List S71} {y : S71} {i : Nat} (h : L.drop i = y :: l) : i < L.length ∧ rd_T71 L (i : Int) = y ∧ L.drop (i + 1) = l := by
  have hi : i < L.length := by
    refine Classical.byContradiction fun c => ?_
    rw [List.drop_of_length_le (by omega)] at h
    cases h
  rw [List.drop_eq_getElem_cons hi, List.cons.injEq] at h
  refine ⟨hi, ?_, h.2⟩
  simp only [rd_T71, Int.toNat_natCast, List.getD_eq_getElem?_getD, List.getElem?_eq_getElem hi, Option.getD_some]
  exact h.1
/-- One turn of the program's count. -/
theorem implS_cons {x : List S42} {a : Nat} {b o l : List S71} {n v : Nat} (ha : a < x.length) (hx : x.length ≤ 40)
    (h : ∀ (L : List S71) (i s : Nat), i < 1000 → s ≤ 4000 → ∀ r : Int, Ev (fun k => impl_stepsIn.l0 k x ((min (s + n) 4000 : Nat) : Int) L (L.length : Int) ((i + 1 : Nat) : Int)) r →
      Ev (fun k => if ((rd_T42 x (a : Int)).f0) = 2 then ((impl_stepsIn.f k x b).bind fun t430 => ((impl_stepsIn.f k x o).bind fun t431 => (impl_stepsIn.l0 k x (mn (wrap64 ((s : Int) + (wrap64 (1 + (mx t430 t431))))) 4000) L (L.length : Int) (wrap64 ((i : Int) + 1))))) else (if ((rd_T42 x (a : Int)).f0) = 5 then ((impl_stepsIn.f k x b).bind fun t432 => (impl_stepsIn.l0 k x (mn (wrap64 ((s : Int) + (wrap64 (1 + (wrap64 (((rd_T42 x (a : Int)).f1) * (wrap64 (1 + t432)))))))) 4000) L (L.length : Int) (wrap64 ((i : Int) + 1)))) else (if ((rd_T42 x (a : Int)).f0) = 8 then ((impl_stepsIn.f k x b).bind fun t433 => ((impl_stepsIn.f k x o).bind fun t434 => (impl_stepsIn.l0 k x (mn (wrap64 ((s : Int) + (wrap64 ((wrap64 (1 + t433)) + t434)))) 4000) L (L.length : Int) (wrap64 ((i : Int) + 1))))) else (impl_stepsIn.l0 k x (mn (wrap64 ((s : Int) + 1)) 4000) L (L.length : Int) (wrap64 ((i : Int) + 1)))))) r)
    (hr : ImplS x l v) : ImplS x (⟨(a : Int), b, o⟩ :: l) (n + v) := by
  intro L i s hd hL hs
  obtain ⟨hi, e1, e2⟩ := rdNd_drop hd
  refine Ev.step (fun k => by rw [impl_stepsIn.l0]) ?_
  simp only [if_pos (show (i : Int) < (L.length : Int) by omega), if_pos (show 0 ≤ (i : Int) by omega), e1, if_pos (show 0 ≤ (a : Int) by omega), if_pos (show (a : Int) < (x.length : Int) by omega)]
  refine h L i s (by omega) hs _ ?_
  exact (hr L (i + 1) (min (s + n) 4000) e2 hL (by omega)).cast (by congr 1; omega)
theorem mn_cap (s n : Nat) (z : Int) (hz : z = ((s + n : Nat) : Int)) : mn z 4000 = ((min (s + n) 4000 : Nat) : Int) := by
  subst hz; unfold mn
  by_cases c : (4000 : Int) < ((s + n : Nat) : Int)
  · rw [if_pos c]; omega
  · rw [if_neg c]; omega
theorem steps_all (x : List S42) (hx : x.length ≤ 40) (hN : ∀ a, a < x.length → opx x a = 5 → 0 ≤ (rd_T42 x (a : Int)).f1 ∧ (rd_T42 x (a : Int)).f1 ≤ 4) {a e : Nat} {l : List S71} (h : Nst x a e l) :
    e ≤ x.length → ∃ v : Nat, l.length ≤ e - a ∧ 2 ^ (e - a) * (v + 1) ≤ 5 ^ (e - a) ∧ SpecS x a e v ∧ ImplS x l v := by
  have hop : ∀ a : Nat, (rd_T42 x (a : Int)).f0 = opx x a := fun _ => rfl
  have emp : ImplS x [] 0 := by
    intro L i s hd hL hs
    have hi : L.length ≤ i := by
      refine Classical.byContradiction fun c => ?_
      rw [List.drop_eq_getElem_cons (by omega)] at hd
      cases hd
    refine Ev.step (fun k => by rw [impl_stepsIn.l0]) ?_
    simp only [if_neg (show ¬ (i : Int) < (L.length : Int) by omega)]
    exact (Ev.now _).cast (by congr 1; omega)
  induction h with
  | @nil a h =>
    intro he
    refine ⟨0, by simp, by simp, fun acc hacc => ?_, emp⟩
    refine Ev.step (fun k => by rw [spec_l3Steps.l0]) ?_
    simp only [if_neg (show ¬ (a : Int) < (a : Int) by omega)]
    exact Ev.now _
  | @leaf a e l h ho hr ih =>
    intro he
    obtain ⟨v, h1, h2, h3, h4⟩ := ih he
    have hle := hr.le
    have ex : e - a = (e - (a + 1)) + 1 := by omega
    refine ⟨1 + v, by simp only [List.length_cons]; omega, ?_, fun acc hacc => ?_, ?_⟩
    · rw [ex, Nat.pow_add 2 _ 1, Nat.pow_add 5 _ 1, Nat.mul_comm (2 ^ (e - (a + 1))), Nat.mul_comm (5 ^ (e - (a + 1)))]
      exact bnd_seq (A1 := 2 ^ 1) (B1 := 5 ^ 1) (v1 := 1) (by decide) h2
    · have k1 := specEnd_leaf x (by omega) a h ⟨ho.1, ho.2.2.2.1, ho.2.2.2.2.1⟩
      refine Ev.step (fun k => by rw [spec_l3Steps.l0]) ?_
      simp only [if_pos (show (a : Int) < (e : Int) by omega)]
      refine Ev.bind k1 ?_
      simp only [if_pos (show 0 ≤ (a : Int) by omega), if_pos (show (a : Int) < (x.length : Int) by omega), hop, if_neg ho.1, if_neg ho.2.2.2.1, if_neg ho.2.2.2.2.1, if_pos (show (-1 : Int) < 0 by decide), wrap_succ (show a < 9223372036854775807 by omega), wrap_succ (show acc < 9223372036854775807 by omega)]
      exact (h3 (acc + 1) (by omega)).cast (by rw [Nat.add_assoc])
    · refine implS_cons h hx (fun L i s hL hs r hr => ?_) h4
      simp only [hop, if_neg ho.1, if_neg ho.2.2.2.1, if_neg ho.2.2.2.2.1]
      rw [wrap_succ (show s < 9223372036854775807 by omega), mn_cap s 1 _ rfl, wrap_succ (show i < 9223372036854775807 by omega)] at *
      exact hr
  | @one a c e b l h ho hb hc hr ihb ihr =>
    intro he
    have hcl := (isB_lt hc).1
    obtain ⟨vb, b1, b2, b3, b4⟩ := ihb (by omega)
    obtain ⟨v, h1, h2, h3, h4⟩ := ihr he
    have hle := hr.le
    have hlb := hb.le
    have ex : e - a = ((c - (a + 1)) + 2) + (e - (c + 1)) := by omega
    have nb := bnd_num (by omega) b2
    have nv := bnd_num (by omega) h2
    have k1 := l3E_one x (by omega) a c h ho (nst_block x (by omega) hb) hc
    have fb := b3.f nb
    have gb := b4.f (by omega)
    have g0 := emp.f (by simp)
    rcases ho with ho | ho
    · refine ⟨(1 + vb) + v, by simp only [List.length_cons]; omega, ?_, fun acc hacc => ?_, ?_⟩
      · rw [ex, Nat.pow_add 2 _ (e - (c + 1)), Nat.pow_add 5 _ (e - (c + 1))]
        refine bnd_seq ?_ h2
        rw [Nat.pow_add 2 _ 2, Nat.pow_add 5 _ 2]
        exact bnd_one b2 (by omega)
      · refine Ev.step (fun k => by rw [spec_l3Steps.l0]) ?_
        simp only [if_pos (show (a : Int) < (e : Int) by omega)]
        refine Ev.bind k1 ?_
        simp only [if_pos (show 0 ≤ (a : Int) by omega), if_pos (show (a : Int) < (x.length : Int) by omega), hop, if_pos ho, if_pos (show (-1 : Int) < 0 by decide), wrap_succ (show a < 9223372036854775807 by omega)]
        refine Ev.bind fb ?_
        simp only [if_neg (show ¬ (c : Int) < 0 by omega), wrap_succ (show c < 9223372036854775807 by omega), wrap_succ (show acc < 9223372036854775807 by omega)]
        rw [show wrap64 (((acc + 1 : Nat) : Int) + (vb : Int)) = ((acc + (1 + vb) : Nat) : Int) by rw [wrap_id (by omega) (by omega)]; omega]
        exact (h3 (acc + (1 + vb)) (by omega)).cast (by rw [Nat.add_assoc])
      · refine implS_cons h hx (fun L i s hL hs r hr => ?_) h4
        simp only [hop, if_pos ho]
        refine Ev.bind gb ?_
        refine Ev.bind g0 ?_
        have em : mn (wrap64 ((s : Int) + wrap64 (1 + mx ((min vb 4000 : Nat) : Int) ((min 0 4000 : Nat) : Int)))) 4000 = ((min (s + (1 + vb)) 4000 : Nat) : Int) := by
          have e1 : mx ((min vb 4000 : Nat) : Int) ((min 0 4000 : Nat) : Int) = ((min vb 4000 : Nat) : Int) := by unfold mx; rw [if_neg (by omega)]
          rw [e1, wrap_id (x := 1 + ((min vb 4000 : Nat) : Int)) (by omega) (by omega), wrap_id (by omega) (by omega), mn_cap s (1 + min vb 4000) _ (by omega)]
          congr 1; omega
        simp only [em, wrap_succ (show i < 9223372036854775807 by omega)]
        exact hr
    · obtain ⟨n0, n1⟩ := hN a h ho
      obtain ⟨N, hNe⟩ := Int.eq_ofNat_of_zero_le n0
      have hN4 : N ≤ 4 := by omega
      have hm : N * (1 + vb) ≤ 4 * (1 + vb) := Nat.mul_le_mul_right _ hN4
      have o2 : opx x a ≠ 2 := by omega
      refine ⟨(1 + N * (1 + vb)) + v, by simp only [List.length_cons]; omega, ?_, fun acc hacc => ?_, ?_⟩
      · rw [ex, Nat.pow_add 2 _ (e - (c + 1)), Nat.pow_add 5 _ (e - (c + 1))]
        refine bnd_seq ?_ h2
        rw [Nat.pow_add 2 _ 2, Nat.pow_add 5 _ 2]
        exact bnd_one b2 (by omega)
      · refine Ev.step (fun k => by rw [spec_l3Steps.l0]) ?_
        simp only [if_pos (show (a : Int) < (e : Int) by omega)]
        refine Ev.bind k1 ?_
        simp only [if_pos (show 0 ≤ (a : Int) by omega), if_pos (show (a : Int) < (x.length : Int) by omega), hop, if_neg o2, if_pos ho, wrap_succ (show a < 9223372036854775807 by omega)]
        refine Ev.bind fb ?_
        simp only [if_neg (show ¬ (c : Int) < 0 by omega), wrap_succ (show c < 9223372036854775807 by omega), wrap_succ (show acc < 9223372036854775807 by omega), hNe]
        rw [show wrap64 (((acc + 1 : Nat) : Int) + wrap64 ((N : Int) * wrap64 (1 + (vb : Int)))) = ((acc + (1 + N * (1 + vb)) : Nat) : Int) by
          rw [wrap_id (x := 1 + (vb : Int)) (by omega) (by omega), show (N : Int) * (1 + (vb : Int)) = ((N * (1 + vb) : Nat) : Int) by rw [Int.natCast_mul]; rfl, wrap_id (x := ((N * (1 + vb) : Nat) : Int)) (by omega) (by omega), wrap_id (by omega) (by omega)]; omega]
        exact (h3 (acc + (1 + N * (1 + vb))) (by omega)).cast (by rw [Nat.add_assoc])
      · refine implS_cons h hx (fun L i s hL hs r hr => ?_) h4
        simp only [hop, if_neg o2, if_pos ho]
        refine Ev.bind gb ?_
        have em : mn (wrap64 ((s : Int) + wrap64 (1 + wrap64 ((rd_T42 x (a : Int)).f1 * wrap64 (1 + ((min vb 4000 : Nat) : Int)))))) 4000 = ((min (s + (1 + N * (1 + vb))) 4000 : Nat) : Int) := by
          have hm2 : N * (1 + min vb 4000) ≤ 4 * (1 + min vb 4000) := Nat.mul_le_mul_right _ hN4
          rw [hNe, wrap_id (x := 1 + ((min vb 4000 : Nat) : Int)) (by omega) (by omega), show ((N : Nat) : Int) * (1 + ((min vb 4000 : Nat) : Int)) = ((N * (1 + min vb 4000) : Nat) : Int) by rw [Int.natCast_mul]; rfl, wrap_id (x := ((N * (1 + min vb 4000) : Nat) : Int)) (by omega) (by omega), wrap_id (x := 1 + ((N * (1 + min vb 4000) : Nat) : Int)) (by omega) (by omega), wrap_id (by omega) (by omega), mn_cap s (1 + N * (1 + min vb 4000)) _ (by omega)]
          congr 1
          by_cases cN : N = 0
          · subst cN; simp
          by_cases cv : vb ≤ 4000
          · rw [Nat.min_eq_left cv]
          · have g1 : 1 * (1 + 4000) ≤ N * (1 + 4000) := Nat.mul_le_mul_right _ (by omega)
            have g2 : 1 * (1 + vb) ≤ N * (1 + vb) := Nat.mul_le_mul_right _ (by omega)
            rw [Nat.min_eq_right (show 4000 ≤ vb by omega)]
            omega
        simp only [em, wrap_succ (show i < 9223372036854775807 by omega)]
        exact hr
  | @two a c d e b o l h ho hb hm hd hr ihb iho ihr =>
    intro he
    have hdl := (isB_lt hd).1
    have hcl : c < x.length := by
      rcases ho with hh | hh
      · exact (isB_lt hh.2).1
      · exact (isB_lt hh.2).1
    obtain ⟨vb, b1, b2, b3, b4⟩ := ihb (by omega)
    obtain ⟨vo, o1, o2, o3, o4⟩ := iho (by omega)
    obtain ⟨v, h1, h2, h3, h4⟩ := ihr he
    have hle := hr.le
    have hlb := hb.le
    have hlm := hm.le
    have ex : e - a = ((c - (a + 1)) + (d - (c + 1)) + 3) + (e - (d + 1)) := by omega
    have nb := bnd_num (by omega) b2
    have no := bnd_num (by omega) o2
    have nv := bnd_num (by omega) h2
    have k1 := l3E_two x (by omega) a c d h ho (nst_block x (by omega) hb) (nst_block x (by omega) hm) hd
    have fb := b3.f nb
    have gb := b4.f (by omega)
    have fo := o3.f no
    have go := o4.f (by omega)
    rcases ho with ⟨ho, _⟩ | ⟨ho, _⟩
    · refine ⟨(1 + max vb vo) + v, by simp only [List.length_cons]; omega, ?_, fun acc hacc => ?_, ?_⟩
      · rw [ex, Nat.pow_add 2 _ (e - (d + 1)), Nat.pow_add 5 _ (e - (d + 1))]
        refine bnd_seq ?_ h2
        rw [Nat.pow_add 2 _ 3, Nat.pow_add 5 _ 3, Nat.pow_add 2 _ (d - (c + 1)), Nat.pow_add 5 _ (d - (c + 1))]
        exact bnd_two b2 o2 (by omega)
      · refine Ev.step (fun k => by rw [spec_l3Steps.l0]) ?_
        simp only [if_pos (show (a : Int) < (e : Int) by omega)]
        refine Ev.bind k1 ?_
        simp only [if_pos (show 0 ≤ (a : Int) by omega), if_pos (show (a : Int) < (x.length : Int) by omega), hop, if_pos ho, if_neg (show ¬ (c : Int) < 0 by omega), wrap_succ (show a < 9223372036854775807 by omega)]
        refine Ev.bind fb ?_
        simp only [wrap_succ (show c < 9223372036854775807 by omega)]
        refine Ev.bind fo ?_
        rw [show spec_l1Max.f (vb : Int) (vo : Int) = some ((max vb vo : Nat) : Int) by
          unfold spec_l1Max.f
          by_cases cc : (vb : Int) > (vo : Int)
          · rw [if_pos cc]; congr 1; omega
          · rw [if_neg cc]; congr 1; omega]
        simp only [Option.bind_some, if_neg (show ¬ (d : Int) < 0 by omega), wrap_succ (show d < 9223372036854775807 by omega), wrap_succ (show acc < 9223372036854775807 by omega)]
        rw [show wrap64 (((acc + 1 : Nat) : Int) + ((max vb vo : Nat) : Int)) = ((acc + (1 + max vb vo) : Nat) : Int) by rw [wrap_id (by omega) (by omega)]; omega]
        exact (h3 (acc + (1 + max vb vo)) (by omega)).cast (by rw [Nat.add_assoc])
      · refine implS_cons h hx (fun L i s hL hs r hr => ?_) h4
        simp only [hop, if_pos ho]
        refine Ev.bind gb ?_
        refine Ev.bind go ?_
        have em : mn (wrap64 ((s : Int) + wrap64 (1 + mx ((min vb 4000 : Nat) : Int) ((min vo 4000 : Nat) : Int)))) 4000 = ((min (s + (1 + max vb vo)) 4000 : Nat) : Int) := by
          have e1 : mx ((min vb 4000 : Nat) : Int) ((min vo 4000 : Nat) : Int) = ((min (max vb vo) 4000 : Nat) : Int) := by
            unfold mx
            by_cases cc : ((min vb 4000 : Nat) : Int) < ((min vo 4000 : Nat) : Int)
            · rw [if_pos cc]; omega
            · rw [if_neg cc]; omega
          rw [e1, wrap_id (x := 1 + ((min (max vb vo) 4000 : Nat) : Int)) (by omega) (by omega), wrap_id (by omega) (by omega), mn_cap s (1 + min (max vb vo) 4000) _ (by omega)]
          congr 1; omega
        simp only [em, wrap_succ (show i < 9223372036854775807 by omega)]
        exact hr
    · have q2 : opx x a ≠ 2 := by omega
      have q5 : opx x a ≠ 5 := by omega
      refine ⟨(1 + vb + vo) + v, by simp only [List.length_cons]; omega, ?_, fun acc hacc => ?_, ?_⟩
      · rw [ex, Nat.pow_add 2 _ (e - (d + 1)), Nat.pow_add 5 _ (e - (d + 1))]
        refine bnd_seq ?_ h2
        rw [Nat.pow_add 2 _ 3, Nat.pow_add 5 _ 3, Nat.pow_add 2 _ (d - (c + 1)), Nat.pow_add 5 _ (d - (c + 1))]
        exact bnd_two b2 o2 (by omega)
      · refine Ev.step (fun k => by rw [spec_l3Steps.l0]) ?_
        simp only [if_pos (show (a : Int) < (e : Int) by omega)]
        refine Ev.bind k1 ?_
        simp only [if_pos (show 0 ≤ (a : Int) by omega), if_pos (show (a : Int) < (x.length : Int) by omega), hop, if_neg q2, if_neg q5, if_pos ho, wrap_succ (show a < 9223372036854775807 by omega)]
        refine Ev.bind fb ?_
        simp only [wrap_succ (show c < 9223372036854775807 by omega)]
        refine Ev.bind fo ?_
        simp only [if_neg (show ¬ (d : Int) < 0 by omega), wrap_succ (show d < 9223372036854775807 by omega), wrap_succ (show acc < 9223372036854775807 by omega)]
        rw [show wrap64 (wrap64 (((acc + 1 : Nat) : Int) + (vb : Int)) + (vo : Int)) = ((acc + (1 + vb + vo) : Nat) : Int) by rw [wrap_id (x := ((acc + 1 : Nat) : Int) + (vb : Int)) (by omega) (by omega), wrap_id (by omega) (by omega)]; omega]
        exact (h3 (acc + (1 + vb + vo)) (by omega)).cast (by rw [Nat.add_assoc])
      · refine implS_cons h hx (fun L i s hL hs r hr => ?_) h4
        simp only [hop, if_neg q2, if_neg q5, if_pos ho]
        refine Ev.bind gb ?_
        refine Ev.bind go ?_
        have em : mn (wrap64 ((s : Int) + wrap64 (wrap64 (1 + ((min vb 4000 : Nat) : Int)) + ((min vo 4000 : Nat) : Int)))) 4000 = ((min (s + (1 + vb + vo)) 4000 : Nat) : Int) := by
          rw [wrap_id (x := 1 + ((min vb 4000 : Nat) : Int)) (by omega) (by omega), wrap_id (x := 1 + ((min vb 4000 : Nat) : Int) + ((min vo 4000 : Nat) : Int)) (by omega) (by omega), wrap_id (by omega) (by omega), mn_cap s (1 + min vb 4000 + min vo 4000) _ (by omega)]
          congr 1; omega
        simp only [em, wrap_succ (show i < 9223372036854775807 by omega)]
        exact hr

end Go.Proofs.Ytbjmhdoagjmmcaa.Pure

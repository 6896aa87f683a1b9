/- The walks of the functions that the law FnExactNamesIn comes to, part 4: turned out of the kit's print, and mended where that fell. -/
import Derived.Test.YtlaliacfonfflaaPFnExactNamesInx0
import Derived.Test.YtlaliacfonfflaaPFnExactNamesInx3
namespace Go.Proofs.Ytlaliacfonfflaa.PFnExactNamesIn
open Go.RowKit Go.Proofs.YtlaliacfonfflaaW.PrintWords Go.Proofs.YtlaliacfonfflaaW.PrintLast Go.Proofs.YtlaliacfonfflaaW.PrintMore
attribute [local go_sem] max2_int min2_int max_two min_two max_three min_three max_four min_four   -- for this text's walks alone
set_option linter.unusedVariables false
set_option linter.unusedSimpArgs false

/-! ### impl_NamesIn: function 29 -/
theorem infoI64_ : (Try.prog.info? 2).map (fun i => (i.zero, i.size, i.bytes)) = some (some (.int .i64 0), 1, 8) := by kernel_rfl
/-- An array of flags, in a block of its own. -/
def arrC (m : List Bool) : Array Value := (m.map Value.bool).toArray
def IsA (W : World) (g : Nat) (m : List Bool) : Prop := W.heap[g]? = some (.cells (arrC m) 65 (0, 0)) ∧ m.length = 256
theorem IsA.cell {W : World} {g : Nat} {m : List Bool} (h : IsA W g m) {i : Int} (h0 : 0 ≤ i) (h1 : i < 256) : W.cell? ⟨g, i.toNat, none⟩ = some (.bool (m.getD i.toNat false)) := by
  rw [blk_cell h.1]
  have hl : i.toNat < m.length := by rw [h.2]; omega
  simp [arrC, List.getD_eq_getElem?_getD, List.getElem?_eq_getElem hl]
theorem IsA.set {W : World} {g : Nat} {m : List Bool} (h : IsA W g m) (i : Nat) (b : Bool) : IsA (W.setCell ⟨g, i, none⟩ (.bool b)) g (m.set i b) := by
  refine ⟨?_, by rw [List.length_set]; exact h.2⟩
  rw [blk_set h.1]
  simp only [arrC, List.map_set, List.setIfInBounds_toArray]
theorem IsA.far {W : World} {g : Nat} {m : List Bool} (h : IsA W g m) {p : Addr} (hp : g ≠ p.block) (u : Value) : IsA (W.setCell p u) g m := ⟨blk_far h.1 hp u, h.2⟩
theorem IsA.below {W W1 : World} {g : Nat} {m : List Bool} (h : IsA W g m) (hb : Below W.heap.size W W1) : IsA W1 g m := ⟨blk_below h.1 hb, h.2⟩
def ris : List Bool → Nat → List Int
  | [], _ => []
  | b :: l, i => if b = true then (i : Int) :: ris l (i + 1) else ris l (i + 1)
theorem ris_drop (m : List Bool) (i : Nat) (h : i < m.length) : ris (m.drop i) i = (if m.getD i false = true then [(i : Int)] else []) ++ ris (m.drop (i + 1)) (i + 1) := by
  rw [List.drop_eq_getElem_cons h, ris]
  simp only [List.getD_eq_getElem?_getD, List.getElem?_eq_getElem h, Option.getD_some]
  split <;> simp
set_option maxHeartbeats 8000000 in
set_option maxRecDepth 100000 in
theorem impl_marks_rising.calls (g : Nat) (m : List Bool) (w : World) (hA : IsA w g m) :
    Calls Try.prog 62 #[.pointer (some ⟨g, 0, none⟩)] w fun e w' => ∃ v0_ : Value, e = .returned (v0_) ∧ Kd.R (Kd.int .i64) 2 w' w.heap.size (fun _ => True) v0_ (ris m 0) ∧ Below w.heap.size w w' := by
  have HB := Aside0.mk (Below.refl w.heap.size w)
  obtain ⟨y1, hy1⟩ : ∃ y_ : List Int, y_ = (([] : List Int)) := ⟨_, rfl⟩
  have Ny1 := Aside0.mk hy1
  go_enter Try.func62, Try.ntmps62
  go_wp2_with (first | ((with_reducible refine gate_dst (N := 6) rfl ?_); refine Kd.R_lit (Kd.int .i64) _ 2 ?hg (N := 6) ?hd (xs := ([] : List Int)) (inner := []) (ok := fun _ => True) (okp := fun _ => True) ?hr ?hp (fun _ hk => hk) trivial (Below.refl _ _) (Nat.le_refl _) (by simp) ?_; (case hd => rfl); (case hg => rfl); (case hr => first | (go_simp; done) | (go_simp; rfl)); (case hp => exact (Reps.none _ _)); intro v110 w2 ho3 hb hg_ hnew_; clear hg_ hnew_; have n0_ := Aside0.mk (Kd.R_lower ho3 (below_size (by repeat (first | (with_reducible first | exact HB.out | apply below_alloc | apply pw_below_drewN | apply below_drew1) | exact HB.out)))); have n1_ := Aside0.mk (below_step (by repeat (first | (with_reducible first | exact HB.out | apply below_alloc | apply pw_below_drewN | apply below_drew1) | exact HB.out)) hb); clear HB; have HO111 := n0_; have HB := n1_; clear n0_ n1_; clear hb ho3))
  go_loopg [3, 4, 5, 8] 257 (fun kq v3 v4 v5 v8 w' => ∃ (i : Nat) (x3 : List Int), v8 = .int .i64 (i : Int) ∧ Aside0 (i ≤ 256 ∧ kq + i = 257) ∧ Aside0 (x3 ++ ris (m.drop i) i = ris m 0) ∧ Aside0 (x3.length ≤ i) ∧ Aside0 (Kd.R (Kd.int .i64) 2 w' w.heap.size (fun _ => True) v3 x3) ∧ Aside0 (Below w.heap.size w w'))
  case atStart =>
    exact ⟨0, [], rfl, ⟨by omega, by omega⟩, ⟨by simp⟩, ⟨by simp⟩, ⟨by (with_reducible repeat (first | apply Kd.R_alloc | apply Kd.R_drewN | apply Kd.R_drew)); exact HO111.out⟩, ⟨by repeat (first | (with_reducible first | exact HB.out | apply below_alloc | apply pw_below_drewN | apply below_drew1) | exact HB.out)⟩⟩
  case round =>
    obtain ⟨i, x3, rfl, HI, HE, HL, HO_3, HB⟩ := hrel
    have hlen := hA.2
    have hA1 := hA.below HB.out
    by_cases c : i < 256
    · obtain ⟨k1, rfl⟩ : ∃ k1, gk = k1 + 1 := ⟨gk - 1, by have := HI.out; omega⟩
      have cb : decide ((i : Int) < 256) = true := decide_eq_true (by omega)
      have p1 : decide (0 ≤ (i : Int)) = true := decide_eq_true (by omega)
      have hc := IsA.cell hA1 (i := (i : Int)) (by omega) (by omega)
      rw [Int.toNat_natCast] at hc
      have hrd := ris_drop m i (by omega)
      have HE := HE.out
      rw [hrd] at HE
      generalize m.getD i false = b at hc HE
      cases b with
      | true =>
        have HL1 : x3.length < 17592186044416 := by have := HI.out; have := HL.out; omega
        have LM := Aside0.mk HL1
        clear HL1
        rw [if_pos rfl] at HE
        obtain ⟨y2, hy2⟩ : ∃ y_ : List Int, y_ = x3 ++ [(i : Int)] := ⟨_, rfl⟩
        have Ny2 := Aside0.mk hy2
        clear hy2
        go_wp2
        go_quiet (fail)
        go_wp2_with (first | ((with_reducible refine gate_builtin (b := .append) (xs := #[.tmp 15, .tmp 17]) rfl ?_); at_builtin; refine Kd.R_append (Kd.int .i64) (w0 := w) w.heap.size rfl (.tmp 15) (.tmp 17) 42 2 (.int .i64 0) 8 rfl Try.underlying42 infoI64_ rfl (by decide) (by omega) u3 x3 (i : Int) [.int .i64 (i : Int)] (fun _ => True) (fun _ => False) rfl rfl ?aP (fun _ hk => hk.elim) ?aF ?aO ?aB ?aS ?aL ?_; (case aP => exact rfl); (case aB => exact (by repeat (first | (with_reducible first | exact HB.out | apply below_alloc | apply pw_below_drewN | apply below_drew1) | exact HB.out))); (case aF => exact (fun _ _ => trivial)); (case aO => exact (by (with_reducible repeat (first | apply Kd.R_alloc | apply Kd.R_drewN | apply Kd.R_drew)); exact HO_3.out)); (case aS => exact (below_size (by repeat (first | (with_reducible first | exact HB.out | apply below_alloc | apply pw_below_drewN | apply below_drew1) | exact HB.out)))); (case aL => have := LM.out; omega); intro v113 w6 ho hb hg hat; rw [← Ny2.out] at ho; have n0_ := Aside0.mk (hb); have n1_ := Aside0.mk (ho); clear HB; clear HO_3; have HB := n0_; have HO114 := n1_; clear n0_ n1_; clear ho hb hg hat))
        go_roundg k1
        case measure => have := HI.out; omega
        case rel => exact ⟨i + 1, y2, (by simp [Go.IntWalk.toNatUp, wrap64]), ⟨by have := HI.out; omega⟩, ⟨by rw [Ny2.out, List.append_assoc]; exact HE⟩, ⟨by rw [Ny2.out]; have := HL.out; simp; omega⟩, ⟨by (with_reducible repeat (first | apply Kd.R_alloc | apply Kd.R_drewN | apply Kd.R_drew)); exact HO114.out⟩, ⟨by repeat (first | (with_reducible first | exact HB.out | apply below_alloc | apply pw_below_drewN | apply below_drew1) | exact HB.out)⟩⟩
      | false =>
        rw [if_neg (by decide), List.nil_append] at HE
        go_wp2
        go_quiet (fail)
        go_wp2
        go_roundg k1
        case measure => have := HI.out; omega
        case rel => exact ⟨i + 1, x3, (by simp [wrap64]), ⟨by have := HI.out; omega⟩, ⟨HE⟩, ⟨by have := HL.out; omega⟩, ⟨by (with_reducible repeat (first | apply Kd.R_alloc | apply Kd.R_drewN | apply Kd.R_drew)); exact HO_3.out⟩, ⟨by repeat (first | (with_reducible first | exact HB.out | apply below_alloc | apply pw_below_drewN | apply below_drew1) | exact HB.out)⟩⟩
    · have cb : decide ((i : Int) < 256) = false := decide_eq_false (by omega)
      have hi : i = 256 := by have := HI.out; omega
      have hE := HE.out
      rw [List.drop_eq_nil_of_le (by omega), ris, List.append_nil] at hE
      go_wp2
      go_ret
      exact ⟨_, rfl, by rw [← hE]; (with_reducible repeat (first | apply Kd.R_alloc | apply Kd.R_drewN | apply Kd.R_drew)); exact HO_3.out, by repeat (first | (with_reducible first | exact HB.out | apply below_alloc | apply pw_below_drewN | apply below_drew1) | exact HB.out)⟩
/-- The flags of those Terms that are of this Op. -/
def mk_ (c : Int) (m : List Bool) : List S40 → List Bool
  | [] => m
  | t :: l => mk_ c (if t.f0 = c then m.set t.f1.toNat true else m) l
set_option maxHeartbeats 8000000 in
set_option maxRecDepth 100000 in
theorem impl_markNames.calls (A0 : Option Addr) (c0 : Nat) (l0 : List S40) (g1 g2 : Nat) (m1 m2 : List Bool) (w0 w : World) (hB : Below w0.heap.size w0 w) (hr0 : Kd.C k40 w0 A0 l0.length l0) (hc0 : l0.length ≤ c0) (hg1 : w0.heap.size ≤ g1) (hg2 : w0.heap.size ≤ g2) (hne : g1 ≠ g2) (h1 : IsA w g1 m1) (h2 : IsA w g2 m2) (hl : l0.length ≤ 1048576) (hok : ∀ t ∈ l0, 0 ≤ t.f1 ∧ t.f1 < 256) :
    Calls Try.prog 61 #[.slice A0 l0.length c0, .pointer (some ⟨g1, 0, none⟩), .pointer (some ⟨g2, 0, none⟩)] w fun e w' => e = .returned (.tuple #[]) ∧ IsA w' g1 (mk_ 1 m1 l0) ∧ IsA w' g2 (mk_ 2 m2 l0) ∧ Below w0.heap.size w0 w' := by
  have HB := Aside0.mk hB
  have HR0 := Aside0.mk hr0
  have H1 := Aside0.mk h1
  have H2 := Aside0.mk h2
  have HW := Aside0.mk hB.size
  clear hB hr0 h1 h2
  go_enter Try.func61, Try.ntmps61
  go_wp2
  go_loopg [7, 10] (l0.length + 1) (fun kq v7 v10 w' => ∃ (i : Nat) (n1 n2 : List Bool), v10 = .int .i64 (i : Int) ∧ Aside0 (i ≤ l0.length ∧ kq + i = l0.length + 1) ∧ Aside0 (mk_ 1 n1 (l0.drop i) = mk_ 1 m1 l0) ∧ Aside0 (mk_ 2 n2 (l0.drop i) = mk_ 2 m2 l0) ∧ Aside0 (IsA w' g1 n1) ∧ Aside0 (IsA w' g2 n2) ∧ Aside0 (Below w0.heap.size w0 w'))
  case atStart => exact ⟨0, m1, m2, rfl, ⟨by omega, by omega⟩, ⟨rfl⟩, ⟨rfl⟩, H1, H2, HB⟩
  case round =>
    clear HB H1 H2
    obtain ⟨i, n1, n2, rfl, HI, HE1, HE2, H1, H2, HB⟩ := hrel
    by_cases c : i < l0.length
    · obtain ⟨k1, rfl⟩ : ∃ k1, gk = k1 + 1 := ⟨gk - 1, by have := HI.out; omega⟩
      have cb : decide ((i : Int) < (l0.length : Int)) = true := decide_eq_true (by omega)
      have pi : decide (0 ≤ (i : Int)) = true := decide_eq_true (by omega)
      obtain ⟨ad175, e175, hx175_0, hx175_1⟩ := at_T40 (Kd.C_below HR0.out HB.out) (i : Int) (by omega) (by omega)
      cases e175
      have hrd : rd_T40 l0 (i : Int) = l0[i] := by
        simp only [rd_T40, Int.toNat_natCast, List.getD_eq_getElem?_getD, List.getElem?_eq_getElem c, Option.getD_some]
      have hti := hok _ (List.getElem_mem c)
      have hE1 := HE1.out
      have hE2 := HE2.out
      rw [List.drop_eq_getElem_cons c, mk_, ← hrd] at hE1 hE2
      rw [← hrd] at hti
      generalize rd_T40 l0 (i : Int) = t at *
      obtain ⟨t0, t1⟩ := t
      obtain ⟨j, rfl⟩ := Int.eq_ofNat_of_zero_le hti.1
      have hj : j < 256 := by have := hti.2; simp only at this; omega
      have HE1 := Aside0.mk hE1
      have HE2 := Aside0.mk hE2
      clear hE1 hE2 hrd hti
      have pj : decide (0 ≤ (j : Int)) = true := decide_eq_true (by omega)
      have qj : decide ((j : Int) < 256) = true := decide_eq_true (by omega)
      have pj1 : (0 ≤ (j : Int)) = True := eq_true (by omega)
      have qj1 : ((j : Int) < 256) = True := eq_true (by omega)
      simp only [Int.toNat_natCast] at hx175_0 hx175_1
      by_cases c1 : t0 = 1
      · subst c1
        go_wp2
        generalize hw1 : wr.alloc (Obj.cells #[Value.int IntKind.i64 1, Value.int IntKind.i64 (j : Int)] 40) = w1
        have hb1 : Below wr.heap.size wr w1 := by rw [← hw1]; exact below_alloc (Below.refl _ _) _
        have H1' := IsA.below H1.out hb1
        have H2' := IsA.below H2.out hb1
        have HBb : w1.heap[wr.heap.size]? = some (.cells #[.int .i64 1, .int .i64 (j : Int)] 40 (0, 0)) := by rw [← hw1]; exact heap_alloc_new wr _
        have HB1 : Below w0.heap.size w0 w1 := below_step HB.out hb1
        generalize wr.heap.size = tb at HBb ⊢
        have hcz0 : w1.drew.cell? ⟨tb, 0, none⟩ = some (.int .i64 1) := (blk_cell HBb 0).trans rfl
        have hcz1 : w1.drew.cell? ⟨tb, 1, none⟩ = some (.int .i64 (j : Int)) := (blk_cell HBb 1).trans rfl
        have H1d : IsA w1.drew g1 n1 := H1'
        have H2d : IsA w1.drew g2 n2 := H2'
        have HBd : Below w0.heap.size w0 w1.drew := below_drew HB1
        have hc1 := IsA.cell H1d (i := (j : Int)) (by omega) (by omega)
        rw [Int.toNat_natCast] at hc1
        have hf1 := blk_frozen H1d.1 j
        clear hb1 H1' H2' HBb HB1 hw1
        refine start_ (n := 6) (S := fun w' => w'.cell? ⟨tb, 1, none⟩ = some (.int .i64 (j : Int))) (ds := [5]) #[false, false, false, false, false, false] (by kernel_rfl) rfl rfl (hcz1) (fun hHeld => ?_)
        generalize w1.drew = w2 at hHeld HBd H1d H2d hcz0 hcz1 hc1 hf1 ⊢
        refine pure_ (i := 0) (N := some 18) (v := ?_) (a' := ?_) #[true, false, false, false, false, false] rfl rfl (by kernel_rfl) (fun _ _ _ h => h) (Or.inl ⟨by rfl, ?_⟩) ?_ ?_
        rotate_left
        · intro w'
          go_simp
          with_reducible rfl
        rotate_left
        · simp only [Act.put, List.setIfInBounds_toArray, List.set_cons_zero, List.set_cons_succ, i64_w, i32_w]
          rfl
        refine pure_ (i := 1) (N := some 19) (v := ?_) (a' := ?_) #[true, true, false, false, false, false] rfl rfl (by kernel_rfl) (fun _ _ _ h => h) (Or.inl ⟨by rfl, ?_⟩) ?_ ?_
        rotate_left
        · intro w'
          go_simp
          with_reducible rfl
        rotate_left
        · simp only [Act.put, List.setIfInBounds_toArray, List.set_cons_zero, List.set_cons_succ, i64_w, i32_w]
          rfl
        refine pure_ (i := 3) (N := some 21) (v := ?_) (a' := ?_) #[true, true, false, true, false, false] rfl rfl (by kernel_rfl) (fun _ _ _ h => h) (Or.inl ⟨by rfl, ?_⟩) ?_ ?_
        rotate_left
        · intro w'
          go_simp
          with_reducible rfl
        rotate_left
        · simp only [Act.put, List.setIfInBounds_toArray, List.set_cons_zero, List.set_cons_succ, i64_w, i32_w]
          rfl
        refine take_ (i := 2) (N := some 20) (v := ?_) (a' := ?_) #[true, true, true, true, false, false] rfl rfl (by kernel_rfl) (fun _ _ _ h => h) (Or.inl ⟨by rfl, ?_⟩) hHeld ?_ ?_
        rotate_left
        · intro w' s0
          go_simp
          with_reducible rfl
        rotate_left
        · simp only [Act.put, List.setIfInBounds_toArray, List.set_cons_zero, List.set_cons_succ, i64_w, i32_w]
          rfl
        refine pure_ (i := 4) (N := some 22) (v := ?_) (a' := ?_) #[true, true, true, true, true, false] rfl rfl (by kernel_rfl) (fun _ _ _ h => h) (Or.inl ⟨by rfl, ?_⟩) ?_ ?_
        rotate_left
        · intro w'
          go_simp
          with_reducible rfl
        rotate_left
        · simp only [Act.put, List.setIfInBounds_toArray, List.set_cons_zero, List.set_cons_succ, i64_w, i32_w]
          rfl
        refine last_ (i := 5) (N := none) #[true, true, true, true, true, true] rfl rfl (by kernel_rfl) (by decide) (fun K hK => ?_)
        refine skip_ (w1 := ?_) (by rfl) rfl ?_ ?_
        rotate_left
        · go_simp
          rfl
        refine hK.out _ _ ?_
        clear hK K
        refine done_ (by kernel_rfl) ?_
        try go_wp2
        go_roundg k1
        case measure => have := HI.out; omega
        case rel => exact ⟨i + 1, _, _, (by simp [wrap64]), ⟨by have := HI.out; omega⟩, ⟨by have h := HE1.out; simpa using h⟩, ⟨by have h := HE2.out; simpa using h⟩, ⟨IsA.set H1d j true⟩, ⟨IsA.far H2d (Ne.symm hne) _⟩, ⟨below_set HBd hg1⟩⟩
      have d1 : (t0 == 1) = false := beq_eq_false_iff_ne.2 c1
      by_cases c2 : t0 = 2
      · subst c2
        go_wp2
        generalize hw1 : wr.alloc (Obj.cells #[Value.int IntKind.i64 2, Value.int IntKind.i64 (j : Int)] 40) = w1
        have hb1 : Below wr.heap.size wr w1 := by rw [← hw1]; exact below_alloc (Below.refl _ _) _
        have H1' := IsA.below H1.out hb1
        have H2' := IsA.below H2.out hb1
        have HBb : w1.heap[wr.heap.size]? = some (.cells #[.int .i64 2, .int .i64 (j : Int)] 40 (0, 0)) := by rw [← hw1]; exact heap_alloc_new wr _
        have HB1 : Below w0.heap.size w0 w1 := below_step HB.out hb1
        generalize wr.heap.size = tb at HBb ⊢
        have hcz0 : w1.drew.cell? ⟨tb, 0, none⟩ = some (.int .i64 2) := (blk_cell HBb 0).trans rfl
        have hcz1 : w1.drew.cell? ⟨tb, 1, none⟩ = some (.int .i64 (j : Int)) := (blk_cell HBb 1).trans rfl
        have H1d : IsA w1.drew g1 n1 := H1'
        have H2d : IsA w1.drew g2 n2 := H2'
        have HBd : Below w0.heap.size w0 w1.drew := below_drew HB1
        have hc1 := IsA.cell H2d (i := (j : Int)) (by omega) (by omega)
        rw [Int.toNat_natCast] at hc1
        have hf1 := blk_frozen H2d.1 j
        clear hb1 H1' H2' HBb HB1 hw1
        refine start_ (n := 6) (S := fun w' => w'.cell? ⟨tb, 1, none⟩ = some (.int .i64 (j : Int))) (ds := [5]) #[false, false, false, false, false, false] (by kernel_rfl) rfl rfl (hcz1) (fun hHeld => ?_)
        generalize w1.drew = w2 at hHeld HBd H1d H2d hcz0 hcz1 hc1 hf1 ⊢
        refine pure_ (i := 0) (N := some 25) (v := ?_) (a' := ?_) #[true, false, false, false, false, false] rfl rfl (by kernel_rfl) (fun _ _ _ h => h) (Or.inl ⟨by rfl, ?_⟩) ?_ ?_
        rotate_left
        · intro w'
          go_simp
          with_reducible rfl
        rotate_left
        · simp only [Act.put, List.setIfInBounds_toArray, List.set_cons_zero, List.set_cons_succ, i64_w, i32_w]
          rfl
        refine pure_ (i := 1) (N := some 26) (v := ?_) (a' := ?_) #[true, true, false, false, false, false] rfl rfl (by kernel_rfl) (fun _ _ _ h => h) (Or.inl ⟨by rfl, ?_⟩) ?_ ?_
        rotate_left
        · intro w'
          go_simp
          with_reducible rfl
        rotate_left
        · simp only [Act.put, List.setIfInBounds_toArray, List.set_cons_zero, List.set_cons_succ, i64_w, i32_w]
          rfl
        refine pure_ (i := 3) (N := some 28) (v := ?_) (a' := ?_) #[true, true, false, true, false, false] rfl rfl (by kernel_rfl) (fun _ _ _ h => h) (Or.inl ⟨by rfl, ?_⟩) ?_ ?_
        rotate_left
        · intro w'
          go_simp
          with_reducible rfl
        rotate_left
        · simp only [Act.put, List.setIfInBounds_toArray, List.set_cons_zero, List.set_cons_succ, i64_w, i32_w]
          rfl
        refine take_ (i := 2) (N := some 27) (v := ?_) (a' := ?_) #[true, true, true, true, false, false] rfl rfl (by kernel_rfl) (fun _ _ _ h => h) (Or.inl ⟨by rfl, ?_⟩) hHeld ?_ ?_
        rotate_left
        · intro w' s0
          go_simp
          with_reducible rfl
        rotate_left
        · simp only [Act.put, List.setIfInBounds_toArray, List.set_cons_zero, List.set_cons_succ, i64_w, i32_w]
          rfl
        refine pure_ (i := 4) (N := some 29) (v := ?_) (a' := ?_) #[true, true, true, true, true, false] rfl rfl (by kernel_rfl) (fun _ _ _ h => h) (Or.inl ⟨by rfl, ?_⟩) ?_ ?_
        rotate_left
        · intro w'
          go_simp
          with_reducible rfl
        rotate_left
        · simp only [Act.put, List.setIfInBounds_toArray, List.set_cons_zero, List.set_cons_succ, i64_w, i32_w]
          rfl
        refine last_ (i := 5) (N := none) #[true, true, true, true, true, true] rfl rfl (by kernel_rfl) (by decide) (fun K hK => ?_)
        refine skip_ (w1 := ?_) (by rfl) rfl ?_ ?_
        rotate_left
        · go_simp
          rfl
        refine hK.out _ _ ?_
        clear hK K
        refine done_ (by kernel_rfl) ?_
        try go_wp2
        go_roundg k1
        case measure => have := HI.out; omega
        case rel => exact ⟨i + 1, _, _, (by simp [wrap64]), ⟨by have := HI.out; omega⟩, ⟨by have h := HE1.out; simpa using h⟩, ⟨by have h := HE2.out; simpa using h⟩, ⟨IsA.far H1d hne _⟩, ⟨IsA.set H2d j true⟩, ⟨below_set HBd hg2⟩⟩
      have d2 : (t0 == 2) = false := beq_eq_false_iff_ne.2 c2
      go_wp2
      generalize hw1 : wr.alloc (Obj.cells #[Value.int IntKind.i64 t0, Value.int IntKind.i64 (j : Int)] 40) = w1
      have hb1 : Below wr.heap.size wr w1 := by rw [← hw1]; exact below_alloc (Below.refl _ _) _
      go_roundg k1
      case measure => have := HI.out; omega
      case rel => exact ⟨i + 1, n1, n2, (by simp [wrap64]), ⟨by have := HI.out; omega⟩, ⟨by have h := HE1.out; rw [if_neg c1] at h; exact h⟩, ⟨by have h := HE2.out; rw [if_neg c2] at h; exact h⟩, ⟨IsA.below H1.out hb1⟩, ⟨IsA.below H2.out hb1⟩, ⟨below_step HB.out hb1⟩⟩
    · have cb : decide ((i : Int) < (l0.length : Int)) = false := decide_eq_false (by omega)
      have hi : i = l0.length := by have := HI.out; omega
      have hE1 := HE1.out
      have hE2 := HE2.out
      rw [List.drop_eq_nil_of_le (by omega), mk_] at hE1 hE2
      go_wp2
      refine bodyPost_end (results_none rfl _ _ _) rfl ?_
      exact ⟨rfl, by rw [← hE1]; exact H1.out, by rw [← hE2]; exact H2.out, HB.out⟩
theorem expOk_l_in (x : List S40) (hx : x.length ≤ 3000) : ∀ (k : Nat) (h : Int) (i : Nat), impl_ExpOk.l0 k h x (x.length : Int) (i : Int) = some true → ∀ j : Nat, i ≤ j → j < x.length → 0 ≤ (rd_T40 x (j : Int)).f1 ∧ (rd_T40 x (j : Int)).f1 < 256
  | 0 => fun h i H => by simp [impl_ExpOk.l0] at H
  | k + 1 => fun h i H j hij hj => by
    have hi : (i : Int) < (x.length : Int) := by omega
    rw [impl_ExpOk.l0, if_pos hi, if_pos (show 0 ≤ (i : Int) by omega), if_pos hi] at H
    obtain ⟨t, _, H⟩ := Option.bind_eq_some_iff.1 H
    have hw : wrap64 ((i : Int) + 1) = ((i + 1 : Nat) : Int) := by unfold wrap64; omega
    have next : ∀ h', impl_ExpOk.l0 k h' x (x.length : Int) (wrap64 ((i : Int) + 1)) = some true → 0 ≤ (rd_T40 x (i : Int)).f1 → (rd_T40 x (i : Int)).f1 < 256 → 0 ≤ (rd_T40 x (j : Int)).f1 ∧ (rd_T40 x (j : Int)).f1 < 256 := by
      intro h' H' q0 q1
      rw [hw] at H'
      by_cases e : i = j
      · subst e; exact ⟨q0, q1⟩
      · exact expOk_l_in x hx k h' (i + 1) H' j (by omega) hj
    by_cases c1 : t < 0
    · rw [if_pos c1] at H; cases H
    rw [if_neg c1] at H
    by_cases c2 : t > h
    · rw [if_pos c2] at H; cases H
    rw [if_neg c2] at H
    by_cases c3 : (rd_T40 x (i : Int)).f1 < 0
    · rw [if_pos c3] at H; cases H
    rw [if_neg c3] at H
    by_cases c4 : (rd_T40 x (i : Int)).f1 > 255
    · rw [if_pos c4] at H; cases H
    rw [if_neg c4] at H
    by_cases c5 : (rd_T40 x (i : Int)).f0 > 2
    · rw [if_pos c5] at H
      by_cases c6 : (rd_T40 x (i : Int)).f1 = 0
      · rw [if_pos c6] at H
        exact next _ H (by omega) (by omega)
      · rw [if_neg c6] at H; cases H
    · rw [if_neg c5] at H
      exact next _ H (by omega) (by omega)
theorem expOk_in {x : List S40} {k : Nat} (h : impl_ExpOk.f k x = some true) : x.length ≤ 3000 ∧ ∀ t ∈ x, 0 ≤ t.f1 ∧ t.f1 < 256 := by
  have hj : ∀ b, impl_ExpOk.j0 k x b = some true → b = false ∧ ∃ k', impl_ExpOk.l0 k' 0 x (x.length : Int) 0 = some true := by
    intro b H
    cases k with
    | zero => simp [impl_ExpOk.j0] at H
    | succ k =>
      rw [impl_ExpOk.j0] at H
      by_cases c : b = true
      · rw [if_pos c] at H; cases H
      · rw [if_neg c] at H
        exact ⟨by simpa using c, k, H⟩
  rw [impl_ExpOk.f] at h
  by_cases c : (x.length : Int) = 0
  · rw [if_pos c] at h
    cases (hj _ h).1
  · rw [if_neg c] at h
    obtain ⟨h1, k', h2⟩ := hj _ h
    have hl : x.length ≤ 3000 := by have := of_decide_eq_false h1; omega
    refine ⟨hl, fun t ht => ?_⟩
    obtain ⟨j, hj1, rfl⟩ := List.getElem_of_mem ht
    have := expOk_l_in x hl k' 0 0 h2 j (by omega) hj1
    simp only [rd_T40, Int.toNat_natCast, List.getD_eq_getElem?_getD, List.getElem?_eq_getElem hj1, Option.getD_some] at this
    exact this
/-- No flag. -/
def noF : List Bool := List.replicate 256 false
theorem allocMarks (ev : Operand → Value) (o : Oper) (W : World) (ho : o.op = .alloc 65) : (execOp ev o).run Try.prog W = .ok (.value (.pointer (some ⟨W.heap.size, 0, none⟩))) (W.alloc (.cells (arrC noF) 65 (0, 0))) := by
  go_simp
  rw [show Try.zeroCells65 = arrC noF from by kernel_rfl]
def impl_NamesIn.f (k : Nat) (l0 : List S40) : Option (List Int × List Int) := (impl_ExpOk.f k l0).bind fun t => if t = true then some (ris (mk_ 1 noF l0) 0, ris (mk_ 2 noF l0) 0) else some ([], [])
theorem impl_NamesIn.mono : ∀ a0 k, LeO (impl_NamesIn.f k a0) (impl_NamesIn.f (k + 1) a0) := by
  intro a0 k
  unfold impl_NamesIn.f
  exact LeO.bind (impl_ExpOk.mono a0 k) (fun _ => LeO.refl _)
set_option maxHeartbeats 8000000 in
set_option maxRecDepth 100000 in
theorem impl_NamesIn.calls (k : Nat) (A0 : Option Addr) (c0 : Nat) (l0 : List S40) (r1 : List Int) (r2 : List Int) (w : World) (hr0 : Kd.C k40 w A0 l0.length l0) (hc0 : l0.length ≤ c0) (h : impl_NamesIn.f k l0 = some (r1, r2)) :
    Calls Try.prog 29 #[.slice A0 l0.length c0] w fun e w' => ∃ v0_ v1_ : Value, e = .returned (.tuple #[v0_, v1_]) ∧ Kd.R (Kd.int .i64) 2 w' w.heap.size (fun k_ => some k_ ≠ (v1_ : Value).ownBlock) v0_ r1 ∧ Kd.R (Kd.int .i64) 2 w' w.heap.size (fun k_ => some k_ ≠ (v0_ : Value).ownBlock) v1_ r2 ∧ Below w.heap.size w w' := by
  have HR0 := Aside0.mk hr0
  have HC0 := Aside0.mk hc0
  have HB := Aside0.mk (Below.refl w.heap.size w)
  clear hr0 hc0
  rw [impl_NamesIn.f] at h
  obtain ⟨t, A2, h⟩ := Option.bind_eq_some_iff.1 h
  by_cases c : t = true
  · subst c
    rw [if_pos rfl] at h
    have HL := Aside0.mk (show l0.length ≤ 1048576 from Nat.le_trans (expOk_in A2).1 (by decide))
    have HIN := Aside0.mk (expOk_in A2).2
    have A2 := Aside0.mk A2
    simp only [Option.some.injEq, Prod.mk.injEq] at h
    obtain ⟨rfl, rfl⟩ := h
    go_enter Try.func29, Try.ntmps29
    go_wp2_with (first | ((with_reducible refine gate_callee (f := 25) rfl ?_); refine goesL_ (some 7) rfl rfl Try.func25 (by kernel_rfl) rfl #[.slice A0 l0.length c0] rfl (by (try simp only [List.map_toArray, List.map_cons, List.map_nil]); first | done | rfl) ?_; (with_reducible refine (impl_ExpOk.calls k _ _ l0 true _ ?side1 ?side2 A2.out).mono ?_); (case side1 => exact HR0.out); (case side2 => exact HC0.out); rintro e w1 ⟨rfl, hb⟩; refine ⟨_, rfl, ?_⟩; have n0_ := Aside0.mk (below_step (by repeat (first | (with_reducible first | exact HB.out | apply below_alloc | apply pw_below_drewN | apply below_drew1) | exact HB.out)) hb); clear HB; have HB := n0_; clear n0_ hb) | ((with_reducible refine gate_dst (N := 4) rfl ?_); refine box_event ?hg (N := 4) ?hd (cs := arrC noF) (t := 65) ?hr ?_; (case hd => rfl); (case hg => rfl); (case hr => exact allocMarks _ _ _ rfl); intro gb4 hg w4 hbox hb;  have n0_ := Aside0.mk (below_step (by repeat (first | (with_reducible first | exact HB.out | apply below_alloc | apply pw_below_drewN | apply below_drew1) | exact HB.out)) hb); have n1_ := Aside0.mk (show IsA w4 gb4 noF from ⟨hbox, rfl⟩); have n2_ := Aside0.mk ((by rw [hg]; exact (below_size (by repeat (first | (with_reducible first | exact HB.out | apply below_alloc | apply pw_below_drewN | apply below_drew1) | exact HB.out)))) : w.heap.size ≤ gb4); clear HB; have HB := n0_; have HA4 := n1_; have HG4 := n2_; clear n0_ n1_ n2_ hb hbox hg) | ((with_reducible refine gate_dst (N := 5) rfl ?_); refine box_event ?hg (N := 5) ?hd (cs := arrC noF) (t := 65) ?hr ?_; (case hd => rfl); (case hg => rfl); (case hr => exact allocMarks _ _ _ rfl); intro gb5 hg w5 hbox hb; have HN := Aside0.mk (show gb4 ≠ gb5 by rw [hg]; exact Nat.ne_of_lt (blk_lt HA4.out.1)); have n3_ := Aside0.mk (IsA.below HA4.out hb); clear HA4; have HA4 := n3_; clear n3_; have n0_ := Aside0.mk (below_step (by repeat (first | (with_reducible first | exact HB.out | apply below_alloc | apply pw_below_drewN | apply below_drew1) | exact HB.out)) hb); have n1_ := Aside0.mk (show IsA w5 gb5 noF from ⟨hbox, rfl⟩); have n2_ := Aside0.mk ((by rw [hg]; exact (below_size (by repeat (first | (with_reducible first | exact HB.out | apply below_alloc | apply pw_below_drewN | apply below_drew1) | exact HB.out)))) : w.heap.size ≤ gb5); clear HB; have HB := n0_; have HA5 := n1_; have HG5 := n2_; clear n0_ n1_ n2_ hb hbox hg) | ((with_reducible refine gate_callee (f := 61) rfl ?_); refine goesL_ (some 10) rfl rfl Try.func61 (by kernel_rfl) rfl #[.slice A0 l0.length c0, .pointer (some ⟨gb4, 0, none⟩), .pointer (some ⟨gb5, 0, none⟩)] rfl (by (try simp only [List.map_toArray, List.map_cons, List.map_nil]); first | done | rfl) ?_; (with_reducible refine (impl_markNames.calls _ _ l0 gb4 gb5 noF noF w _ ?s1 HR0.out HC0.out HG4.out HG5.out HN.out ?s2 ?s3 HL.out HIN.out).mono ?_); (case s1 => exact (by repeat (first | (with_reducible first | exact HB.out | apply below_alloc | apply pw_below_drewN | apply below_drew1) | exact HB.out))); (case s2 => exact HA4.out); (case s3 => exact HA5.out); rintro e w6 ⟨rfl, h1, h2, hb⟩; refine ⟨_, rfl, ?_⟩; clear HA4 HA5 HB; have HA4 := Aside0.mk h1; have HA5 := Aside0.mk h2; have HB := Aside0.mk hb; clear h1 h2 hb) | ((with_reducible refine gate_dst (N := 11) rfl ?_); (with_reducible refine gate_callee (f := 62) rfl ?_); refine goesL_ (some 11) rfl rfl Try.func62 (by kernel_rfl) rfl #[.pointer (some ⟨gb4, 0, none⟩)] rfl (by (try simp only [List.map_toArray, List.map_cons, List.map_nil]); first | done | rfl) ?_; (with_reducible refine (impl_marks_rising.calls gb4 _ _ HA4.out).mono ?_); rintro e w7 ⟨v1, rfl, ho, hb⟩; refine ⟨_, rfl, ?_⟩; have n0_ := Aside0.mk (below_step (by repeat (first | (with_reducible first | exact HB.out | apply below_alloc | apply pw_below_drewN | apply below_drew1) | exact HB.out)) hb); have n1_ := Aside0.mk (Kd.R_lower ho (below_size (by repeat (first | (with_reducible first | exact HB.out | apply below_alloc | apply pw_below_drewN | apply below_drew1) | exact HB.out)))); have n2_ := Aside0.mk (IsA.below HA5.out hb); clear HB HA5; have HB := n0_; have HO1 := n1_; have HA5 := n2_; clear n0_ n1_ n2_ hb ho) | ((with_reducible refine gate_dst (N := 12) rfl ?_); (with_reducible refine gate_callee (f := 62) rfl ?_); refine goesL_ (some 12) rfl rfl Try.func62 (by kernel_rfl) rfl #[.pointer (some ⟨gb5, 0, none⟩)] rfl (by (try simp only [List.map_toArray, List.map_cons, List.map_nil]); first | done | rfl) ?_; (with_reducible refine (impl_marks_rising.calls gb5 _ _ HA5.out).mono ?_); rintro e w8 ⟨v2, rfl, ho, hb⟩; refine ⟨_, rfl, ?_⟩; have n3_ := Aside0.mk (fun k_ (e_ : v2.ownBlock = some k_) => Kd.R_base ho k_ e_); have n0_ := Aside0.mk (below_step (by repeat (first | (with_reducible first | exact HB.out | apply below_alloc | apply pw_below_drewN | apply below_drew1) | exact HB.out)) hb); have n1_ := Aside0.mk (show Kd.R (Kd.int .i64) 2 w8 w.heap.size (fun k_ => some k_ ≠ v1.ownBlock) v2 _ from Kd.R_lower (Kd.R_mono (Kd.R_bound ho) (fun k_ hk e_ => Nat.not_le.2 (Kd.R_lt HO1.out k_ e_.symm) hk.2.1)) (below_size (by repeat (first | (with_reducible first | exact HB.out | apply below_alloc | apply pw_below_drewN | apply below_drew1) | exact HB.out)))); have n4_ := Aside0.mk (show Kd.R (Kd.int .i64) 2 w8 w.heap.size (fun k_ => some k_ ≠ v2.ownBlock) v1 _ from Kd.R_mono (Kd.R_below (Kd.R_bound HO1.out) hb) (fun k_ hk e_ => Nat.not_le.2 hk.2.2.1 (n3_.out k_ e_.symm))); clear HB HO1; have HB := n0_; have HO2 := n1_; have HO1 := n4_; clear n0_ n1_ n3_ n4_ hb ho))
    go_ret2
    exact ⟨_, _, rfl, HO1.out, HO2.out, HB.out⟩
  · rw [if_neg c] at h
    rw [Bool.not_eq_true] at c
    subst c
    have A2 := Aside0.mk A2
    simp only [Option.some.injEq, Prod.mk.injEq] at h
    obtain ⟨rfl, rfl⟩ := h
    go_enter Try.func29, Try.ntmps29
    go_wp2_with (first | ((with_reducible refine gate_callee (f := 25) rfl ?_); refine goesL_ (some 7) rfl rfl Try.func25 (by kernel_rfl) rfl #[.slice A0 l0.length c0] rfl (by (try simp only [List.map_toArray, List.map_cons, List.map_nil]); first | done | rfl) ?_; (with_reducible refine (impl_ExpOk.calls k _ _ l0 false _ ?side1 ?side2 A2.out).mono ?_); (case side1 => exact HR0.out); (case side2 => exact HC0.out); rintro e w1 ⟨rfl, hb⟩; refine ⟨_, rfl, ?_⟩; have n0_ := Aside0.mk (below_step (by repeat (first | (with_reducible first | exact HB.out | apply below_alloc | apply pw_below_drewN | apply below_drew1) | exact HB.out)) hb); clear HB; have HB := n0_; clear n0_ hb))
    go_ret2
    exact ⟨_, _, rfl, Kd.R_nil _ _ _ _ _, Kd.R_nil _ _ _ _ _, by repeat (first | (with_reducible first | exact HB.out | apply below_alloc | apply pw_below_drewN | apply below_drew1) | exact HB.out)⟩

/-! ### laws_eqInt64S: function 30 -/
def laws_eqInt64S.l0 : Nat → List Int → List Int → Int → Option (Bool)
  | 0, _, _, _ => none
  | k + 1, x0, x1, x5 => if x5 < (x0.length : Int) then (if 0 ≤ x5 then (if x5 < (x1.length : Int) then (if (rd x0 x5) = (rd x1 x5) then (laws_eqInt64S.l0 k x0 x1 (wrap64 (x5 + 1))) else (some false)) else (none)) else (none)) else (some true)
def laws_eqInt64S.f (k : Nat) (l0 : List Int) (l1 : List Int) : Option (Bool) := if (l0.length : Int) = (l1.length : Int) then (laws_eqInt64S.l0 k l0 l1 0) else (some false)
theorem laws_eqInt64S.mono_l : ∀ k, (∀ y0 y1 y2, LeO (laws_eqInt64S.l0 k y0 y1 y2) (laws_eqInt64S.l0 (k + 1) y0 y1 y2))
  | 0 => fun _ _ _ r h => by simp [laws_eqInt64S.l0] at h
  | k + 1 => by
    have ih0 := laws_eqInt64S.mono_l k
    · intro y0 y1 y2
      unfold laws_eqInt64S.l0
      repeat' first
      | (with_reducible exact ih0 _ _ _)
      | (with_reducible exact LeO.refl _)
      | (with_reducible exact LeO.none _)
      | (with_reducible refine LeO.ite ?_ ?_)
      | (with_reducible refine LeO.bind ?_ (fun _ => ?_))
      | exact ih0 _ _ _
      | exact LeO.none _
      | refine LeO.ite ?_ ?_
      | refine LeO.bind ?_ (fun _ => ?_)
theorem laws_eqInt64S.mono : ∀ a0 a1 k, LeO (laws_eqInt64S.f k a0 a1) (laws_eqInt64S.f (k + 1) a0 a1) := by
  intro a0 a1 k
  have ih0 := laws_eqInt64S.mono_l k
  unfold laws_eqInt64S.f
  repeat' first
      | (with_reducible exact ih0 _ _ _)
      | (with_reducible exact LeO.refl _)
      | (with_reducible exact LeO.none _)
      | (with_reducible refine LeO.ite ?_ ?_)
      | (with_reducible refine LeO.bind ?_ (fun _ => ?_))
      | exact ih0 _ _ _
      | exact LeO.none _
      | refine LeO.ite ?_ ?_
      | refine LeO.bind ?_ (fun _ => ?_)
set_option maxHeartbeats 8000000 in
set_option maxRecDepth 100000 in
theorem laws_eqInt64S.calls (k : Nat) (A0 : Option Addr) (c0 : Nat) (l0 : List Int) (A1 : Option Addr) (c1 : Nat) (l1 : List Int) (r : Bool) (w : World) (hr0 : Kd.C (Kd.int .i64) w A0 l0.length l0) (hc0 : l0.length ≤ c0) (hr1 : Kd.C (Kd.int .i64) w A1 l1.length l1) (hc1 : l1.length ≤ c1) (h : laws_eqInt64S.f k l0 l1 = some r) :
    Calls Try.prog 30 #[.slice A0 l0.length c0, .slice A1 l1.length c1] w fun e w' => e = .returned (.bool r) ∧ Drawn0 w w' := by
  have HR0 := Aside0.mk hr0
  have HC0 := Aside0.mk hc0
  clear hr0 hc0
  have HR1 := Aside0.mk hr1
  have HC1 := Aside0.mk hc1
  clear hr1 hc1
  have H : (if (l0.length : Int) = (l1.length : Int) then (laws_eqInt64S.l0 k l0 l1 0) else (some false)) = some r := h
  clear h
  by_cases c3 : (l0.length : Int) = (l1.length : Int)
  · rw [if_pos c3] at H
    have c3b0 : ((l0.length : Int) == (l1.length : Int)) = true := beq_iff_eq.mpr c3
    have c3b1 : ((l0.length : Int) != (l1.length : Int)) = false := bne_eq_false_iff_eq.mpr c3
    have c3b2 : (l0.length == l1.length) = true := by first | simpa using c3 | (simp at c3 ⊢; omega)
    clear c3
    have H' := Aside0.mk H
    clear H
    go_enter Try.func30, Try.ntmps30
    go_wp2
    repeat (go_quiet (fail); try go_wp2)
    go_loopg [5] k (fun kq v5 w' => ∃ (x5_1 : Int), v5 = .int .i64 x5_1 ∧ Aside0 (laws_eqInt64S.l0 kq l0 l1 x5_1 = some r) ∧ Aside0 (kq ≤ k) ∧ Drawn0 w w')
    case atStart => exact ⟨(0), (by first | rfl | (simp; done) | (simp [*]; done)), H', ⟨Nat.le_refl _⟩, by repeat (first | exact Drawn0.refl _ | apply Drawn0.step)⟩
    case round =>
      clear H'
      try clear c1
      try clear p2
      try clear c3
      try clear c3b0
      try clear c3b1
      try clear c3b2
      obtain ⟨x5_1, rfl, HA, HK1, ⟨m1, rfl⟩⟩ := hrel
      cases gk with
      | zero => exact absurd HA.out (by simp [laws_eqInt64S.l0])
      | succ k1 =>
        have H := HA.out
        clear HA
        simp only [laws_eqInt64S.l0] at H
        by_cases c4 : x5_1 < (l0.length : Int)
        · rw [if_pos c4] at H
          have c4b0 : decide (x5_1 < (l0.length : Int)) = true := decide_eq_true c4
          clear c4
          by_cases c5 : 0 ≤ x5_1
          · rw [if_pos c5] at H
            have c5b0 : decide (0 ≤ x5_1) = true := decide_eq_true c5
            clear c5
            by_cases c6 : x5_1 < (l1.length : Int)
            · rw [if_pos c6] at H
              have c6b0 : decide (x5_1 < (l1.length : Int)) = true := decide_eq_true c6
              clear c6
              by_cases c7 : (rd l0 x5_1) = (rd l1 x5_1)
              · rw [if_pos c7] at H
                have c7b0 : ((rd l0 x5_1) == (rd l1 x5_1)) = true := beq_iff_eq.mpr c7
                have c7b1 : ((rd l0 x5_1) != (rd l1 x5_1)) = false := bne_eq_false_iff_eq.mpr c7
                clear c7
                have H' := Aside0.mk H
                clear H
                have p178 : 0 ≤ (x5_1 : Int) := of_decide_eq_true (by first | (with_reducible assumption) | assumption)
                have q178 : x5_1 < (l0.length : Int) := of_decide_eq_true (by first | (with_reducible assumption) | assumption)
                obtain ⟨ad178, e178, hx178_0⟩ := Kd.at_int HR0.out x5_1 p178 q178
                cases e178
                replace p178 := eq_true p178
                replace q178 := eq_true q178
                have p179 : 0 ≤ (x5_1 : Int) := of_decide_eq_true (by first | (with_reducible assumption) | assumption)
                have q179 : x5_1 < (l1.length : Int) := of_decide_eq_true (by first | (with_reducible assumption) | assumption)
                obtain ⟨ad179, e179, hx179_0⟩ := Kd.at_int HR1.out x5_1 p179 q179
                cases e179
                replace p179 := eq_true p179
                replace q179 := eq_true q179
                go_wp2
                repeat (go_quiet (fail); try go_wp2)
                go_roundg k1
                case measure => have := HK1.out; omega
                case rel => exact ⟨(wrap64 (x5_1 + 1)), (by first | rfl | (simp; done) | (simp [*]; done)), H', ⟨by have := HK1.out; omega⟩, by repeat (first | exact Drawn0.refl _ | apply Drawn0.step)⟩
              · rw [if_neg c7] at H
                have c7b0 : ((rd l0 x5_1) == (rd l1 x5_1)) = false := beq_eq_false_iff_ne.mpr c7
                have c7b1 : ((rd l0 x5_1) != (rd l1 x5_1)) = true := bne_iff_ne.mpr c7
                obtain rfl := Option.some.inj H
                have p178 : 0 ≤ (x5_1 : Int) := of_decide_eq_true (by first | (with_reducible assumption) | assumption)
                have q178 : x5_1 < (l0.length : Int) := of_decide_eq_true (by first | (with_reducible assumption) | assumption)
                obtain ⟨ad178, e178, hx178_0⟩ := Kd.at_int HR0.out x5_1 p178 q178
                cases e178
                replace p178 := eq_true p178
                replace q178 := eq_true q178
                have p179 : 0 ≤ (x5_1 : Int) := of_decide_eq_true (by first | (with_reducible assumption) | assumption)
                have q179 : x5_1 < (l1.length : Int) := of_decide_eq_true (by first | (with_reducible assumption) | assumption)
                obtain ⟨ad179, e179, hx179_0⟩ := Kd.at_int HR1.out x5_1 p179 q179
                cases e179
                replace p179 := eq_true p179
                replace q179 := eq_true q179
                go_wp2
                repeat (go_quiet (fail); try go_wp2)
                go_ret
                exact ⟨by first | rfl | (simp; done) | (simp [*]; done), by repeat (first | exact Drawn0.refl _ | apply Drawn0.step)⟩
            · rw [if_neg c6] at H
              exact absurd H (by simp)
          · rw [if_neg c5] at H
            exact absurd H (by simp)
        · rw [if_neg c4] at H
          have c4b0 : decide (x5_1 < (l0.length : Int)) = false := decide_eq_false c4
          clear c4
          obtain rfl := Option.some.inj H
          go_wp2
          repeat (go_quiet (fail); try go_wp2)
          go_ret
          exact ⟨by first | rfl | (simp; done) | (simp [*]; done), by repeat (first | exact Drawn0.refl _ | apply Drawn0.step)⟩
  · rw [if_neg c3] at H
    have c3b0 : ((l0.length : Int) == (l1.length : Int)) = false := beq_eq_false_iff_ne.mpr c3
    have c3b1 : ((l0.length : Int) != (l1.length : Int)) = true := bne_iff_ne.mpr c3
    have c3b2 : (l0.length == l1.length) = false := by first | simpa using c3 | (simp at c3 ⊢; omega)
    obtain rfl := Option.some.inj H
    go_enter Try.func30, Try.ntmps30
    go_wp2
    repeat (go_quiet (fail); try go_wp2)
    go_ret
    exact ⟨by first | rfl | (simp; done) | (simp [*]; done), by repeat (first | exact Drawn0.refl _ | apply Drawn0.step)⟩

/-! ### laws_markInt64S: function 31 -/
def laws_markInt64S.l0 : Nat → List Int → Int → Int → Option (Int × List Int)
  | 0, _, _, _ => none
  | k + 1, x0, x1, x5 => if x5 < (x0.length : Int) then (if 0 ≤ x5 then (laws_markInt64S.l0 k (x0.set (x5 : Int).toNat x1) (wrap64 (x1 + 1)) (wrap64 (x5 + 1))) else (none)) else (some (x1, x0))
def laws_markInt64S.f (k : Nat) (l0 : List Int) (a1 : Int) : Option (Int × List Int) := laws_markInt64S.l0 k l0 a1 0
theorem laws_markInt64S.mono_l : ∀ k, (∀ y0 y1 y2, LeO (laws_markInt64S.l0 k y0 y1 y2) (laws_markInt64S.l0 (k + 1) y0 y1 y2))
  | 0 => fun _ _ _ r h => by simp [laws_markInt64S.l0] at h
  | k + 1 => by
    have ih0 := laws_markInt64S.mono_l k
    · intro y0 y1 y2
      unfold laws_markInt64S.l0
      repeat' first
      | (with_reducible exact ih0 _ _ _)
      | (with_reducible exact LeO.refl _)
      | (with_reducible exact LeO.none _)
      | (with_reducible refine LeO.ite ?_ ?_)
      | (with_reducible refine LeO.bind ?_ (fun _ => ?_))
      | exact ih0 _ _ _
      | exact LeO.none _
      | refine LeO.ite ?_ ?_
      | refine LeO.bind ?_ (fun _ => ?_)
theorem laws_markInt64S.mono : ∀ a0 a1 k, LeO (laws_markInt64S.f k a0 a1) (laws_markInt64S.f (k + 1) a0 a1) := by
  intro a0 a1 k
  have ih0 := laws_markInt64S.mono_l k
  unfold laws_markInt64S.f
  repeat' first
      | (with_reducible exact ih0 _ _ _)
      | (with_reducible exact LeO.refl _)
      | (with_reducible exact LeO.none _)
      | (with_reducible refine LeO.ite ?_ ?_)
      | (with_reducible refine LeO.bind ?_ (fun _ => ?_))
      | exact ih0 _ _ _
      | exact LeO.none _
      | refine LeO.ite ?_ ?_
      | refine LeO.bind ?_ (fun _ => ?_)
set_option maxHeartbeats 8000000 in
set_option maxRecDepth 100000 in
theorem laws_markInt64S.calls (k : Nat) (P0_ : Nat → Prop) (u9000_ : Value) (l0 : List Int) (a1 : Int) (r1 : Int) (r2 : List Int) (w0 w : World) (hB : Below w0.heap.size w0 w) (ho0 : Kd.R (Kd.int .i64) 2 w w0.heap.size P0_ u9000_ l0) (h : laws_markInt64S.f k l0 a1 = some (r1, r2)) :
    Calls Try.prog 31 #[u9000_, .int .i64 a1] w fun e w' => e = .returned (.int .i64 r1) ∧ Kd.R (Kd.int .i64) 2 w' w0.heap.size (fun k_ => (P0_ k_ ∨ w.heap.size ≤ k_)) u9000_ r2 ∧ Below w0.heap.size w0 w' ∧ Kept w w' (fun k_ => P0_ k_) := by
  have HO0 := Aside0.mk (show Kd.R (Kd.int .i64) 2 w w0.heap.size (fun k_ => (P0_ k_ ∨ w.heap.size ≤ k_)) u9000_ l0 from Kd.R_mono ho0 (fun k_ hk => (.inl hk)))
  have HK := Aside0.mk (Kept.refl w (fun k_ => P0_ k_))
  have HW0 := Aside0.mk hB.size
  have HB := Aside0.mk hB
  clear hB
  have H : (laws_markInt64S.l0 k l0 a1 0) = some (r1, r2) := h
  clear h
  have H' := Aside0.mk H
  clear H
  go_enter Try.func31, Try.ntmps31
  go_wp2
  go_loopg [1, 5] k (fun kq v1 v5 w' => ∃ (x0_1 : List Int) (x1_1 : Int) (x5_1 : Int), v1 = .int .i64 x1_1 ∧ v5 = .int .i64 x5_1 ∧ Aside0 (laws_markInt64S.l0 kq x0_1 x1_1 x5_1 = some (r1, r2)) ∧ Aside0 (kq ≤ k) ∧ Aside0 (Kd.R (Kd.int .i64) 2 w' w0.heap.size (fun k_ => (P0_ k_ ∨ w.heap.size ≤ k_)) u9000_ x0_1) ∧ Aside0 (Kept w w' (fun k_ => P0_ k_)) ∧ Aside0 (Below w0.heap.size w0 w'))
  case atStart => exact ⟨(l0), (a1), (0), (by first | rfl | (simp; done) | (simp [*]; done)), (by first | rfl | (simp; done) | (simp [*]; done)), H', ⟨Nat.le_refl _⟩, ⟨by (with_reducible repeat (first | apply Kd.R_alloc | apply Kd.R_drewN | apply Kd.R_drew)); exact HO0.out⟩, ⟨by repeat (first | (with_reducible first | exact HK.out | apply Kept.alloc | apply Kept.drewN | apply Kept.drew) | exact HK.out)⟩, ⟨by repeat (first | (with_reducible first | exact HB.out | apply below_alloc | apply pw_below_drewN | apply below_drew1) | exact HB.out)⟩⟩
  case round =>
    clear H'
    try clear p2
    obtain ⟨x0_1, x1_1, x5_1, rfl, rfl, HA, HK1, HO_0, HK, HB⟩ := hrel
    cases gk with
    | zero => exact absurd HA.out (by simp [laws_markInt64S.l0])
    | succ k1 =>
      have H := HA.out
      clear HA
      simp only [laws_markInt64S.l0] at H
      by_cases c3 : x5_1 < (x0_1.length : Int)
      · rw [if_pos c3] at H
        have c3b0 : decide (x5_1 < (x0_1.length : Int)) = true := decide_eq_true c3
        clear c3
        by_cases c4 : 0 ≤ x5_1
        · rw [if_pos c4] at H
          have c4b0 : decide (0 ≤ x5_1) = true := decide_eq_true c4
          clear c4
          obtain ⟨y180, hy180⟩ : ∃ y_ : List Int, y_ = (x0_1.set (x5_1 : Int).toNat x1_1) := ⟨_, rfl⟩
          replace H : (laws_markInt64S.l0 k1 y180 (wrap64 (x1_1 + 1)) (wrap64 (x5_1 + 1))) = some (r1, r2) := by first | (rw [hy180]; with_reducible exact H) | (have H2_ := (Option.bind_some _ _).symm.trans H; rw [hy180]; with_reducible exact H2_) | (have H2_ := (Option.bind_some _ _).symm.trans H; with_reducible exact H2_) | with_reducible exact H | (rw [hy180]; exact H) | exact H
          have Ny180 := Aside0.mk hy180
          clear hy180
          have H' := Aside0.mk H
          clear H
          obtain ⟨Ao6, co6, eo6⟩ := Kd.R_slice HO_0.out
          subst eo6
          have p5 : 0 ≤ (x5_1 : Int) := of_decide_eq_true (by first | (with_reducible assumption) | assumption)
          have q5 : (x5_1 : Int) < ((x0_1.length : Int) : Int) := of_decide_eq_true (by first | (with_reducible assumption) | assumption)
          obtain ⟨go5, co5, eo5, gb5, gl5, cl5, HG5⟩ := Kd.R_form HO_0.out (by omega)
          (first | cases eo5 | (injection eo5 with ea_ en_ ec_; (first | subst ea_ | (injection ea_ with ea_; subst ea_)); subst ec_; clear en_))
          have GB5 := Aside0.mk gb5
          have GG5 := Aside0.mk HG5
          clear gb5 gl5 HG5
          have HMgo5 := Aside0.mk (show (P0_ go5 ∨ w.heap.size ≤ go5) from (HO_0.out.1 _ rfl))
          obtain ⟨hx5_0, hf5_0⟩ := Kd.R_celln 0 HO_0.out (x5_1 : Int) p5 q5
          replace p5 := eq_true p5
          replace q5 := eq_true q5
          have HP7 := Kd.R_putg HO_0.out (x5_1 : Int) x1_1
          go_wp2_with (first | ((with_reducible refine gate_store (t := 2) (p := 15) rfl ?_); refine store_event (t := 2) (p := 15) (v := ?vo_w8) (w1 := (wr.setCell ⟨go5, (x5_1 : Int).toNat, none⟩ (.int .i64 x1_1))) ?hg ?ho ?hn ?hr ?_; (case ho => rfl); (case hg => rfl); (case hn => rfl); (case hr => first | (go_simp; done) | (go_simp; rfl)); intro w8 hw; have hg : wr.grownBy w8 (some go5) := (by rw [hw]; exact HP7.2); have hp_ : Kd.R (Kd.int .i64) 2 w8 w0.heap.size (fun k_ => (P0_ k_ ∨ w.heap.size ≤ k_)) (.slice (some ⟨go5, 0, none⟩) x0_1.length co6) y180 := (by rw [hw, Ny180.out]; exact HP7.1); clear HP7; have n0_ := Aside0.mk (hp_); have n1_ := Aside0.mk ((by rw [hw]; exact below_set (HB.out) GB5.out : Below w0.heap.size w0 w8)); have n2_ := Aside0.mk (Kept.of_grown (S := (fun k_ => P0_ k_)) hg (by repeat (first | (with_reducible first | exact HK.out | apply Kept.alloc | apply Kept.drewN | apply Kept.drew) | exact HK.out)) (fun k_ e_ => (HO_0.out.1 k_ e_))); clear HO_0; clear HB; clear HK; have HO_0 := n0_; have HB := n1_; have HK := n2_; clear n0_ n1_ n2_; clear hg hw hp_))
          go_roundg k1
          case measure => have := HK1.out; omega
          case rel => exact ⟨(y180), (wrap64 (x1_1 + 1)), (wrap64 (x5_1 + 1)), (by first | rfl | (simp; done) | (simp [*]; done)), (by first | rfl | (simp; done) | (simp [*]; done)), H', ⟨by have := HK1.out; omega⟩, ⟨by (with_reducible repeat (first | apply Kd.R_alloc | apply Kd.R_drewN | apply Kd.R_drew)); exact HO_0.out⟩, ⟨by repeat (first | (with_reducible first | exact HK.out | apply Kept.alloc | apply Kept.drewN | apply Kept.drew) | exact HK.out)⟩, ⟨by repeat (first | (with_reducible first | exact HB.out | apply below_alloc | apply pw_below_drewN | apply below_drew1) | exact HB.out)⟩⟩
        · rw [if_neg c4] at H
          exact absurd H (by simp)
      · rw [if_neg c3] at H
        have c3b0 : decide (x5_1 < (x0_1.length : Int)) = false := decide_eq_false c3
        clear c3
        simp only [Option.some.injEq, Prod.mk.injEq] at H
        obtain ⟨rfl, rfl⟩ := H
        obtain ⟨Ao9, co9, eo9⟩ := Kd.R_slice HO_0.out
        subst eo9
        go_wp2
        go_ret
        exact ⟨by first | rfl | (simp [errW_none, errW_some] <;> rfl) | (simp [*, errW_none, errW_some] <;> rfl), by (with_reducible repeat (first | apply Kd.R_alloc | apply Kd.R_drewN | apply Kd.R_drew)); exact HO_0.out, by repeat (first | (with_reducible first | exact HB.out | apply below_alloc | apply pw_below_drewN | apply below_drew1) | exact HB.out), by repeat (first | (with_reducible first | exact HK.out | apply Kept.alloc | apply Kept.drewN | apply Kept.drew) | exact HK.out)⟩

/-! ### laws_heldInt64S: function 32 -/
def laws_heldInt64S.l0 : Nat → List Int → Int → Int → Option (Int)
  | 0, _, _, _ => none
  | k + 1, x0, x1, x5 => if x5 < (x0.length : Int) then (if 0 ≤ x5 then (if (rd x0 x5) = x1 then (laws_heldInt64S.l0 k x0 (wrap64 (x1 + 1)) (wrap64 (x5 + 1))) else (some (-1))) else (none)) else (some x1)
def laws_heldInt64S.f (k : Nat) (l0 : List Int) (a1 : Int) : Option (Int) := laws_heldInt64S.l0 k l0 a1 0
theorem laws_heldInt64S.mono_l : ∀ k, (∀ y0 y1 y2, LeO (laws_heldInt64S.l0 k y0 y1 y2) (laws_heldInt64S.l0 (k + 1) y0 y1 y2))
  | 0 => fun _ _ _ r h => by simp [laws_heldInt64S.l0] at h
  | k + 1 => by
    have ih0 := laws_heldInt64S.mono_l k
    · intro y0 y1 y2
      unfold laws_heldInt64S.l0
      repeat' first
      | (with_reducible exact ih0 _ _ _)
      | (with_reducible exact LeO.refl _)
      | (with_reducible exact LeO.none _)
      | (with_reducible refine LeO.ite ?_ ?_)
      | (with_reducible refine LeO.bind ?_ (fun _ => ?_))
      | exact ih0 _ _ _
      | exact LeO.none _
      | refine LeO.ite ?_ ?_
      | refine LeO.bind ?_ (fun _ => ?_)
theorem laws_heldInt64S.mono : ∀ a0 a1 k, LeO (laws_heldInt64S.f k a0 a1) (laws_heldInt64S.f (k + 1) a0 a1) := by
  intro a0 a1 k
  have ih0 := laws_heldInt64S.mono_l k
  unfold laws_heldInt64S.f
  repeat' first
      | (with_reducible exact ih0 _ _ _)
      | (with_reducible exact LeO.refl _)
      | (with_reducible exact LeO.none _)
      | (with_reducible refine LeO.ite ?_ ?_)
      | (with_reducible refine LeO.bind ?_ (fun _ => ?_))
      | exact ih0 _ _ _
      | exact LeO.none _
      | refine LeO.ite ?_ ?_
      | refine LeO.bind ?_ (fun _ => ?_)
set_option maxHeartbeats 8000000 in
set_option maxRecDepth 100000 in
theorem laws_heldInt64S.calls (k : Nat) (A0 : Option Addr) (c0 : Nat) (l0 : List Int) (a1 : Int) (r : Int) (w : World) (hr0 : Kd.C (Kd.int .i64) w A0 l0.length l0) (hc0 : l0.length ≤ c0) (h : laws_heldInt64S.f k l0 a1 = some r) :
    Calls Try.prog 32 #[.slice A0 l0.length c0, .int .i64 a1] w fun e w' => e = .returned (.int .i64 r) ∧ Drawn0 w w' := by
  have HR0 := Aside0.mk hr0
  have HC0 := Aside0.mk hc0
  clear hr0 hc0
  have H : (laws_heldInt64S.l0 k l0 a1 0) = some r := h
  clear h
  have H' := Aside0.mk H
  clear H
  go_enter Try.func32, Try.ntmps32
  go_wp2
  go_loopg [1, 5] k (fun kq v1 v5 w' => ∃ (x1_1 : Int) (x5_1 : Int), v1 = .int .i64 x1_1 ∧ v5 = .int .i64 x5_1 ∧ Aside0 (laws_heldInt64S.l0 kq l0 x1_1 x5_1 = some r) ∧ Aside0 (kq ≤ k) ∧ Drawn0 w w')
  case atStart => exact ⟨(a1), (0), (by first | rfl | (simp; done) | (simp [*]; done)), (by first | rfl | (simp; done) | (simp [*]; done)), H', ⟨Nat.le_refl _⟩, by repeat (first | exact Drawn0.refl _ | apply Drawn0.step)⟩
  case round =>
    clear H'
    try clear p2
    obtain ⟨x1_1, x5_1, rfl, rfl, HA, HK1, ⟨m1, rfl⟩⟩ := hrel
    cases gk with
    | zero => exact absurd HA.out (by simp [laws_heldInt64S.l0])
    | succ k1 =>
      have H := HA.out
      clear HA
      simp only [laws_heldInt64S.l0] at H
      by_cases c3 : x5_1 < (l0.length : Int)
      · rw [if_pos c3] at H
        have c3b0 : decide (x5_1 < (l0.length : Int)) = true := decide_eq_true c3
        clear c3
        by_cases c4 : 0 ≤ x5_1
        · rw [if_pos c4] at H
          have c4b0 : decide (0 ≤ x5_1) = true := decide_eq_true c4
          clear c4
          by_cases c5 : (rd l0 x5_1) = x1_1
          · rw [if_pos c5] at H
            have c5b0 : ((rd l0 x5_1) == x1_1) = true := beq_iff_eq.mpr c5
            have c5b1 : ((rd l0 x5_1) != x1_1) = false := bne_eq_false_iff_eq.mpr c5
            clear c5
            have H' := Aside0.mk H
            clear H
            have p181 : 0 ≤ (x5_1 : Int) := of_decide_eq_true (by first | (with_reducible assumption) | assumption)
            have q181 : x5_1 < (l0.length : Int) := of_decide_eq_true (by first | (with_reducible assumption) | assumption)
            obtain ⟨ad181, e181, hx181_0⟩ := Kd.at_int HR0.out x5_1 p181 q181
            cases e181
            replace p181 := eq_true p181
            replace q181 := eq_true q181
            go_wp2
            go_roundg k1
            case measure => have := HK1.out; omega
            case rel => exact ⟨(wrap64 (x1_1 + 1)), (wrap64 (x5_1 + 1)), (by first | rfl | (simp; done) | (simp [*]; done)), (by first | rfl | (simp; done) | (simp [*]; done)), H', ⟨by have := HK1.out; omega⟩, by repeat (first | exact Drawn0.refl _ | apply Drawn0.step)⟩
          · rw [if_neg c5] at H
            have c5b0 : ((rd l0 x5_1) == x1_1) = false := beq_eq_false_iff_ne.mpr c5
            have c5b1 : ((rd l0 x5_1) != x1_1) = true := bne_iff_ne.mpr c5
            obtain rfl := Option.some.inj H
            have p181 : 0 ≤ (x5_1 : Int) := of_decide_eq_true (by first | (with_reducible assumption) | assumption)
            have q181 : x5_1 < (l0.length : Int) := of_decide_eq_true (by first | (with_reducible assumption) | assumption)
            obtain ⟨ad181, e181, hx181_0⟩ := Kd.at_int HR0.out x5_1 p181 q181
            cases e181
            replace p181 := eq_true p181
            replace q181 := eq_true q181
            go_wp2
            go_ret
            exact ⟨by first | rfl | (simp; done) | (simp [*]; done), by repeat (first | exact Drawn0.refl _ | apply Drawn0.step)⟩
        · rw [if_neg c4] at H
          exact absurd H (by simp)
      · rw [if_neg c3] at H
        have c3b0 : decide (x5_1 < (l0.length : Int)) = false := decide_eq_false c3
        clear c3
        obtain rfl := Option.some.inj H
        go_wp2
        go_ret
        exact ⟨by first | rfl | (simp; done) | (simp [*]; done), by repeat (first | exact Drawn0.refl _ | apply Drawn0.step)⟩

end Go.Proofs.Ytlaliacfonfflaa.PFnExactNamesIn

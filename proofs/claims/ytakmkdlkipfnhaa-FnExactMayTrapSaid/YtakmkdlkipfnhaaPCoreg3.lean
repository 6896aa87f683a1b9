/- The walks of the functions that the laws come to, part 3: turned out of the kit's print, and mended where that fell. -/
import Derived.Test.YtakmkdlkipfnhaaPCoreg
import Derived.Test.YtakmkdlkipfnhaaPCoreg0
import Derived.Test.YtakmkdlkipfnhaaPCoreg1
import Derived.Test.YtakmkdlkipfnhaaPCoreg2
namespace Go.Proofs.Ytakmkdlkipfnhaa.PCore
open Go.RowKit Go.Proofs.YtakmkdlkipfnhaaW.PrintWords Go.Proofs.YtakmkdlkipfnhaaW.PrintLast Go.Proofs.YtakmkdlkipfnhaaW.PrintMore
attribute [local go_sem] max2_int min2_int max_two min_two max_three min_three max_four min_four   -- for this text's walks alone
set_option linter.unusedVariables false
set_option maxHeartbeats 8000000
set_option maxRecDepth 100000
set_option linter.unusedSimpArgs false

theorem ψ31 {P : Prop} (h : P := by have := HK1.out; have := HJ4.out; first | omega | exact Nat.le_refl _) : P := h
/-! ### spec_l3Stmts: function 132 -/
def spec_l3Stmts.l0 : Nat → Int → Int → List (S106) → List (S106) → Int → List Int → List (S114) → Option (Bool)
 | 0, _, _, _, _, _, _, _ => none
 | k + 1, x3, x221000, x221001, x221002, x221003, x221004, x221005 => if x3 < (x221005.length : Int) then (if 0 ≤ x3 then ((spec_l3Stmt.f k x221000 x221001 x221002 x221003 x221004 x221005 ((rd_T114 x221005 x3).f0) ((rd_T114 x221005 x3).f1) ((rd_T114 x221005 x3).f2) ((rd_T114 x221005 x3).f3)).bind fun t225 => (if t225 = true then (spec_l3Stmts.l0 k (wrap64 (x3 + 1)) x221000 x221001 x221002 x221003 x221004 x221005) else (some false))) else (none)) else (some true)
def spec_l3Stmts.f (k : Nat) (a0_0 : Int) (l0_1 : List (S106)) (l0_2 : List (S106)) (a0_3 : Int) (l0_4 : List Int) (l0_5 : List (S114)) : Option (Bool) := spec_l3Stmts.l0 k 0 a0_0 l0_1 l0_2 a0_3 l0_4 l0_5
def spec_l3Stmts.T4 : Bool × List (List Nat × List Nat) := (true, [([], []), ([], []), ([1], [1]), ([], []), ([2, 3], [2, 3]), ([4], [4]), ([0, 5], [0, 5]), ([6], [6])])
def spec_l3Stmts.B4 : List Nat := [0, 0, 2, 0, 14, 30, 63, 127]
theorem spec_l3Stmts.tab4 : rtab .any (opsOf Try.f132 4) = spec_l3Stmts.T4 := by kernel_rfl
theorem spec_l3Stmts.bits4 : waitsOk spec_l3Stmts.T4.2 spec_l3Stmts.B4 = true := by kernel_rfl
theorem τ23 {P : Prop} (h : P := by
 first | obtain rfl := Option.some.inj H | (have H' := Aside0.mk H; clear H)
 obtain ⟨hczB10_0, hczB10_1, hczB10_2, hczB10_3, hczB10_4, hczB10_5, hfzB10_0, hfzB10_1, hfzB10_2, hfzB10_3, hfzB10_4, hfzB10_5⟩ := cells6 BK10.out
 try go_wp2
 have q := n2_ (blk_drew BK10.out) (below_drew1 HB.out)
 clear BK10 HB
 obtain ⟨BK10, HB⟩ := q
 have p224 : 0 ≤ (x3_1 : Int) := of_decide_eq_true ψ5
 have q224 : x3_1 < (l0_5.length : Int) := of_decide_eq_true ψ5
 obtain ⟨ad224, A224_2, c224_2, A224_3, c224_3, e224, hx224_0, hx224_1, hx224_2, hx224_3, hl224_2, hi224_2, hl224_3, hi224_3⟩ := at_T114 HR0_5.out x3_1 p224 q224
 have hw224_3 := hx224_3
 have hw224_2 := hx224_2
 have hw224_1 := hx224_1
 have hw224_0 := hx224_0
 cases e224
 replace hx224_0 := cB HB hx224_0
 replace hx224_1 := cB HB hx224_1
 replace hx224_2 := cB HB hx224_2
 replace hx224_3 := cB HB hx224_3
 have q := n4_ hi224_2 hl224_2 hi224_3 hl224_3
 clear hi224_2 hl224_2 hi224_3 hl224_3
 obtain ⟨HR224_2, HC224_2, HR224_3, HC224_3⟩ := q
 replace p224 := eq_true p224
 replace q224 := eq_true q224
 refine start_ (n := 8) (S := fun w' => w'.cell? ⟨gb10, 0, none⟩ = some (.int .i64 a0_0) ∧ w'.cell? ⟨gb10, 1, none⟩ = some (.slice A0_1 l0_1.length c0_1) ∧ w'.cell? ⟨gb10, 2, none⟩ = some (.slice A0_2 l0_2.length c0_2) ∧ w'.cell? ⟨gb10, 3, none⟩ = some (.int .i64 a0_3) ∧ w'.cell? ⟨gb10, 4, none⟩ = some (.slice A0_4 l0_4.length c0_4) ∧ w'.cell? ⟨gb10, 5, none⟩ = some (.slice (some ad224) l0_5.length c0_5) ∧ w'.cell? (ad224.add ((x3_1).toNat * 4)) = some (.int .i64 ((rd_T114 l0_5 x3_1).f0)) ∧ w'.cell? ⟨(ad224.add ((x3_1).toNat * 4)).block, (ad224.add ((x3_1).toNat * 4)).off + 1, none⟩ = some (.int .i64 ((rd_T114 l0_5 x3_1).f1)) ∧ w'.cell? ⟨(ad224.add ((x3_1).toNat * 4)).block, (ad224.add ((x3_1).toNat * 4)).off + 2, none⟩ = some (.slice A224_2 ((rd_T114 l0_5 x3_1).f2).length c224_2) ∧ w'.cell? ⟨(ad224.add ((x3_1).toNat * 4)).block, (ad224.add ((x3_1).toNat * 4)).off + 3, none⟩ = some (.slice A224_3 ((rd_T114 l0_5 x3_1).f3).length c224_3)) (ds := []) #[false, false, false, false, false, false, false, false] ψ12 rfl rfl ⟨(blk_cell BK10.out 0).trans rfl, (blk_cell BK10.out 1).trans rfl, (blk_cell BK10.out 2).trans rfl, (blk_cell BK10.out 3).trans rfl, (blk_cell BK10.out 4).trans rfl, (blk_cell BK10.out 5).trans rfl, ((HB.out.cell (World.block_lt_of_cell? w _ hw224_0)).trans hw224_0), ((HB.out.cell (World.block_lt_of_cell? w _ hw224_1)).trans hw224_1), ((HB.out.cell (World.block_lt_of_cell? w _ hw224_2)).trans hw224_2), ((HB.out.cell (World.block_lt_of_cell? w _ hw224_3)).trans hw224_3)⟩ (fun hHeld => ?_); refine with_tabW spec_l3Stmts.tab4 spec_l3Stmts.bits4 (fun HT_ HW_ => ?_)
 generalize wr.drew = w1_ at BK10 HB HR224_2 HR224_3 hx224_0 hx224_1 hx224_2 hx224_3 hHeld ⊢
 refine rP 1 12 ?_; refine rP 3 14 ?_; refine rT 0 11 ?_; refine rT 2 13 ?_; refine rP 4 15 ?_; refine rT 5 16 ?_
 refine one_ (i := 6) (N := some 17) #[true, true, true, true, true, true, true, false] rfl rfl (one_of HT_.out ψ12) ψ13 (fun K hK => ?_)
 refine goes_ Try.func146 ψ12 rfl #[.agg #[.int .i64 a0_0, .slice A0_1 l0_1.length c0_1, .slice A0_2 l0_2.length c0_2, .int .i64 a0_3, .slice A0_4 l0_4.length c0_4, .slice (some ad224) l0_5.length c0_5], .agg #[.int .i64 ((rd_T114 l0_5 x3_1).f0), .int .i64 ((rd_T114 l0_5 x3_1).f1), .slice A224_2 ((rd_T114 l0_5 x3_1).f2).length c224_2, .slice A224_3 ((rd_T114 l0_5 x3_1).f3).length c224_3]] ψ14 rfl rfl ψ15 ?_
 with_reducible refine (spec_l3Stmt.calls k1 a0_0 _ _ l0_1 _ _ l0_2 a0_3 _ _ l0_4 _ _ l0_5 ((rd_T114 l0_5 x3_1).f0) ((rd_T114 l0_5 x3_1).f1) _ _ ((rd_T114 l0_5 x3_1).f2) _ _ ((rd_T114 l0_5 x3_1).f3) _ _ ?_ ?_ ?_ ?_ ?_ ?_ ?_ ?_ ?_ ?_ ?_ ?_ A5.out).mono ?_
 exact ψ9; exact HC0_1.out; exact ψ3; exact HC0_2.out; exact ψ16; exact HC0_4.out; exact ψ17; exact HC0_5.out; exact (by repeat (first | exact (Kd.C_below HR224_2.out HB.out) | (with_reducible refine Kd.C_alloc ?_ _) | (with_reducible refine Kd.C_drewN ?_ _) | (with_reducible refine Kd.C_drew ?_))); exact HC224_2.out; exact (by repeat (first | exact (Kd.C_below HR224_3.out HB.out) | (with_reducible refine Kd.C_alloc ?_ _) | (with_reducible refine Kd.C_drewN ?_ _) | (with_reducible refine Kd.C_drew ?_))); exact HC224_3.out
 rintro e w2_ ⟨rfl, hb⟩
 refine ⟨_, rfl, ?_⟩
 have q := n2_ (blk_below (g := gb10) ψ10 hb) (below_step ψ2 hb)
 clear BK10 HB
 obtain ⟨BK10, HB⟩ := q
 (try clear hb)
 refine hK.out _ _ ⟨(blk_cell BK10.out 0).trans rfl, (blk_cell BK10.out 1).trans rfl, (blk_cell BK10.out 2).trans rfl, (blk_cell BK10.out 3).trans rfl, (blk_cell BK10.out 4).trans rfl, (blk_cell BK10.out 5).trans rfl, ((HB.out.cell (World.block_lt_of_cell? w _ hw224_0)).trans hw224_0), ((HB.out.cell (World.block_lt_of_cell? w _ hw224_1)).trans hw224_1), ((HB.out.cell (World.block_lt_of_cell? w _ hw224_2)).trans hw224_2), ((HB.out.cell (World.block_lt_of_cell? w _ hw224_3)).trans hw224_3)⟩ (fun hHeld => ?_)
 clear hK K
 refine rN 17 ?_; refine rP 7 18 ?_
 refine done_ (done_of HT_.out ψ12) ?_
 try go_wp2
 first | (go_roundg k1; (case measure => have := HK1.out; omega); (case rel => exact ⟨(wrap64 (x3_1 + 1)), ψ7, H', ⟨ψ8⟩, ⟨ψ10⟩, ⟨ψ2⟩⟩)) | (go_ret; exact ⟨ψ4, ψ2⟩)) : P := h
theorem spec_l3Stmts.calls (k : Nat) (a0_0 : Int) (A0_1 : Option Addr) (c0_1 : Nat) (l0_1 : List (S106)) (A0_2 : Option Addr) (c0_2 : Nat) (l0_2 : List (S106)) (a0_3 : Int) (A0_4 : Option Addr) (c0_4 : Nat) (l0_4 : List Int) (A0_5 : Option Addr) (c0_5 : Nat) (l0_5 : List (S114)) (r : Bool) (w : World) (hr0_1 : Kd.C k106 w A0_1 l0_1.length l0_1) (hc0_1 : l0_1.length ≤ c0_1) (hr0_2 : Kd.C k106 w A0_2 l0_2.length l0_2) (hc0_2 : l0_2.length ≤ c0_2) (hr0_4 : Kd.C (Kd.int .i64) w A0_4 l0_4.length l0_4) (hc0_4 : l0_4.length ≤ c0_4) (hr0_5 : Kd.C k114 w A0_5 l0_5.length l0_5) (hc0_5 : l0_5.length ≤ c0_5) (h : spec_l3Stmts.f k a0_0 l0_1 l0_2 a0_3 l0_4 l0_5 = some r) :
 Calls Try.prog 132 #[.agg #[.int .i64 a0_0, .slice A0_1 l0_1.length c0_1, .slice A0_2 l0_2.length c0_2, .int .i64 a0_3, .slice A0_4 l0_4.length c0_4, .slice A0_5 l0_5.length c0_5]] w fun e w' => e = .returned (.bool r) ∧ Below w.heap.size w w' := by
 have hu36 := Try.underlying36
 have hu114 := Try.underlying114
 have q := n8_ hr0_1 hc0_1 hr0_2 hc0_2 hr0_4 hc0_4 hr0_5 hc0_5
 clear hr0_1 hc0_1 hr0_2 hc0_2 hr0_4 hc0_4 hr0_5 hc0_5
 obtain ⟨HR0_1, HC0_1, HR0_2, HC0_2, HR0_4, HC0_4, HR0_5, HC0_5⟩ := q
 have HB := Aside0.mk (Below.refl w.heap.size w)
 unfold spec_l3Stmts.f at h
 have H := h
 clear h
 have H' := Aside0.mk H
 clear H
 go_enter Try.func132, Try.ntmps132
 go_wp2_with (first | ((with_reducible refine gate_dst (N := 1) rfl ?_); refine bE 1 #[.int .i64 a0_0, .slice A0_1 l0_1.length c0_1, .slice A0_2 l0_2.length c0_2, .int .i64 a0_3, .slice A0_4 l0_4.length c0_4, .slice A0_5 l0_5.length c0_5] 36 ?_; intro gb10 hg w2 hbox hb; have q := n4_ (below_step ψ2 hb) (hbox) ((ψ113 : w.heap.size ≤ gb10)) ((ψ113 : w.heap.size ≤ gb10)); clear HB; obtain ⟨HB, BK10, GW10, GE10⟩ := q; clear hb hbox hg))
 go_loopg [3] k (fun kq v3 w' => ∃ (x3_1 : Int), v3 = .int .i64 x3_1 ∧ Aside0 (spec_l3Stmts.l0 kq x3_1 a0_0 l0_1 l0_2 a0_3 l0_4 l0_5 = some r) ∧ Aside0 (kq ≤ k) ∧ Aside0 (w'.heap[gb10]? = some (.cells #[.int .i64 a0_0, (.slice A0_1 l0_1.length c0_1), (.slice A0_2 l0_2.length c0_2), .int .i64 a0_3, (.slice A0_4 l0_4.length c0_4), (.slice A0_5 l0_5.length c0_5)] 36 (0, 0))) ∧ Aside0 (Below w.heap.size w w'))
 case atStart => exact ⟨(0), ψ7, H', ⟨Nat.le_refl _⟩, ⟨ψ10⟩, ⟨ψ2⟩⟩
 case round =>
  clear H'
  obtain ⟨x3_1, rfl, HA, HK1, BK10, HB⟩ := hrel
  cases gk with
  | zero => exact absurd HA.out (by simp [spec_l3Stmts.l0])
  | succ k1 =>
   have H := HA.out
   clear HA
   simp only [spec_l3Stmts.l0] at H
   replace H := ifD H; rcases H with ⟨c3b0, H⟩ | ⟨c3b0, H⟩
   ·replace H := ifN H; obtain ⟨c4b0, H⟩ := H
    replace H := bS H; obtain ⟨t225, A5, H⟩ := H
    replace H := ifB H; rcases H with ⟨rfl, H⟩ | ⟨rfl, H⟩
    ·exact τ23
    ·exact τ23
   ·obtain rfl := Option.some.inj H
    obtain ⟨y13_0, y13_1, y13_2, y13_3, y13_4, y13_5, u13_0, u13_1, u13_2, u13_3, u13_4, u13_5⟩ := cells6 BK10.out
    go_wp2
    go_ret
    exact ⟨ψ4, ψ2⟩

/-! ### spec_l3Is: function 151 -/
def spec_l3Is.f (l0 : List (S114)) (a1 : Int) (a2 : Int) : Option (Bool) := (spec_l1In.f a1 0 (wrap64 ((l0.length : Int) - 1))).bind fun t226 => (if t226 = true then (if 0 ≤ a1 then (if a1 < (l0.length : Int) then (some (((rd_T114 l0 a1).f0) == a2)) else (none)) else (none)) else (some false))
theorem τ24 {P : Prop} (h : P := by
 obtain rfl := Option.some.inj H
 go_enter Try.func151, Try.ntmps151
 go_wp2_with (first | ((with_reducible refine gate_callee (f := 79) rfl ?_); refine gL 11 Try.func79 #[.int .i64 a1, .int .i64 0, .int .i64 (wrap64 ((l0.length : Int) - 1))] ?_; (with_reducible refine (spec_l1In.calls a1 0 (wrap64 ((l0.length : Int) - 1)) _ _ A4.out).mono ?_); rintro e w' ⟨rfl, ⟨nd, rfl⟩⟩; refine ⟨_, rfl, ?_⟩; (try (have p227 : 0 ≤ (a1 : Int) := of_decide_eq_true ψ5; have q227 : a1 < (l0.length : Int) := of_decide_eq_true ψ5; obtain ⟨ad227, A227_2, c227_2, A227_3, c227_3, e227, hx227_0, hx227_1, hx227_2, hx227_3, hl227_2, hi227_2, hl227_3, hi227_3⟩ := at_T114 HR0.out a1 p227 q227; cases e227; have q := n4_ hi227_2 hl227_2 hi227_3 hl227_3; clear hi227_2 hl227_2 hi227_3 hl227_3; obtain ⟨HR227_2, HC227_2, HR227_3, HC227_3⟩ := q; replace p227 := eq_true p227; replace q227 := eq_true q227))))
 go_ret
 exact ⟨ψ0, ψ1⟩) : P := h
theorem spec_l3Is.calls (A0 : Option Addr) (c0 : Nat) (l0 : List (S114)) (a1 : Int) (a2 : Int) (r : Bool) (w : World) (hr0 : Kd.C k114 w A0 l0.length l0) (hc0 : l0.length ≤ c0) (h : spec_l3Is.f l0 a1 a2 = some r) :
 Calls Try.prog 151 #[.slice A0 l0.length c0, .int .i64 a1, .int .i64 a2] w fun e w' => e = .returned (.bool r) ∧ Drawn0 w w' := by
 have q := n2_ hr0 hc0
 clear hr0 hc0
 obtain ⟨HR0, HC0⟩ := q
 unfold spec_l3Is.f at h
 have H := h
 clear h
 replace H := bS H; obtain ⟨t226, A4, H⟩ := H
 replace H := ifB H; rcases H with ⟨rfl, H⟩ | ⟨rfl, H⟩
 ·replace H := ifN H; obtain ⟨c6b0, H⟩ := H
  replace H := ifN H; obtain ⟨c7b0, H⟩ := H
  exact τ24
 ·exact τ24

/-! ### spec_l3End: function 147 -/

/-! ### spec_l3Block: function 133 -/
mutual
def spec_l3End.f : Nat → List (S114) → Int → Option (Int × Int)
 | 0, _, _ => none
 | k + 1, l0, a1 => (spec_l3Block.f k l0 (wrap64 (a1 + 1))).bind fun t241 => (if 0 ≤ a1 then (if a1 < (l0.length : Int) then (if ((rd_T114 l0 a1).f0) = 5 then ((spec_l3Is.f l0 t241 4).bind fun t243 => (if t243 = true then (some ((-1), t241)) else (some ((-1), (-1))))) else (if ((rd_T114 l0 a1).f0) = 2 then ((spec_l3Is.f l0 t241 4).bind fun t244 => (if t244 = true then (some ((-1), t241)) else ((spec_l3Is.f l0 t241 3).bind fun t245 => (if t245 = true then ((spec_l3Block.f k l0 (wrap64 (t241 + 1))).bind fun t246 => ((spec_l3Is.f l0 t246 4).bind fun t247 => (if t247 = true then (some (t241, t246)) else (some ((-1), (-1)))))) else (some ((-1), (-1))))))) else (if ((rd_T114 l0 a1).f0) = 8 then ((spec_l3Is.f l0 t241 9).bind fun t248 => (if t248 = true then ((spec_l3Block.f k l0 (wrap64 (t241 + 1))).bind fun t249 => ((spec_l3Is.f l0 t249 4).bind fun t250 => (if t250 = true then (some (t241, t249)) else (some ((-1), (-1)))))) else (some ((-1), (-1))))) else (some ((-1), (-1)))))) else (none)) else (none))
def spec_l3Block.l0 : Nat → List (S114) → Int → Option (Int)
 | 0, _, _ => none
 | k + 1, x0, x1 => if x1 < (x0.length : Int) then (if 0 ≤ x1 then (if ((rd_T114 x0 x1).f0) = 3 then (spec_l3Block.j1 k x0 x1 ((rd_T114 x0 x1).f0) (((rd_T114 x0 x1).f0) == 3)) else (if ((rd_T114 x0 x1).f0) = 9 then (spec_l3Block.j1 k x0 x1 ((rd_T114 x0 x1).f0) (((rd_T114 x0 x1).f0) == 9)) else (spec_l3Block.j1 k x0 x1 ((rd_T114 x0 x1).f0) (((rd_T114 x0 x1).f0) == 4)))) else (none)) else (some x1)
def spec_l3Block.j1 : Nat → List (S114) → Int → Int → Bool → Option (Int)
 | 0, _, _, _, _ => none
 | k + 1, x0, x1, x15, x18 => if x18 = true then (some x1) else (if x15 = 2 then (spec_l3Block.j2 k x0 x1 (x15 == 2)) else (if x15 = 5 then (spec_l3Block.j2 k x0 x1 (x15 == 5)) else (spec_l3Block.j2 k x0 x1 (x15 == 8))))
def spec_l3Block.j2 : Nat → List (S114) → Int → Bool → Option (Int)
 | 0, _, _, _ => none
 | k + 1, x0, x1, x23 => if x23 = true then ((spec_l3End.f k x0 x1).bind fun bt252 => (if bt252.2 < 0 then (some (-1)) else (spec_l3Block.l0 k x0 (wrap64 (bt252.2 + 1))))) else (spec_l3Block.l0 k x0 (wrap64 (x1 + 1)))
def spec_l3Block.f : Nat → List (S114) → Int → Option (Int)
 | 0, _, _ => none
 | k + 1, l0, a1 => spec_l3Block.l0 k l0 a1
end

theorem τ25 {P : Prop} (h : P := by
 obtain ⟨rfl, rfl⟩ := H
 go_enter Try.func147, Try.ntmps147
 go_wp2_with (first | ((with_reducible refine gate_callee (f := 133) rfl ?_); refine gL 12 Try.func133 #[.slice A0 l0.length c0, .int .i64 (wrap64 (a1 + 1))] ?_; (with_reducible refine (ihm k ψ21 _ _ l0 (wrap64 (a1 + 1)) t241 _ ?_ ?_ A3.out).mono ?_); exact ψ30; exact HC0.out; rintro e w' ⟨rfl, ⟨nd, rfl⟩⟩; refine ⟨_, rfl, ?_⟩; have p242 : 0 ≤ (a1 : Int) := of_decide_eq_true ψ5; have q242 : a1 < (l0.length : Int) := of_decide_eq_true ψ5; obtain ⟨ad242, A242_2, c242_2, A242_3, c242_3, e242, hx242_0, hx242_1, hx242_2, hx242_3, hl242_2, hi242_2, hl242_3, hi242_3⟩ := at_T114 HR0.out a1 p242 q242; cases e242; have q := n4_ hi242_2 hl242_2 hi242_3 hl242_3; clear hi242_2 hl242_2 hi242_3 hl242_3; obtain ⟨HR242_2, HC242_2, HR242_3, HC242_3⟩ := q; replace p242 := eq_true p242; replace q242 := eq_true q242) | ((with_reducible refine gate_callee (f := 151) rfl ?_); refine gL 22 Try.func151 #[.slice (some ad242) l0.length c0, .int .i64 t241, .int .i64 4] ?_; (with_reducible refine (spec_l3Is.calls _ _ l0 t241 4 _ _ ?_ ?_ A7.out).mono ?_); exact ψ30; exact HC0.out; rintro e w' ⟨rfl, ⟨nd, rfl⟩⟩; refine ⟨_, rfl, ?_⟩) | ((with_reducible refine gate_callee (f := 151) rfl ?_); refine gL 28 Try.func151 #[.slice (some ad242) l0.length c0, .int .i64 t241, .int .i64 4] ?_; (with_reducible refine (spec_l3Is.calls _ _ l0 t241 4 _ _ ?_ ?_ A10.out).mono ?_); exact ψ30; exact HC0.out; rintro e w' ⟨rfl, ⟨nd, rfl⟩⟩; refine ⟨_, rfl, ?_⟩) | ((with_reducible refine gate_callee (f := 151) rfl ?_); refine gL 32 Try.func151 #[.slice (some ad242) l0.length c0, .int .i64 t241, .int .i64 3] ?_; (with_reducible refine (spec_l3Is.calls _ _ l0 t241 3 _ _ ?_ ?_ A12.out).mono ?_); exact ψ30; exact HC0.out; rintro e w' ⟨rfl, ⟨nd, rfl⟩⟩; refine ⟨_, rfl, ?_⟩) | ((with_reducible refine gate_callee (f := 133) rfl ?_); refine gL 36 Try.func133 #[.slice (some ad242) l0.length c0, .int .i64 (wrap64 (t241 + 1))] ?_; (with_reducible refine (ihm k ψ21 _ _ l0 (wrap64 (t241 + 1)) t246 _ ?_ ?_ A14.out).mono ?_); exact ψ30; exact HC0.out; rintro e w' ⟨rfl, ⟨nd, rfl⟩⟩; refine ⟨_, rfl, ?_⟩) | ((with_reducible refine gate_callee (f := 151) rfl ?_); refine gL 39 Try.func151 #[.slice (some ad242) l0.length c0, .int .i64 t246, .int .i64 4] ?_; (with_reducible refine (spec_l3Is.calls _ _ l0 t246 4 _ _ ?_ ?_ A15.out).mono ?_); exact ψ30; exact HC0.out; rintro e w' ⟨rfl, ⟨nd, rfl⟩⟩; refine ⟨_, rfl, ?_⟩) | ((with_reducible refine gate_callee (f := 151) rfl ?_); refine gL 46 Try.func151 #[.slice (some ad242) l0.length c0, .int .i64 t241, .int .i64 9] ?_; (with_reducible refine (spec_l3Is.calls _ _ l0 t241 9 _ _ ?_ ?_ A18.out).mono ?_); exact ψ30; exact HC0.out; rintro e w' ⟨rfl, ⟨nd, rfl⟩⟩; refine ⟨_, rfl, ?_⟩) | ((with_reducible refine gate_callee (f := 133) rfl ?_); refine gL 50 Try.func133 #[.slice (some ad242) l0.length c0, .int .i64 (wrap64 (t241 + 1))] ?_; (with_reducible refine (ihm k ψ21 _ _ l0 (wrap64 (t241 + 1)) t249 _ ?_ ?_ A20.out).mono ?_); exact ψ30; exact HC0.out; rintro e w' ⟨rfl, ⟨nd, rfl⟩⟩; refine ⟨_, rfl, ?_⟩) | ((with_reducible refine gate_callee (f := 151) rfl ?_); refine gL 53 Try.func151 #[.slice (some ad242) l0.length c0, .int .i64 t249, .int .i64 4] ?_; (with_reducible refine (spec_l3Is.calls _ _ l0 t249 4 _ _ ?_ ?_ A21.out).mono ?_); exact ψ30; exact HC0.out; rintro e w' ⟨rfl, ⟨nd, rfl⟩⟩; refine ⟨_, rfl, ?_⟩))
 go_ret2
 exact ⟨ψ0, ψ1⟩) : P := h
theorem spec_l3End.calls_of (k : Nat) (ihm : ∀ m_, m_ < k → (∀ (A0 : Option Addr) (c0 : Nat) (l0 : List (S114)) (a1 : Int) (r : Int) (w : World) (hr0 : Kd.C k114 w A0 l0.length l0) (hc0 : l0.length ≤ c0) (h : spec_l3Block.f m_ l0 a1 = some r),
 Calls Try.prog 133 #[.slice A0 l0.length c0, .int .i64 a1] w fun e w' => e = .returned (.int .i64 r) ∧ Drawn0 w w')) : ∀ (A0 : Option Addr) (c0 : Nat) (l0 : List (S114)) (a1 : Int) (r1 : Int) (r2 : Int) (w : World) (hr0 : Kd.C k114 w A0 l0.length l0) (hc0 : l0.length ≤ c0) (h : spec_l3End.f k l0 a1 = some (r1, r2)),
 Calls Try.prog 147 #[.slice A0 l0.length c0, .int .i64 a1] w fun e w' => e = .returned (.tuple #[.int .i64 r1, .int .i64 r2]) ∧ Drawn0 w w' := by
 intro A0 c0 l0 a1 r1 r2 w hr0 hc0 h
 cases k with
 | zero => exact absurd h (by simp [spec_l3End.f])
 | succ k =>
 simp only [spec_l3End.f] at h
 have q := n2_ hr0 hc0
 clear hr0 hc0
 obtain ⟨HR0, HC0⟩ := q
 have H := h
 clear h
 replace H := bS H; obtain ⟨t241, A3, H⟩ := H
 replace H := ifN H; obtain ⟨c4b0, H⟩ := H
 replace H := ifN H; obtain ⟨c5b0, H⟩ := H
 replace H := ifF H; rcases H with ⟨c6b0, c6b1, H⟩ | ⟨c6b0, c6b1, c6, H⟩
 ·replace H := bS H; obtain ⟨t243, A7, H⟩ := H
  replace H := ifB H; rcases H with ⟨rfl, H⟩ | ⟨rfl, H⟩
  ·simp only [Option.some.injEq, Prod.mk.injEq] at H
   exact τ25
  ·simp only [Option.some.injEq, Prod.mk.injEq] at H
   exact τ25
 ·by_cases c9 : ((rd_T114 l0 a1).f0) = 2
  ·rw [if_pos c9] at H
   have c9b0 : (((rd_T114 l0 a1).f0) == 2) = true := beq_iff_eq.mpr c9
   have c9b1 : (((rd_T114 l0 a1).f0) != 2) = false := bne_eq_false_iff_eq.mpr c9
   clear c9
   replace H := bS H; obtain ⟨t244, A10, H⟩ := H
   replace H := ifB H; rcases H with ⟨rfl, H⟩ | ⟨rfl, H⟩
   ·simp only [Option.some.injEq, Prod.mk.injEq] at H
    exact τ25
   ·replace H := bS H; obtain ⟨t245, A12, H⟩ := H
    replace H := ifB H; rcases H with ⟨rfl, H⟩ | ⟨rfl, H⟩
    ·replace H := bS H; obtain ⟨t246, A14, H⟩ := H
     replace H := bS H; obtain ⟨t247, A15, H⟩ := H
     replace H := ifB H; rcases H with ⟨rfl, H⟩ | ⟨rfl, H⟩
     ·simp only [Option.some.injEq, Prod.mk.injEq] at H
      exact τ25
     ·simp only [Option.some.injEq, Prod.mk.injEq] at H
      exact τ25
    ·simp only [Option.some.injEq, Prod.mk.injEq] at H
     exact τ25
  ·rw [if_neg c9] at H
   have c9b0 : (((rd_T114 l0 a1).f0) == 2) = false := beq_eq_false_iff_ne.mpr c9
   have c9b1 : (((rd_T114 l0 a1).f0) != 2) = true := bne_iff_ne.mpr c9
   replace H := ifF H; rcases H with ⟨c17b0, c17b1, H⟩ | ⟨c17b0, c17b1, c17, H⟩
   ·replace H := bS H; obtain ⟨t248, A18, H⟩ := H
    replace H := ifB H; rcases H with ⟨rfl, H⟩ | ⟨rfl, H⟩
    ·replace H := bS H; obtain ⟨t249, A20, H⟩ := H
     replace H := bS H; obtain ⟨t250, A21, H⟩ := H
     replace H := ifB H; rcases H with ⟨rfl, H⟩ | ⟨rfl, H⟩
     ·simp only [Option.some.injEq, Prod.mk.injEq] at H
      exact τ25
     ·simp only [Option.some.injEq, Prod.mk.injEq] at H
      exact τ25
    ·simp only [Option.some.injEq, Prod.mk.injEq] at H
     exact τ25
   ·simp only [Option.some.injEq, Prod.mk.injEq] at H
    exact τ25

theorem τ26 {P : Prop} (h : P := by
 have H' := Aside0.mk H
 clear H
 go_wp2
 first | (go_meet; (case rel => exact ⟨_, ((((rd_T114 l0 x1_1).f0) == 2)), ψ7, H', ⟨ψ31⟩, ψ1⟩)) | (go_meet; (case rel => exact ⟨_, ((((rd_T114 l0 x1_1).f0) == 5)), ψ7, H', ⟨ψ31⟩, ψ1⟩)) | (go_meet; (case rel => exact ⟨_, ((((rd_T114 l0 x1_1).f0) == 8)), ψ7, H', ⟨ψ31⟩, ψ1⟩))) : P := h
theorem τ27 {P : Prop} (h : P := by
 first | obtain rfl := Option.some.inj H | (have H' := Aside0.mk H; clear H)
 go_wp2_with (first | ((with_reducible refine gate_callee (f := 147) rfl ?_); refine gL 30 Try.func147 #[.slice (some ad251) l0.length c0, .int .i64 x1_1] ?_; (with_reducible refine (spec_l3End.calls_of kj8 (fun m_ hm_ => ih m_ (by have := HK1.out; have := HJ4.out; have := HJ8.out; have := hm_; omega)) _ _ l0 x1_1 t252 t253 _ ?_ ?_ A13.out).mono ?_); exact ψ30; exact HC0.out; rintro e w' ⟨rfl, ⟨nd, rfl⟩⟩; refine ⟨_, rfl, ?_⟩))
 first | (go_ret; exact ⟨ψ0, ψ1⟩) | (go_roundg kj8; (case measure => have := HK1.out; have := HJ4.out; have := HJ8.out; omega); (case rel => exact ⟨(wrap64 (t253 + 1)), ψ7, H', ⟨by have := HK1.out; have := HJ4.out; have := HJ8.out; omega⟩, ψ1⟩)) | (go_roundg kj8; (case measure => have := HK1.out; have := HJ4.out; have := HJ8.out; omega); (case rel => exact ⟨(wrap64 (x1_1 + 1)), ψ7, H', ⟨by have := HK1.out; have := HJ4.out; have := HJ8.out; omega⟩, ψ1⟩))) : P := h
theorem spec_l3Block.calls (k : Nat) : ∀ (A0 : Option Addr) (c0 : Nat) (l0 : List (S114)) (a1 : Int) (r : Int) (w : World) (hr0 : Kd.C k114 w A0 l0.length l0) (hc0 : l0.length ≤ c0) (h : spec_l3Block.f k l0 a1 = some r),
 Calls Try.prog 133 #[.slice A0 l0.length c0, .int .i64 a1] w fun e w' => e = .returned (.int .i64 r) ∧ Drawn0 w w' := by
 induction k using Nat.strongRecOn with
 | _ k ih =>
 intro A0 c0 l0 a1 r w hr0 hc0 h
 cases k with
 | zero => exact absurd h (by simp [spec_l3Block.f])
 | succ k =>
 simp only [spec_l3Block.f] at h
 have q := n2_ hr0 hc0
 clear hr0 hc0
 obtain ⟨HR0, HC0⟩ := q
 have H := h
 clear h
 have H' := Aside0.mk H
 clear H
 go_enter Try.func133, Try.ntmps133
 go_wp2
 go_loopg [1] k (fun kq v1 w' => ∃ (x1_1 : Int), v1 = .int .i64 x1_1 ∧ Aside0 (spec_l3Block.l0 kq l0 x1_1 = some r) ∧ Aside0 (kq ≤ k) ∧ Drawn0 w w')
 case atStart => exact ⟨(a1), ψ7, H', ⟨Nat.le_refl _⟩, ψ1⟩
 case round =>
  clear H'
  obtain ⟨x1_1, rfl, HA, HK1, ⟨m1, rfl⟩⟩ := hrel
  cases gk with
  | zero => exact absurd HA.out (by simp [spec_l3Block.l0])
  | succ k1 =>
   have H := HA.out
   clear HA
   simp only [spec_l3Block.l0] at H
   replace H := ifD H; rcases H with ⟨c3b0, H⟩ | ⟨c3b0, H⟩
   ·replace H := ifN H; obtain ⟨c4b0, H⟩ := H
    have HC5 := Aside0.mk H
    clear H
    have p251 : 0 ≤ (x1_1 : Int) := of_decide_eq_true ψ5
    have q251 : x1_1 < (l0.length : Int) := of_decide_eq_true ψ5
    obtain ⟨ad251, A251_2, c251_2, A251_3, c251_3, e251, hx251_0, hx251_1, hx251_2, hx251_3, hl251_2, hi251_2, hl251_3, hi251_3⟩ := at_T114 HR0.out x1_1 p251 q251
    cases e251
    have q := n4_ hi251_2 hl251_2 hi251_3 hl251_3
    clear hi251_2 hl251_2 hi251_3 hl251_3
    obtain ⟨HR251_2, HC251_2, HR251_3, HC251_3⟩ := q
    replace p251 := eq_true p251
    replace q251 := eq_true q251
    go_upto_if 18 with (fail)
    go_cut [18] (fun v18 wc => ∃ (kq : Nat) (x18_4 : Bool), v18 = .bool x18_4 ∧ Aside0 (spec_l3Block.j1 kq l0 x1_1 ((rd_T114 l0 x1_1).f0) x18_4 = some r) ∧ Aside0 (kq ≤ k1) ∧ Drawn0 w wc)
    case first =>
     have H := HC5.out
     clear HC5
     replace H := ifF H; rcases H with ⟨c6b0, c6b1, H⟩ | ⟨c6b0, c6b1, c6, H⟩
     ·(first | rw [c6b0] | rw [c6b1] | (simp only [i64_w, i32_w]; rw [c6b0]) | skip)
      have H' := Aside0.mk H
      clear H
      go_wp2
      go_meet
      case rel => exact ⟨_, ((((rd_T114 l0 x1_1).f0) == 3)), ψ7, H', ⟨ψ18⟩, ψ1⟩
     ·(first | rw [c6b0] | rw [c6b1] | (simp only [i64_w, i32_w]; rw [c6b0]) | skip)
      replace H := ifF H; rcases H with ⟨c7b0, c7b1, H⟩ | ⟨c7b0, c7b1, c7, H⟩
      ·have H' := Aside0.mk H
       clear H
       go_wp2
       go_meet
       case rel => exact ⟨_, ((((rd_T114 l0 x1_1).f0) == 9)), ψ7, H', ⟨ψ18⟩, ψ1⟩
      ·have H' := Aside0.mk H
       clear H
       go_wp2
       go_meet
       case rel => exact ⟨_, ((((rd_T114 l0 x1_1).f0) == 4)), ψ7, H', ⟨ψ18⟩, ψ1⟩
    case rest =>
     clear HC5
     try clear c3
     try clear c3b0
     try clear c4
     try clear c4b0
     try clear c6
     try clear c6b0
     try clear c6b1
     try clear c7
     try clear c7b0
     try clear c7b1
     try clear hx251_0
     try clear hx251_1
     try clear hx251_2
     try clear hx251_3
     try clear p251
     try clear q251
     obtain ⟨kq, x18_4, rfl, HA, HJ4, ⟨mc4, rfl⟩⟩ := hcut
     cases kq with
     | zero => exact absurd HA.out (by simp [spec_l3Block.j1])
     | succ kj4 =>
      have H := HA.out
      clear HA
      simp only [spec_l3Block.j1] at H
      replace H := ifB H; rcases H with ⟨rfl, H⟩ | ⟨rfl, H⟩
      ·obtain rfl := Option.some.inj H
       go_wp2
       go_ret
       exact ⟨ψ0, ψ1⟩
      ·have HC9 := Aside0.mk H
       clear H
       go_upto_if 23 with (fail)
       go_cut [23] (fun v23 wc => ∃ (kq : Nat) (x23_8 : Bool), v23 = .bool x23_8 ∧ Aside0 (spec_l3Block.j2 kq l0 x1_1 x23_8 = some r) ∧ Aside0 (kq ≤ kj4) ∧ Drawn0 w wc)
       case first =>
        have H := HC9.out
        clear HC9
        replace H := ifF H; rcases H with ⟨c10b0, c10b1, H⟩ | ⟨c10b0, c10b1, c10, H⟩
        ·(first | rw [c10b0] | rw [c10b1] | (simp only [i64_w, i32_w]; rw [c10b0]) | skip)
         exact τ26
        ·(first | rw [c10b0] | rw [c10b1] | (simp only [i64_w, i32_w]; rw [c10b0]) | skip)
         replace H := ifF H; rcases H with ⟨c11b0, c11b1, H⟩ | ⟨c11b0, c11b1, c11, H⟩
         ·exact τ26
         ·exact τ26
       case rest =>
        clear HC9
        try clear c3
        try clear c3b0
        try clear c4
        try clear c4b0
        try clear c6
        try clear c6b0
        try clear c6b1
        try clear c7
        try clear c7b0
        try clear c7b1
        try clear c8
        try clear c10
        try clear c10b0
        try clear c10b1
        try clear c11
        try clear c11b0
        try clear c11b1
        try clear hx251_0
        try clear hx251_1
        try clear hx251_2
        try clear hx251_3
        try clear p251
        try clear q251
        obtain ⟨kq, x23_8, rfl, HA, HJ8, ⟨mc8, rfl⟩⟩ := hcut
        cases kq with
        | zero => exact absurd HA.out (by simp [spec_l3Block.j2])
        | succ kj8 =>
         have H := HA.out
         clear HA
         simp only [spec_l3Block.j2] at H
         replace H := ifB H; rcases H with ⟨rfl, H⟩ | ⟨rfl, H⟩
         ·replace H := bS H; obtain ⟨⟨t252, t253⟩, A13, H⟩ := H
          replace H := ifD H; rcases H with ⟨c14b0, H⟩ | ⟨c14b0, H⟩
          ·exact τ27
          ·exact τ27
         ·exact τ27
   ·obtain rfl := Option.some.inj H
    go_wp2
    go_ret
    exact ⟨ψ0, ψ1⟩
theorem spec_l3End.calls (k : Nat) : ∀ (A0 : Option Addr) (c0 : Nat) (l0 : List (S114)) (a1 : Int) (r1 : Int) (r2 : Int) (w : World) (hr0 : Kd.C k114 w A0 l0.length l0) (hc0 : l0.length ≤ c0) (h : spec_l3End.f k l0 a1 = some (r1, r2)),
 Calls Try.prog 147 #[.slice A0 l0.length c0, .int .i64 a1] w fun e w' => e = .returned (.tuple #[.int .i64 r1, .int .i64 r2]) ∧ Drawn0 w w' := spec_l3End.calls_of k (fun m_ _ => spec_l3Block.calls m_)
/-! ### spec_l1Max: function 148 -/
def spec_l1Max.f (a0 : Int) (a1 : Int) : Option (Int) := if a0 > a1 then (some a0) else (some a1)
theorem τ28 {P : Prop} (h : P := by
 obtain rfl := Option.some.inj H
 go_enter Try.func148, Try.ntmps148
 go_wp2
 go_ret
 exact ⟨ψ0, ψ1⟩) : P := h
theorem spec_l1Max.calls (a0 : Int) (a1 : Int) (r : Int) (w : World) (h : spec_l1Max.f a0 a1 = some r) :
 Calls Try.prog 148 #[.int .i64 a0, .int .i64 a1] w fun e w' => e = .returned (.int .i64 r) ∧ Drawn0 w w' := by
 unfold spec_l1Max.f at h
 have H := h
 clear h
 replace H := ifG H; rcases H with ⟨c3b0, H⟩ | ⟨c3b0, H⟩
 ·exact τ28
 ·exact τ28

/-! ### spec_l3Steps: function 134 -/
mutual
def spec_l3Steps.l0 : Nat → List (S114) → Int → Int → Int → Option (Int)
 | 0, _, _, _, _ => none
 | k + 1, x0, x2, x7, x8 => if x8 < x2 then ((spec_l3End.f k x0 x8).bind fun bt254 => (if 0 ≤ x8 then (if x8 < (x0.length : Int) then (if ((rd_T114 x0 x8).f0) = 2 then (if bt254.1 < 0 then ((spec_l3Steps.f k x0 (wrap64 (x8 + 1)) bt254.2).bind fun t257 => (if bt254.2 < 0 then (spec_l3Steps.l0 k x0 x2 (wrap64 ((wrap64 (x7 + 1)) + t257)) (wrap64 (x8 + 1))) else (spec_l3Steps.l0 k x0 x2 (wrap64 ((wrap64 (x7 + 1)) + t257)) (wrap64 (bt254.2 + 1))))) else ((spec_l3Steps.f k x0 (wrap64 (x8 + 1)) bt254.1).bind fun t258 => ((spec_l3Steps.f k x0 (wrap64 (bt254.1 + 1)) bt254.2).bind fun t259 => ((spec_l1Max.f t258 t259).bind fun t260 => (if bt254.2 < 0 then (spec_l3Steps.l0 k x0 x2 (wrap64 ((wrap64 (x7 + 1)) + t260)) (wrap64 (x8 + 1))) else (spec_l3Steps.l0 k x0 x2 (wrap64 ((wrap64 (x7 + 1)) + t260)) (wrap64 (bt254.2 + 1)))))))) else (if ((rd_T114 x0 x8).f0) = 5 then ((spec_l3Steps.f k x0 (wrap64 (x8 + 1)) bt254.2).bind fun t262 => (if bt254.2 < 0 then (spec_l3Steps.l0 k x0 x2 (wrap64 ((wrap64 (x7 + 1)) + (wrap64 (((rd_T114 x0 x8).f1) * (wrap64 (1 + t262)))))) (wrap64 (x8 + 1))) else (spec_l3Steps.l0 k x0 x2 (wrap64 ((wrap64 (x7 + 1)) + (wrap64 (((rd_T114 x0 x8).f1) * (wrap64 (1 + t262)))))) (wrap64 (bt254.2 + 1))))) else (if ((rd_T114 x0 x8).f0) = 8 then ((spec_l3Steps.f k x0 (wrap64 (x8 + 1)) bt254.1).bind fun t263 => ((spec_l3Steps.f k x0 (wrap64 (bt254.1 + 1)) bt254.2).bind fun t264 => (if bt254.2 < 0 then (spec_l3Steps.l0 k x0 x2 (wrap64 ((wrap64 ((wrap64 (x7 + 1)) + t263)) + t264)) (wrap64 (x8 + 1))) else (spec_l3Steps.l0 k x0 x2 (wrap64 ((wrap64 ((wrap64 (x7 + 1)) + t263)) + t264)) (wrap64 (bt254.2 + 1)))))) else (if bt254.2 < 0 then (spec_l3Steps.l0 k x0 x2 (wrap64 (x7 + 1)) (wrap64 (x8 + 1))) else (spec_l3Steps.l0 k x0 x2 (wrap64 (x7 + 1)) (wrap64 (bt254.2 + 1))))))) else (none)) else (none))) else (some x7)
def spec_l3Steps.f : Nat → List (S114) → Int → Int → Option (Int)
 | 0, _, _, _ => none
 | k + 1, l0, a1, a2 => spec_l3Steps.l0 k l0 a2 0 a1
end
def spec_l3Steps.T12 : Bool × List (List Nat × List Nat) := (true, [([], []), ([0], [0]), ([], []), ([], []), ([2, 3], [2, 3]), ([4], [4]), ([5], [5]), ([], []), ([], []), ([8], [8]), ([], []), ([7, 9, 10], [7, 9, 10]), ([11], [11]), ([6, 12], [6, 12]), ([1, 13], [1, 13]), ([14, 11, 0, 1, 2, 3, 4, 5, 6, 7, 8, 9, 10, 11, 12, 13, 14], [0, 14])])
def spec_l3Steps.B12 : List Nat := [0, 1, 0, 0, 12, 28, 60, 0, 0, 256, 0, 1920, 3968, 8188, 16383, 32767]
theorem spec_l3Steps.tab12 : rtab .any (opsOf Try.f134 12) = spec_l3Steps.T12 := by kernel_rfl
theorem spec_l3Steps.bits12 : waitsOk spec_l3Steps.T12.2 spec_l3Steps.B12 = true := by kernel_rfl
theorem τ29 {P : Prop} (h : P := by
 first | obtain rfl := Option.some.inj H | (have H' := Aside0.mk H; clear H)
 go_wp2_with (first | ((with_reducible refine gate_callee (f := 147) rfl ?_); refine gL 18 Try.func147 #[.slice A0 l0.length c0, .int .i64 x8_1] ?_; (with_reducible refine (spec_l3End.calls k1 _ _ l0 x8_1 t254 t255 _ ?_ ?_ A5.out).mono ?_); exact ψ32; exact HC0.out; rintro e w' ⟨rfl, ⟨nd, rfl⟩⟩; refine ⟨_, rfl, ?_⟩; have p256 : 0 ≤ (x8_1 : Int) := of_decide_eq_true ψ5; have q256 : x8_1 < (l0.length : Int) := of_decide_eq_true ψ5; obtain ⟨ad256, A256_2, c256_2, A256_3, c256_3, e256, hx256_0, hx256_1, hx256_2, hx256_3, hl256_2, hi256_2, hl256_3, hi256_3⟩ := at_T114 HR0.out x8_1 p256 q256; cases e256; replace hx256_0 := cB HB hx256_0; replace hx256_1 := cB HB hx256_1; replace hx256_2 := cB HB hx256_2; replace hx256_3 := cB HB hx256_3; have q := n4_ hi256_2 hl256_2 hi256_3 hl256_3; clear hi256_2 hl256_2 hi256_3 hl256_3; obtain ⟨HR256_2, HC256_2, HR256_3, HC256_3⟩ := q; replace p256 := eq_true p256; replace q256 := eq_true q256) | ((with_reducible refine gate_callee (f := 134) rfl ?_); refine gL 38 Try.func134 #[.slice (some ad256) l0.length c0, .int .i64 (wrap64 (x8_1 + 1)), .int .i64 t255] ?_; (with_reducible refine (ih k1 ψ8 _ _ l0 (wrap64 (x8_1 + 1)) t255 t257 _ ?_ ?_ A10.out).mono ?_); exact ψ118; exact HC0.out; rintro e w1_ ⟨rfl, hb⟩; refine ⟨_, rfl, ?_⟩; replace HB := Aside0.mk (below_step ψ6 hb); (try clear hb)) | ((with_reducible refine gate_callee (f := 134) rfl ?_); refine gL 46 Try.func134 #[.slice (some ad256) l0.length c0, .int .i64 (wrap64 (x8_1 + 1)), .int .i64 t254] ?_; (with_reducible refine (ih k1 ψ8 _ _ l0 (wrap64 (x8_1 + 1)) t254 t258 _ ?_ ?_ A14.out).mono ?_); exact ψ118; exact HC0.out; rintro e w1_ ⟨rfl, hb⟩; refine ⟨_, rfl, ?_⟩; replace HB := Aside0.mk (below_step ψ6 hb); (try clear hb)) | ((with_reducible refine gate_callee (f := 134) rfl ?_); refine gL 51 Try.func134 #[.slice (some ad256) l0.length c0, .int .i64 (wrap64 (t254 + 1)), .int .i64 t255] ?_; (with_reducible refine (ih k1 ψ8 _ _ l0 (wrap64 (t254 + 1)) t255 t259 _ ?_ ?_ A15.out).mono ?_); exact ψ32; exact HC0.out; rintro e w2_ ⟨rfl, hb⟩; refine ⟨_, rfl, ?_⟩; replace HB := Aside0.mk (below_step ψ6 hb); (try clear hb)) | ((with_reducible refine gate_callee (f := 148) rfl ?_); refine gL 52 Try.func148 #[.int .i64 t258, .int .i64 t259] ?_; (with_reducible refine (spec_l1Max.calls t258 t259 _ _ A16.out).mono ?_); rintro e w' ⟨rfl, ⟨nd, rfl⟩⟩; refine ⟨_, rfl, ?_⟩) | ((with_reducible refine gate_callee (f := 134) rfl ?_); refine gL 79 Try.func134 #[.slice (some ad256) l0.length c0, .int .i64 (wrap64 (x8_1 + 1)), .int .i64 t254] ?_; (with_reducible refine (ih k1 ψ8 _ _ l0 (wrap64 (x8_1 + 1)) t254 t263 _ ?_ ?_ A30.out).mono ?_); exact ψ118; exact HC0.out; rintro e w1_ ⟨rfl, hb⟩; refine ⟨_, rfl, ?_⟩; replace HB := Aside0.mk (below_step ψ6 hb); (try clear hb)) | ((with_reducible refine gate_callee (f := 134) rfl ?_); refine gL 85 Try.func134 #[.slice (some ad256) l0.length c0, .int .i64 (wrap64 (t254 + 1)), .int .i64 t255] ?_; (with_reducible refine (ih k1 ψ8 _ _ l0 (wrap64 (t254 + 1)) t255 t264 _ ?_ ?_ A31.out).mono ?_); exact ψ32; exact HC0.out; rintro e w2_ ⟨rfl, hb⟩; refine ⟨_, rfl, ?_⟩; replace HB := Aside0.mk (below_step ψ6 hb); (try clear hb)))
 first | (go_roundg k1; (case measure => have := HK1.out; omega); (case rel => exact ⟨(wrap64 ((wrap64 (x7_1 + 1)) + t257)), (wrap64 (x8_1 + 1)), ψ7, ψ7, H', ⟨ψ8⟩, ⟨ψ6⟩⟩)) | (go_roundg k1; (case measure => have := HK1.out; omega); (case rel => exact ⟨(wrap64 ((wrap64 (x7_1 + 1)) + t257)), (wrap64 (t255 + 1)), ψ7, ψ7, H', ⟨ψ8⟩, ⟨ψ6⟩⟩)) | (go_roundg k1; (case measure => have := HK1.out; omega); (case rel => exact ⟨(wrap64 ((wrap64 (x7_1 + 1)) + t260)), (wrap64 (x8_1 + 1)), ψ7, ψ7, H', ⟨ψ8⟩, ⟨ψ6⟩⟩)) | (go_roundg k1; (case measure => have := HK1.out; omega); (case rel => exact ⟨(wrap64 ((wrap64 (x7_1 + 1)) + t260)), (wrap64 (t255 + 1)), ψ7, ψ7, H', ⟨ψ8⟩, ⟨ψ6⟩⟩)) | (go_roundg k1; (case measure => have := HK1.out; omega); (case rel => exact ⟨(wrap64 ((wrap64 ((wrap64 (x7_1 + 1)) + t263)) + t264)), (wrap64 (x8_1 + 1)), ψ7, ψ7, H', ⟨ψ8⟩, ⟨ψ6⟩⟩)) | (go_roundg k1; (case measure => have := HK1.out; omega); (case rel => exact ⟨(wrap64 ((wrap64 ((wrap64 (x7_1 + 1)) + t263)) + t264)), (wrap64 (t255 + 1)), ψ7, ψ7, H', ⟨ψ8⟩, ⟨ψ6⟩⟩)) | (go_roundg k1; (case measure => have := HK1.out; omega); (case rel => exact ⟨(wrap64 (x7_1 + 1)), (wrap64 (x8_1 + 1)), ψ7, ψ7, H', ⟨ψ8⟩, ⟨ψ6⟩⟩)) | (go_roundg k1; (case measure => have := HK1.out; omega); (case rel => exact ⟨(wrap64 (x7_1 + 1)), (wrap64 (t255 + 1)), ψ7, ψ7, H', ⟨ψ8⟩, ⟨ψ6⟩⟩)) | (go_ret; exact ⟨ψ4, ψ6⟩)) : P := h
theorem τ30 {P : Prop} (h : P := by
 have H' := Aside0.mk H
 clear H
 try go_wp2_with (first | ((with_reducible refine gate_callee (f := 147) rfl ?_); refine gL 18 Try.func147 #[.slice A0 l0.length c0, .int .i64 x8_1] ?_; (with_reducible refine (spec_l3End.calls k1 _ _ l0 x8_1 t254 t255 _ ?_ ?_ A5.out).mono ?_); exact ψ32; exact HC0.out; rintro e w' ⟨rfl, ⟨nd, rfl⟩⟩; refine ⟨_, rfl, ?_⟩; have p256 : 0 ≤ (x8_1 : Int) := of_decide_eq_true ψ5; have q256 : x8_1 < (l0.length : Int) := of_decide_eq_true ψ5; obtain ⟨ad256, A256_2, c256_2, A256_3, c256_3, e256, hx256_0, hx256_1, hx256_2, hx256_3, hl256_2, hi256_2, hl256_3, hi256_3⟩ := at_T114 HR0.out x8_1 p256 q256; cases e256; replace hx256_0 := cB HB hx256_0; replace hx256_1 := cB HB hx256_1; replace hx256_2 := cB HB hx256_2; replace hx256_3 := cB HB hx256_3; have q := n4_ hi256_2 hl256_2 hi256_3 hl256_3; clear hi256_2 hl256_2 hi256_3 hl256_3; obtain ⟨HR256_2, HC256_2, HR256_3, HC256_3⟩ := q; replace p256 := eq_true p256; replace q256 := eq_true q256))
 (try (rw [drewN_self wr]; generalize hq_ : World.drewN wr _ = wr; have n0_ : Aside0 (Below w.heap.size w wr) := ⟨by rw [← hq_]; exact ψ6⟩; clear HB hq_; have HB := n0_; clear n0_))
 replace HB := Aside0.mk (below_drew1 HB.out)
 have p261 : 0 ≤ (x8_1 : Int) := of_decide_eq_true ψ5
 have q261 : x8_1 < (l0.length : Int) := of_decide_eq_true ψ5
 obtain ⟨ad261, A261_2, c261_2, A261_3, c261_3, e261, hx261_0, hx261_1, hx261_2, hx261_3, hl261_2, hi261_2, hl261_3, hi261_3⟩ := at_T114 HR0.out x8_1 p261 q261
 have hw261_3 := hx261_3
 have hw261_2 := hx261_2
 have hw261_1 := hx261_1
 have hw261_0 := hx261_0
 obtain rfl : ad256 = ad261 := (by injection e261)
 replace hx261_0 := cB HB hx261_0
 replace hx261_1 := cB HB hx261_1
 replace hx261_2 := cB HB hx261_2
 replace hx261_3 := cB HB hx261_3
 have q := n4_ hi261_2 hl261_2 hi261_3 hl261_3
 clear hi261_2 hl261_2 hi261_3 hl261_3
 obtain ⟨HR261_2, HC261_2, HR261_3, HC261_3⟩ := q
 replace p261 := eq_true p261
 replace q261 := eq_true q261
 refine start_ (n := 16) (S := fun w' => w'.cell? (ad256.add ((x8_1).toNat * 4)) = some (.int .i64 ((rd_T114 l0 x8_1).f0)) ∧ w'.cell? ⟨(ad256.add ((x8_1).toNat * 4)).block, (ad256.add ((x8_1).toNat * 4)).off + 1, none⟩ = some (.int .i64 ((rd_T114 l0 x8_1).f1)) ∧ w'.cell? ⟨(ad256.add ((x8_1).toNat * 4)).block, (ad256.add ((x8_1).toNat * 4)).off + 2, none⟩ = some (.slice A261_2 ((rd_T114 l0 x8_1).f2).length c261_2) ∧ w'.cell? ⟨(ad256.add ((x8_1).toNat * 4)).block, (ad256.add ((x8_1).toNat * 4)).off + 3, none⟩ = some (.slice A261_3 ((rd_T114 l0 x8_1).f3).length c261_3)) (ds := []) #[false, false, false, false, false, false, false, false, false, false, false, false, false, false, false, false] ψ12 rfl rfl ⟨((HB.out.cell (World.block_lt_of_cell? w _ hw261_0)).trans hw261_0), ((HB.out.cell (World.block_lt_of_cell? w _ hw261_1)).trans hw261_1), ((HB.out.cell (World.block_lt_of_cell? w _ hw261_2)).trans hw261_2), ((HB.out.cell (World.block_lt_of_cell? w _ hw261_3)).trans hw261_3)⟩ (fun hHeld => ?_); refine with_tabW spec_l3Steps.tab12 spec_l3Steps.bits12 (fun HT_ HW_ => ?_)
 generalize wr.drew = w1_ at HB HR261_2 HR261_3 hx261_0 hx261_1 hx261_2 hx261_3 hHeld ⊢
 refine rP 0 56 ?_; refine rP 1 57 ?_; refine rP 2 58 ?_; refine rP 3 59 ?_; refine rP 4 60 ?_; refine rP 5 61 ?_; refine rP 7 63 ?_; refine rP 8 64 ?_; refine rP 9 65 ?_; refine rP 10 66 ?_; refine rT 6 62 ?_
 refine one_ (i := 11) (N := some 67) #[true, true, true, true, true, true, true, true, true, true, true, true, false, false, false, false] rfl rfl (one_of HT_.out ψ12) ψ13 (fun K hK => ?_)
 refine goes_ Try.func134 ψ12 rfl #[.slice (some ad256) l0.length c0, .int .i64 (wrap64 (x8_1 + 1)), .int .i64 t255] ψ14 rfl rfl ψ15 ?_
 with_reducible refine (ih k1 ψ8 _ _ l0 (wrap64 (x8_1 + 1)) t255 t262 _ ?_ ?_ A23.out).mono ?_
 exact ψ32; exact HC0.out
 rintro e w2_ ⟨rfl, hb⟩
 refine ⟨_, rfl, ?_⟩
 replace HB := Aside0.mk (below_step ψ6 hb)
 (try clear hb)
 refine hK.out _ _ ⟨((HB.out.cell (World.block_lt_of_cell? w _ hw261_0)).trans hw261_0), ((HB.out.cell (World.block_lt_of_cell? w _ hw261_1)).trans hw261_1), ((HB.out.cell (World.block_lt_of_cell? w _ hw261_2)).trans hw261_2), ((HB.out.cell (World.block_lt_of_cell? w _ hw261_3)).trans hw261_3)⟩ (fun hHeld => ?_)
 clear hK K
 refine rN 67 ?_; refine rP 12 68 ?_; refine rP 13 69 ?_; refine rP 14 70 ?_; refine rP 15 7 ?_
 refine done_ (done_of HT_.out ψ12) ?_
 try go_wp2
 first | (go_roundg k1; (case measure => have := HK1.out; omega); (case rel => exact ⟨(wrap64 ((wrap64 (x7_1 + 1)) + (wrap64 (((rd_T114 l0 x8_1).f1) * (wrap64 (1 + t262)))))), (wrap64 (x8_1 + 1)), ψ7, ψ7, H', ⟨ψ8⟩, ⟨ψ6⟩⟩)) | (go_roundg k1; (case measure => have := HK1.out; omega); (case rel => exact ⟨(wrap64 ((wrap64 (x7_1 + 1)) + (wrap64 (((rd_T114 l0 x8_1).f1) * (wrap64 (1 + t262)))))), (wrap64 (t255 + 1)), ψ7, ψ7, H', ⟨ψ8⟩, ⟨ψ6⟩⟩))) : P := h
theorem spec_l3Steps.calls (k : Nat) : ∀ (A0 : Option Addr) (c0 : Nat) (l0 : List (S114)) (a1 : Int) (a2 : Int) (r : Int) (w : World) (hr0 : Kd.C k114 w A0 l0.length l0) (hc0 : l0.length ≤ c0) (h : spec_l3Steps.f k l0 a1 a2 = some r),
 Calls Try.prog 134 #[.slice A0 l0.length c0, .int .i64 a1, .int .i64 a2] w fun e w' => e = .returned (.int .i64 r) ∧ Below w.heap.size w w' := by
 induction k using Nat.strongRecOn with
 | _ k ih =>
 intro A0 c0 l0 a1 a2 r w hr0 hc0 h
 cases k with
 | zero => exact absurd h (by simp [spec_l3Steps.f])
 | succ k =>
 simp only [spec_l3Steps.f] at h
 have q := n2_ hr0 hc0
 clear hr0 hc0
 obtain ⟨HR0, HC0⟩ := q
 have HB := Aside0.mk (Below.refl w.heap.size w)
 have H := h
 clear h
 have H' := Aside0.mk H
 clear H
 go_enter Try.func134, Try.ntmps134
 go_wp2
 go_loopg [7, 8] k (fun kq v7 v8 w' => ∃ (x7_1 : Int) (x8_1 : Int), v7 = .int .i64 x7_1 ∧ v8 = .int .i64 x8_1 ∧ Aside0 (spec_l3Steps.l0 kq l0 a2 x7_1 x8_1 = some r) ∧ Aside0 (kq ≤ k) ∧ Aside0 (Below w.heap.size w w'))
 case atStart => exact ⟨(0), (a1), ψ7, ψ7, H', ⟨Nat.le_refl _⟩, ⟨ψ6⟩⟩
 case round =>
  clear H'
  obtain ⟨x7_1, x8_1, rfl, rfl, HA, HK1, HB⟩ := hrel
  cases gk with
  | zero => exact absurd HA.out (by simp [spec_l3Steps.l0])
  | succ k1 =>
   have H := HA.out
   clear HA
   simp only [spec_l3Steps.l0] at H
   replace H := ifD H; rcases H with ⟨c4b0, H⟩ | ⟨c4b0, H⟩
   ·replace H := bS H; obtain ⟨⟨t254, t255⟩, A5, H⟩ := H
    replace H := ifN H; obtain ⟨c6b0, H⟩ := H
    replace H := ifN H; obtain ⟨c7b0, H⟩ := H
    replace H := ifF H; rcases H with ⟨c8b0, c8b1, H⟩ | ⟨c8b0, c8b1, c8, H⟩
    ·replace H := ifD H; rcases H with ⟨c9b0, H⟩ | ⟨c9b0, H⟩
     ·replace H := bS H; obtain ⟨t257, A10, H⟩ := H
      replace H := ifD H; rcases H with ⟨c11b0, H⟩ | ⟨c11b0, H⟩
      ·exact τ29
      ·exact τ29
     ·replace H := bS H; obtain ⟨t258, A14, H⟩ := H
      replace H := bS H; obtain ⟨t259, A15, H⟩ := H
      replace H := bS H; obtain ⟨t260, A16, H⟩ := H
      replace H := ifD H; rcases H with ⟨c17b0, H⟩ | ⟨c17b0, H⟩
      ·exact τ29
      ·exact τ29
    ·by_cases c22 : ((rd_T114 l0 x8_1).f0) = 5
     ·rw [if_pos c22] at H
      have c22b0 : (((rd_T114 l0 x8_1).f0) == 5) = true := beq_iff_eq.mpr c22
      have c22b1 : (((rd_T114 l0 x8_1).f0) != 5) = false := bne_eq_false_iff_eq.mpr c22
      clear c22
      replace H := bS H; obtain ⟨t262, A23, H⟩ := H
      replace H := ifD H; rcases H with ⟨c24b0, H⟩ | ⟨c24b0, H⟩
      ·exact τ30
      ·exact τ30
     ·rw [if_neg c22] at H
      have c22b0 : (((rd_T114 l0 x8_1).f0) == 5) = false := beq_eq_false_iff_ne.mpr c22
      have c22b1 : (((rd_T114 l0 x8_1).f0) != 5) = true := bne_iff_ne.mpr c22
      replace H := ifF H; rcases H with ⟨c29b0, c29b1, H⟩ | ⟨c29b0, c29b1, c29, H⟩
      ·replace H := bS H; obtain ⟨t263, A30, H⟩ := H
       replace H := bS H; obtain ⟨t264, A31, H⟩ := H
       replace H := ifD H; rcases H with ⟨c32b0, H⟩ | ⟨c32b0, H⟩
       ·exact τ29
       ·exact τ29
      ·replace H := ifD H; rcases H with ⟨c37b0, H⟩ | ⟨c37b0, H⟩
       ·exact τ29
       ·exact τ29
   ·exact τ29

/-! ### spec_CodeOf: function 108 -/
def spec_CodeOf.j0 : Nat → Bool → Int → List (S106) → List (S106) → Int → List Int → List (S114) → Option (Int)
 | 0, _, _, _, _, _, _, _ => none
 | k + 1, x24, x266000, x266001, x266002, x266003, x266004, x266005 => if x24 = true then (some 2) else ((spec_l3Room.f k x266000 x266001 x266002 x266003 x266004 x266005).bind fun t277 => (if t277 = true then ((spec_l3Stmts.f k x266000 x266001 x266002 x266003 x266004 x266005).bind fun t279 => (if t279 = true then ((spec_l3Block.f k x266005 0).bind fun t282 => (if t282 = (x266005.length : Int) then ((spec_l3Steps.f k x266005 0 (x266005.length : Int)).bind fun t284 => (if t284 > 400 then (some 6) else (some 0))) else (some 5))) else (some 4))) else (some 3)))
def spec_CodeOf.f (k : Nat) (a0_0 : Int) (l0_1 : List (S106)) (l0_2 : List (S106)) (a0_3 : Int) (l0_4 : List Int) (l0_5 : List (S114)) : Option (Int) := (spec_l1In.f a0_0 1 8).bind fun t267 => (if t267 = true then ((spec_l3Inputs.f k a0_0 l0_1 l0_2 a0_3 l0_4 l0_5 l0_1 true).bind fun t270 => (if t270 = true then ((spec_l3Inputs.f k a0_0 l0_1 l0_2 a0_3 l0_4 l0_5 l0_2 false).bind fun t273 => (if t273 = true then ((spec_l3AllBits.f k a0_0 l0_1 l0_2 a0_3 l0_4 l0_5).bind fun t275 => (spec_CodeOf.j0 k (decide (t275 > 10)) a0_0 l0_1 l0_2 a0_3 l0_4 l0_5)) else (spec_CodeOf.j0 k true a0_0 l0_1 l0_2 a0_3 l0_4 l0_5))) else (spec_CodeOf.j0 k true a0_0 l0_1 l0_2 a0_3 l0_4 l0_5))) else (some 1))
theorem τ31 {P : Prop} (h : P := by
 have H' := Aside0.mk H
 clear H
 obtain ⟨hczB10_0, hczB10_1, hczB10_2, hczB10_3, hczB10_4, hczB10_5, hfzB10_0, hfzB10_1, hfzB10_2, hfzB10_3, hfzB10_4, hfzB10_5⟩ := cells6 BK10.out
 go_wp2_with (first | ((with_reducible refine gate_callee (f := 130) rfl ?_); refine gL 11 Try.func130 #[.agg #[.int .i64 a0_0, .slice A0_1 l0_1.length c0_1, .slice A0_2 l0_2.length c0_2, .int .i64 a0_3, .slice A0_4 l0_4.length c0_4, .slice A0_5 l0_5.length c0_5], .slice A0_1 l0_1.length c0_1, .bool true] ?_; (with_reducible refine (spec_l3Inputs.calls k a0_0 _ _ l0_1 _ _ l0_2 a0_3 _ _ l0_4 _ _ l0_5 _ _ l0_1 true _ _ ?_ ?_ ?_ ?_ ?_ ?_ ?_ ?_ ?_ ?_ A7.out).mono ?_); exact ψ9; exact HC0_1.out; exact ψ3; exact HC0_2.out; exact ψ16; exact HC0_4.out; exact ψ17; exact HC0_5.out; exact ψ9; exact HC0_1.out; rintro e w1_ ⟨rfl, hb⟩; refine ⟨_, rfl, ?_⟩; have q := n2_ (blk_below (g := gb10) ψ10 hb) (below_step ψ2 hb); clear BK10 HB; obtain ⟨BK10, HB⟩ := q; (try clear hb); (try (obtain ⟨hczB10_0, hczB10_1, hczB10_2, hczB10_3, hczB10_4, hczB10_5, hfzB10_0, hfzB10_1, hfzB10_2, hfzB10_3, hfzB10_4, hfzB10_5⟩ := cells6 BK10.out))) | (go_at_call 130; (with_reducible refine (spec_l3Inputs.calls k a0_0 _ _ l0_1 _ _ l0_2 a0_3 _ _ l0_4 _ _ l0_5 _ _ l0_2 false _ _ ?_ ?_ ?_ ?_ ?_ ?_ ?_ ?_ ?_ ?_ A9.out).mono ?_); exact ψ9; exact HC0_1.out; exact ψ3; exact HC0_2.out; exact ψ16; exact HC0_4.out; exact ψ17; exact HC0_5.out; exact ψ3; exact HC0_2.out; rintro e w2_ ⟨rfl, hb⟩; have q := n2_ (blk_below (g := gb10) ψ10 hb) (below_step ψ2 hb); clear BK10 HB; obtain ⟨BK10, HB⟩ := q; (try clear hb); (try (obtain ⟨hczB10_0, hczB10_1, hczB10_2, hczB10_3, hczB10_4, hczB10_5, hfzB10_0, hfzB10_1, hfzB10_2, hfzB10_3, hfzB10_4, hfzB10_5⟩ := cells6 BK10.out))) | (go_at_call 95; (with_reducible refine (spec_l3AllBits.calls k a0_0 _ _ l0_1 _ _ l0_2 a0_3 _ _ l0_4 _ _ l0_5 _ _ ?_ ?_ ?_ ?_ ?_ ?_ ?_ ?_ A11.out).mono ?_); exact ψ9; exact HC0_1.out; exact ψ3; exact HC0_2.out; exact ψ16; exact HC0_4.out; exact ψ17; exact HC0_5.out; rintro e w3_ ⟨rfl, hb⟩; have q := n2_ (blk_below (g := gb10) ψ10 hb) (below_step ψ2 hb); clear BK10 HB; obtain ⟨BK10, HB⟩ := q; (try clear hb)))
 first | (go_meet; (case rel => exact ⟨_, (decide (t275 > 10)), ψ7, H', ⟨ψ19⟩, ⟨ψ10⟩, ⟨ψ2⟩⟩)) | (go_meet; (case rel => exact ⟨_, (true), ψ7, H', ⟨ψ19⟩, ⟨ψ10⟩, ⟨ψ2⟩⟩))) : P := h
theorem τ32 {P : Prop} (h : P := by
 obtain rfl := Option.some.inj H
 try (obtain ⟨hczB10_0, hczB10_1, hczB10_2, hczB10_3, hczB10_4, hczB10_5, hfzB10_0, hfzB10_1, hfzB10_2, hfzB10_3, hfzB10_4, hfzB10_5⟩ := cells6 BK10.out)
 go_wp2_with (first | ((with_reducible refine gate_callee (f := 131) rfl ?_); refine gL 26 Try.func131 #[.agg #[.int .i64 a0_0, .slice A0_1 l0_1.length c0_1, .slice A0_2 l0_2.length c0_2, .int .i64 a0_3, .slice A0_4 l0_4.length c0_4, .slice A0_5 l0_5.length c0_5]] ?_; (with_reducible refine (spec_l3Room.calls kj3 a0_0 _ _ l0_1 _ _ l0_2 a0_3 _ _ l0_4 _ _ l0_5 _ _ ?_ ?_ ?_ ?_ ?_ ?_ ?_ ?_ A25.out).mono ?_); exact ψ9; exact HC0_1.out; exact ψ3; exact HC0_2.out; exact ψ16; exact HC0_4.out; exact ψ17; exact HC0_5.out; rintro e w1_ ⟨rfl, hb⟩; refine ⟨_, rfl, ?_⟩; have q := n2_ (blk_below (g := gb10) ψ10 hb) (below_step ψ2 hb); clear BK10 HB; obtain ⟨BK10, HB⟩ := q; (try clear hb); (try (obtain ⟨hczB10_0, hczB10_1, hczB10_2, hczB10_3, hczB10_4, hczB10_5, hfzB10_0, hfzB10_1, hfzB10_2, hfzB10_3, hfzB10_4, hfzB10_5⟩ := cells6 BK10.out))) | ((with_reducible refine gate_callee (f := 132) rfl ?_); refine gL 29 Try.func132 #[.agg #[.int .i64 a0_0, .slice A0_1 l0_1.length c0_1, .slice A0_2 l0_2.length c0_2, .int .i64 a0_3, .slice A0_4 l0_4.length c0_4, .slice A0_5 l0_5.length c0_5]] ?_; (with_reducible refine (spec_l3Stmts.calls kj3 a0_0 _ _ l0_1 _ _ l0_2 a0_3 _ _ l0_4 _ _ l0_5 _ _ ?_ ?_ ?_ ?_ ?_ ?_ ?_ ?_ A27.out).mono ?_); exact ψ9; exact HC0_1.out; exact ψ3; exact HC0_2.out; exact ψ16; exact HC0_4.out; exact ψ17; exact HC0_5.out; rintro e w2_ ⟨rfl, hb⟩; refine ⟨_, rfl, ?_⟩; have q := n2_ (blk_below (g := gb10) ψ10 hb) (below_step ψ2 hb); clear BK10 HB; obtain ⟨BK10, HB⟩ := q; (try clear hb); (try (obtain ⟨hczB10_0, hczB10_1, hczB10_2, hczB10_3, hczB10_4, hczB10_5, hfzB10_0, hfzB10_1, hfzB10_2, hfzB10_3, hfzB10_4, hfzB10_5⟩ := cells6 BK10.out))) | ((with_reducible refine gate_callee (f := 133) rfl ?_); refine gL 36 Try.func133 #[.slice A0_5 l0_5.length c0_5, .int .i64 0] ?_; (with_reducible refine (spec_l3Block.calls kj3 _ _ l0_5 0 t282 _ ?_ ?_ A29.out).mono ?_); exact ψ17; exact HC0_5.out; rintro e w' ⟨rfl, ⟨nd, rfl⟩⟩; refine ⟨_, rfl, ?_⟩) | ((with_reducible refine gate_callee (f := 134) rfl ?_); refine gL 42 Try.func134 #[.slice A0_5 l0_5.length c0_5, .int .i64 0, .int .i64 (l0_5.length : Int)] ?_; (with_reducible refine (spec_l3Steps.calls kj3 _ _ l0_5 0 (l0_5.length : Int) t284 _ ?_ ?_ A31.out).mono ?_); exact ψ114; exact HC0_5.out; rintro e w3_ ⟨rfl, hb⟩; refine ⟨_, rfl, ?_⟩; have q := n2_ (blk_below (g := gb10) ψ10 hb) (below_step ψ2 hb); clear BK10 HB; obtain ⟨BK10, HB⟩ := q; (try clear hb)))
 go_ret
 exact ⟨ψ4, ψ2⟩) : P := h
theorem spec_CodeOf.calls (k : Nat) (a0_0 : Int) (A0_1 : Option Addr) (c0_1 : Nat) (l0_1 : List (S106)) (A0_2 : Option Addr) (c0_2 : Nat) (l0_2 : List (S106)) (a0_3 : Int) (A0_4 : Option Addr) (c0_4 : Nat) (l0_4 : List Int) (A0_5 : Option Addr) (c0_5 : Nat) (l0_5 : List (S114)) (r : Int) (w : World) (hr0_1 : Kd.C k106 w A0_1 l0_1.length l0_1) (hc0_1 : l0_1.length ≤ c0_1) (hr0_2 : Kd.C k106 w A0_2 l0_2.length l0_2) (hc0_2 : l0_2.length ≤ c0_2) (hr0_4 : Kd.C (Kd.int .i64) w A0_4 l0_4.length l0_4) (hc0_4 : l0_4.length ≤ c0_4) (hr0_5 : Kd.C k114 w A0_5 l0_5.length l0_5) (hc0_5 : l0_5.length ≤ c0_5) (h : spec_CodeOf.f k a0_0 l0_1 l0_2 a0_3 l0_4 l0_5 = some r) :
 Calls Try.prog 108 #[.agg #[.int .i64 a0_0, .slice A0_1 l0_1.length c0_1, .slice A0_2 l0_2.length c0_2, .int .i64 a0_3, .slice A0_4 l0_4.length c0_4, .slice A0_5 l0_5.length c0_5]] w fun e w' => e = .returned (.int .i64 r) ∧ Below w.heap.size w w' := by
 have hu36 := Try.underlying36
 have q := n8_ hr0_1 hc0_1 hr0_2 hc0_2 hr0_4 hc0_4 hr0_5 hc0_5
 clear hr0_1 hc0_1 hr0_2 hc0_2 hr0_4 hc0_4 hr0_5 hc0_5
 obtain ⟨HR0_1, HC0_1, HR0_2, HC0_2, HR0_4, HC0_4, HR0_5, HC0_5⟩ := q
 have HB := Aside0.mk (Below.refl w.heap.size w)
 unfold spec_CodeOf.f at h
 have H := h
 clear h
 replace H := bS H; obtain ⟨t267, A2, H⟩ := H
 replace H := ifB H; rcases H with ⟨rfl, H⟩ | ⟨rfl, H⟩
 ·have HC4 := Aside0.mk H
  clear H
  go_enter Try.func108, Try.ntmps108
  go_upto_region 3 with (first | ((with_reducible refine gate_dst (N := 1) rfl ?_); refine bE 1 #[.int .i64 a0_0, .slice A0_1 l0_1.length c0_1, .slice A0_2 l0_2.length c0_2, .int .i64 a0_3, .slice A0_4 l0_4.length c0_4, .slice A0_5 l0_5.length c0_5] 36 ?_; intro gb10 hg w5 hbox hb; have q := n4_ (below_step ψ2 hb) (hbox) ((ψ113 : w.heap.size ≤ gb10)) ((ψ113 : w.heap.size ≤ gb10)); clear HB; obtain ⟨HB, BK10, GW10, GE10⟩ := q; clear hb hbox hg; obtain ⟨y6_0, y6_1, y6_2, y6_3, y6_4, y6_5, u6_0, u6_1, u6_2, u6_3, u6_4, u6_5⟩ := cells6 BK10.out) | ((with_reducible refine gate_callee (f := 79) rfl ?_); refine gL 6 Try.func79 #[.int .i64 a0_0, .int .i64 1, .int .i64 8] ?_; (with_reducible refine (spec_l1In.calls a0_0 1 8 _ _ A2.out).mono ?_); rintro e w' ⟨rfl, ⟨nd, rfl⟩⟩; refine ⟨_, rfl, ?_⟩))
  (try simp only [Act.put, List.setIfInBounds_toArray, List.set_cons_zero, List.set_cons_succ])
  go_cut [24] (fun v24 wc => ∃ (kq : Nat) (x24_3 : Bool), v24 = .bool x24_3 ∧ Aside0 (spec_CodeOf.j0 kq x24_3 a0_0 l0_1 l0_2 a0_3 l0_4 l0_5 = some r) ∧ Aside0 (kq ≤ k) ∧ Aside0 (wc.heap[gb10]? = some (.cells #[.int .i64 a0_0, (.slice A0_1 l0_1.length c0_1), (.slice A0_2 l0_2.length c0_2), .int .i64 a0_3, (.slice A0_4 l0_4.length c0_4), (.slice A0_5 l0_5.length c0_5)] 36 (0, 0))) ∧ Aside0 (Below w.heap.size w wc))
  case first =>
   have H := HC4.out
   clear HC4
   replace H := bS H; obtain ⟨t270, A7, H⟩ := H
   replace H := ifB H; rcases H with ⟨rfl, H⟩ | ⟨rfl, H⟩
   ·replace H := bS H; obtain ⟨t273, A9, H⟩ := H
    replace H := ifB H; rcases H with ⟨rfl, H⟩ | ⟨rfl, H⟩
    ·replace H := bS H; obtain ⟨t275, A11, H⟩ := H
     exact τ31
    ·exact τ31
   ·exact τ31
  case rest =>
   clear HC4
   try clear c3
   try clear c8
   try clear c10
   try clear y12_0 y12_1 y12_2 y12_3 y12_4 y12_5
   try clear y14_0 y14_1 y14_2 y14_3 y14_4 y14_5
   try clear y16_0 y16_1 y16_2 y16_3 y16_4 y16_5
   try clear y18_0 y18_1 y18_2 y18_3 y18_4 y18_5
   try clear y20_0 y20_1 y20_2 y20_3 y20_4 y20_5
   try clear y22_0 y22_1 y22_2 y22_3 y22_4 y22_5
   try clear y6_0 y6_1 y6_2 y6_3 y6_4 y6_5
   try clear u12_0 u12_1 u12_2 u12_3 u12_4 u12_5
   try clear u14_0 u14_1 u14_2 u14_3 u14_4 u14_5
   try clear u16_0 u16_1 u16_2 u16_3 u16_4 u16_5
   try clear u18_0 u18_1 u18_2 u18_3 u18_4 u18_5
   try clear u20_0 u20_1 u20_2 u20_3 u20_4 u20_5
   try clear u22_0 u22_1 u22_2 u22_3 u22_4 u22_5
   try clear u6_0 u6_1 u6_2 u6_3 u6_4 u6_5
   obtain ⟨kq, x24_3, rfl, HA, HJ3, BK10, HB⟩ := hcut
   cases kq with
   | zero => exact absurd HA.out (by simp [spec_CodeOf.j0])
   | succ kj3 =>
    have H := HA.out
    clear HA
    simp only [spec_CodeOf.j0] at H
    replace H := ifB H; rcases H with ⟨rfl, H⟩ | ⟨rfl, H⟩
    ·exact τ32
    ·replace H := bS H; obtain ⟨t277, A25, H⟩ := H
     replace H := ifB H; rcases H with ⟨rfl, H⟩ | ⟨rfl, H⟩
     ·replace H := bS H; obtain ⟨t279, A27, H⟩ := H
      replace H := ifB H; rcases H with ⟨rfl, H⟩ | ⟨rfl, H⟩
      ·replace H := bS H; obtain ⟨t282, A29, H⟩ := H
       replace H := ifF H; rcases H with ⟨c30b0, c30b1, H⟩ | ⟨c30b0, c30b1, c30, H⟩
       ·replace H := bS H; obtain ⟨t284, A31, H⟩ := H
        replace H := ifG H; rcases H with ⟨c32b0, H⟩ | ⟨c32b0, H⟩
        ·exact τ32
        ·exact τ32
       ·exact τ32
      ·exact τ32
     ·exact τ32
 ·obtain rfl := Option.some.inj H
  go_enter Try.func108, Try.ntmps108
  go_wp2_with (first | ((with_reducible refine gate_dst (N := 1) rfl ?_); refine bE 1 #[.int .i64 a0_0, .slice A0_1 l0_1.length c0_1, .slice A0_2 l0_2.length c0_2, .int .i64 a0_3, .slice A0_4 l0_4.length c0_4, .slice A0_5 l0_5.length c0_5] 36 ?_; intro gb10 hg w56 hbox hb; have q := n4_ (below_step ψ2 hb) (hbox) ((ψ113 : w.heap.size ≤ gb10)) ((ψ113 : w.heap.size ≤ gb10)); clear HB; obtain ⟨HB, BK10, GW10, GE10⟩ := q; clear hb hbox hg; obtain ⟨y57_0, y57_1, y57_2, y57_3, y57_4, y57_5, u57_0, u57_1, u57_2, u57_3, u57_4, u57_5⟩ := cells6 BK10.out) | ((with_reducible refine gate_callee (f := 79) rfl ?_); refine gL 6 Try.func79 #[.int .i64 a0_0, .int .i64 1, .int .i64 8] ?_; (with_reducible refine (spec_l1In.calls a0_0 1 8 _ _ A2.out).mono ?_); rintro e w' ⟨rfl, ⟨nd, rfl⟩⟩; refine ⟨_, rfl, ?_⟩))
  go_ret
  exact ⟨ψ4, ψ2⟩

end Go.Proofs.Ytakmkdlkipfnhaa.PCore

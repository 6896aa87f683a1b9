/- ShowNat of the program and of the reference write the same digits, for every list of whole numbers, and the argument is left as it was; no condition. -/
import Derived.Test.YtlaliacfonfflaaDoorPFnExactShowNatx3
import Derived.Test.YtlaliacfonfflaaDoorNt
set_option linter.unusedVariables false
set_option linter.unusedSimpArgs false
namespace Go.Proofs.YtlaliacfonfflaaDoor.Pure
open Go.RowKit Go.Proofs.YtlaliacfonfflaaDoor.PFnExactShowNat Go.Proofs.YtlaliacfonfflaaDoorW.PrintWords Go.Proofs.YtlaliacfonfflaaDoorW.PrintLast Go.Proofs.YtlaliacfonfflaaDoorW.PrintMore Go.Proofs.YtlaliacfonfflaaDoor.Bs

theorem l1In_eq (a b c : Int) : spec_l1In.f a b c = some (decide (b ≤ a) && decide (a ≤ c)) := by
  unfold spec_l1In.f
  by_cases h : a ≥ b
  · rw [if_pos h]; simp [show b ≤ a from h]
  · rw [if_neg h]; simp [show ¬ b ≤ a from h]
theorem specNatOk_l (x : List Int) (hx : x.length ≤ 4611686018427387904) (d : Nat) : ∀ i : Nat, i + d = x.length → Ev (fun k => spec_NatOk.l0 k x (i : Int)) (((x.drop i).all fun y => decide (0 ≤ y) && decide (y ≤ 9999)) && decide (x.length ≤ 100) && (x.isEmpty || rd x ((x.length : Int) - 1) != 0)) := by
  induction d with
  | zero =>
    intro i hi
    refine Ev.step (fun k => by rw [spec_NatOk.l0]) ?_
    simp only [if_neg (show ¬ (i : Int) < (x.length : Int) by omega)]
    rw [List.drop_of_length_le (show x.length ≤ i by omega)]
    by_cases h1 : x.length ≤ 100
    · simp only [if_pos (show (x.length : Int) ≤ 100 by omega)]
      by_cases h2 : x.length = 0
      · simp only [if_pos (show (x.length : Int) = 0 by omega)]
        exact (Ev.now true).cast (by simp [List.length_eq_zero_iff.1 h2])
      · have hw : wrap64 ((x.length : Int) - 1) = (x.length : Int) - 1 := wrap_id (by omega) (by omega)
        simp only [if_neg (show ¬ (x.length : Int) = 0 by omega), hw, if_pos (show 0 ≤ (x.length : Int) - 1 by omega), if_pos (show (x.length : Int) - 1 < (x.length : Int) by omega)]
        have hne : x.isEmpty = false := by cases x; simp at h2; rfl
        exact (Ev.now _).cast (by simp [h1, hne])
    · simp only [if_neg (show ¬ (x.length : Int) ≤ 100 by omega)]
      exact (Ev.now false).cast (by simp [h1])
  | succ d ih =>
    intro i hi
    refine Ev.step (fun k => by rw [spec_NatOk.l0]) ?_
    simp only [if_pos (show (i : Int) < (x.length : Int) by omega), if_pos (show 0 ≤ (i : Int) by omega), l1In_eq, Option.bind_some, wrap_succ (show i < 9223372036854775807 by omega)]
    rw [drop_rd x i (by omega), List.all_cons]
    by_cases h : (decide (0 ≤ rd x (i : Int)) && decide (rd x (i : Int) ≤ 9999)) = true
    · simp only [if_pos h]
      exact (ih (i + 1) (by omega)).cast (by rw [h]; simp)
    · simp only [if_neg h]
      exact (Ev.now false).cast (by rw [Bool.not_eq_true] at h; rw [h]; simp)
theorem specNatOk_ev (x : List Int) (hx : x.length ≤ 4611686018427387904) : Ev (fun k => spec_NatOk.f k x) (nok x) := by
  simp only [spec_NatOk.f]
  exact (specNatOk_l x hx x.length 0 (by omega)).cast (by simp [nok])

theorem implNatOk_l (x : List Int) (hx : x.length ≤ 100) (d : Nat) : ∀ i : Nat, i + d = x.length → Ev (fun k => impl_NatOk.l0 k x x (x.length : Int) (i : Int)) (((x.drop i).all fun y => decide (0 ≤ y) && decide (y ≤ 9999)) && (x.isEmpty || rd x ((x.length : Int) - 1) != 0)) := by
  induction d with
  | zero =>
    intro i hi
    refine Ev.step (fun k => by rw [impl_NatOk.l0]) ?_
    simp only [if_neg (show ¬ (i : Int) < (x.length : Int) by omega)]
    rw [List.drop_of_length_le (show x.length ≤ i by omega)]
    by_cases h2 : x.length = 0
    · simp only [if_pos (show (x.length : Int) = 0 by omega)]
      exact (Ev.now true).cast (by simp [List.length_eq_zero_iff.1 h2])
    · have hw : wrap64 ((x.length : Int) - 1) = (x.length : Int) - 1 := wrap_id (by omega) (by omega)
      simp only [if_neg (show ¬ (x.length : Int) = 0 by omega), hw, if_pos (show 0 ≤ (x.length : Int) - 1 by omega), if_pos (show (x.length : Int) - 1 < (x.length : Int) by omega)]
      have hne : x.isEmpty = false := by cases x; simp at h2; rfl
      exact (Ev.now _).cast (by simp [hne])
  | succ d ih =>
    intro i hi
    refine Ev.step (fun k => by rw [impl_NatOk.l0]) ?_
    simp only [if_pos (show (i : Int) < (x.length : Int) by omega), if_pos (show 0 ≤ (i : Int) by omega), wrap_succ (show i < 9223372036854775807 by omega)]
    rw [drop_rd x i (by omega), List.all_cons]
    by_cases h : rd x (i : Int) < 0
    · simp only [if_pos h]
      exact (Ev.now false).cast (by rw [decide_eq_false (show ¬ 0 ≤ rd x (i : Int) by omega)]; simp)
    · simp only [if_neg h]
      by_cases h' : rd x (i : Int) ≥ 10000
      · simp only [if_pos h']
        exact (Ev.now false).cast (by rw [decide_eq_false (show ¬ rd x (i : Int) ≤ 9999 by omega)]; simp)
      · simp only [if_neg h']
        exact (ih (i + 1) (by omega)).cast (by rw [decide_eq_true (show 0 ≤ rd x (i : Int) by omega), decide_eq_true (show rd x (i : Int) ≤ 9999 by omega)]; simp)
theorem implNatOk_ev (x : List Int) : Ev (fun k => impl_NatOk.f k x) (nok x) := by
  simp only [impl_NatOk.f]
  by_cases h : x.length ≤ 100
  · simp only [if_neg (show ¬ (x.length : Int) > 100 by omega)]
    exact (implNatOk_l x h x.length 0 (by omega)).cast (by simp [nok, h])
  · simp only [if_pos (show (x.length : Int) > 100 by omega)]
    exact (Ev.now false).cast (by simp [nok, h])

theorem toInt64S_l (l : List Int) (hl : l.length ≤ 1048576) (d : Nat) : ∀ (i : Nat) (x : List Int), i + d = l.length → x.length = l.length → (∀ j, j < i → x[j]? = l[j]?) → Ev (fun k => laws_toInt64S.l0 k l x (i : Int)) l := by
  induction d with
  | zero =>
    intro i x hi hx ht
    refine Ev.step (fun k => by rw [laws_toInt64S.l0]) ?_
    simp only [if_neg (show ¬ (i : Int) < (l.length : Int) by omega)]
    obtain rfl : x = l := ext_at hx (fun j hj => ht j (by omega))
    exact Ev.now _
  | succ d ih =>
    intro i x hi hx ht
    refine Ev.step (fun k => by rw [laws_toInt64S.l0]) ?_
    simp only [if_pos (show (i : Int) < (l.length : Int) by omega), if_pos (show 0 ≤ (i : Int) by omega), if_pos (show (i : Int) < (x.length : Int) by omega), wrap_succ (show i < 9223372036854775807 by omega), Int.toNat_natCast]
    refine ih (i + 1) _ (by omega) (by simpa using hx) (fun j hj => ?_)
    rw [List.getElem?_set]
    by_cases e : i = j
    · subst e
      rw [if_pos rfl, if_pos (by omega), rd_lt l i (by omega), List.getElem?_eq_getElem (by omega)]
    · rw [if_neg e]; exact ht j (by omega)
theorem toInt64S_ev (l : List Int) (hl : l.length ≤ 1048576) : Ev (fun k => laws_toInt64S.f k l) l := by
  simp only [laws_toInt64S.f, if_pos (show 0 ≤ (l.length : Int) by omega), Int.toNat_natCast, if_pos (show l.length ≤ 35184372088832 by omega)]
  exact toInt64S_l l hl l.length 0 _ (by omega) (by simp) (fun j hj => by omega)


theorem eqInt64S_l (a b : List Int) (hl : a.length = b.length) (ha : a.length ≤ 9223372036854775807) (d : Nat) : ∀ (i : Nat), i + d = a.length → Ev (fun k => laws_eqInt64S.l0 k a b (i : Int)) (decide (a.drop i = b.drop i)) := by
  induction d with
  | zero =>
    intro i hi
    refine Ev.step (fun k => by rw [laws_eqInt64S.l0]) ?_
    simp only [if_neg (show ¬ (i : Int) < (a.length : Int) by omega)]
    rw [List.drop_of_length_le (show a.length ≤ i by omega), List.drop_of_length_le (show b.length ≤ i by omega)]
    simp only [decide_true]
    exact Ev.now _
  | succ d ih =>
    intro i hi
    refine Ev.step (fun k => by rw [laws_eqInt64S.l0]) ?_
    simp only [if_pos (show (i : Int) < (a.length : Int) by omega), if_pos (show 0 ≤ (i : Int) by omega), if_pos (show (i : Int) < (b.length : Int) by omega), wrap_succ (show i < 9223372036854775807 by omega)]
    rw [drop_rd a i (by omega), drop_rd b i (by omega)]
    by_cases e : rd a (i : Int) = rd b (i : Int)
    · simp only [if_pos e]
      exact (ih (i + 1) (by omega)).cast (by simp [e])
    · simp only [if_neg e]
      exact (Ev.now false).cast (by simp [e])
theorem eqInt64S_ev (a b : List Int) (ha : a.length ≤ 9223372036854775807) : Ev (fun k => laws_eqInt64S.f k a b) (decide (a = b)) := by
  simp only [laws_eqInt64S.f]
  by_cases hl : a.length = b.length
  · simp only [if_pos (show (a.length : Int) = (b.length : Int) by omega)]
    exact (eqInt64S_l a b hl ha a.length 0 (by omega)).cast (by simp)
  · simp only [if_neg (show ¬ (a.length : Int) = (b.length : Int) by omega)]
    exact (Ev.now false).cast (by have : a ≠ b := (fun e => hl (by rw [e])); simp [this])

def bs (l : List UInt8) : ByteArray := ⟨l.toArray⟩
theorem bs_size (l : List UInt8) : (bs l).size = l.length := by simp [bs, ByteArray.size]
theorem bs_app (a b : List UInt8) : bs a ++ bs b = bs (a ++ b) := by
  apply ByteArray.ext
  simp [bs, ByteArray.data_append]
theorem bs_ne (x : UInt8) (l : List UInt8) : (bs (x :: l)).toList ≠ [] := by
  intro h
  rw [ByteArray.toList_eq] at h
  simp [bs] at h
theorem nums1 (d : Nat) (h : d < 10) : strOfNums [(wrap64 (48 + (d : Int))) % 256] = bs [UInt8.ofNat (48 + d)] := by
  rw [wrap_id (by omega) (by omega), Int.emod_eq_of_lt (by omega) (by omega)]
  simp only [strOfNums, bs, List.map_cons, List.map_nil]
  rw [show ((48 : Int) + (d : Int)).toNat = 48 + d by omega]
theorem l1Int_fin (x : UInt8) (l : List UInt8) : Ev (fun k => spec_l1Int.l0 k 0 (bs (x :: l)) false) (bs (x :: l)) := by
  refine Ev.step (fun k => by rw [spec_l1Int.l0]) ?_
  simp only [if_neg (bs_ne x l)]
  refine Ev.step (fun k => by rw [spec_l1Int.j1]) ?_
  simp only [bne_self_eq_false, Bool.false_eq_true, if_false]
  exact Ev.now _
theorem l1Int_step (n : Nat) (s : List UInt8) (r : ByteArray) (h : s = [] ∨ n ≠ 0) (hs : n + s.length ≤ 1000000) (hr : Ev (fun k => spec_l1Int.l0 k ((n / 10 : Nat) : Int) (bs (UInt8.ofNat (48 + n % 10) :: s)) false) r) : Ev (fun k => spec_l1Int.l0 k (n : Int) (bs s) false) r := by
  have key : Ev (fun k => spec_l1Int.j1 k (n : Int) (bs s) false true) r := by
    refine Ev.step (fun k => by rw [spec_l1Int.j1]) ?_
    have hm : Int.tmod (n : Int) 10 = ((n % 10 : Nat) : Int) := by rw [Int.tmod_eq_emod_of_nonneg (by omega)]; omega
    have hd : wrap64 (Int.tdiv (n : Int) 10) = ((n / 10 : Nat) : Int) := by rw [Int.tdiv_eq_ediv_of_nonneg (by omega), wrap_id (by omega) (by omega)]; omega
    simp only [if_true, hm, hd, if_neg (show ¬ ((n % 10 : Nat) : Int) < 0 by omega), Option.bind_some, nums1 (n % 10) (by omega), bs_app, bs_size, List.length_cons, List.length_nil, List.cons_append, List.nil_append]
    simp only [if_pos (show 0 + 1 + s.length ≤ 9223372036854775807 by omega)]
    exact hr
  refine Ev.step (fun k => by rw [spec_l1Int.l0]) ?_
  by_cases hn : (bs s).toList = []
  · simp only [if_pos hn]; exact key
  · simp only [if_neg hn]
    have h0 : n ≠ 0 := by
      rcases h with h | h
      · subst h; exact absurd (by rw [ByteArray.toList_eq]; simp [bs]) hn
      · exact h
    have : ((n : Int) != 0) = true := bne_iff_ne.mpr (by omega)
    simp only [this]; exact key
theorem l1Int_l (n : Nat) : ∀ s : List UInt8, (s = [] ∨ n ≠ 0) → n + s.length ≤ 1000000 → Ev (fun k => spec_l1Int.l0 k (n : Int) (bs s) false) (bs (Lib.decDigits n ++ s)) := by
  induction n using Nat.strongRecOn with
  | _ n ih =>
    intro s h hs
    refine l1Int_step n s _ h hs ?_
    by_cases h10 : n < 10
    · rw [show n / 10 = 0 by omega, Lib.decDigits, dif_pos h10, show n % 10 = n by omega]
      exact l1Int_fin _ _
    · rw [Lib.decDigits, dif_neg h10]
      refine (ih (n / 10) (by omega) (UInt8.ofNat (48 + n % 10) :: s) (.inr (by omega)) (by rw [List.length_cons]; omega)).cast ?_
      rw [List.append_assoc]; rfl
theorem l1Int_ev (n : Nat) (h : n ≤ 900000) : Ev (fun k => spec_l1Int.f k (n : Int)) (bs (Lib.itoa (n : Int))) := by
  simp only [spec_l1Int.f, decide_eq_false (show ¬ (n : Int) < 0 by omega)]
  refine (l1Int_l n [] (.inl rfl) (by simp; omega)).cast ?_
  rw [List.append_nil, Lib.itoa, if_neg (by omega)]; simp
theorem formatInt_eq (n : Nat) (h : n ≤ 900000) : strconv_FormatInt_19.f (n : Int) 10 = some (bs (Lib.itoa (n : Int))) := by
  unfold strconv_FormatInt_19.f
  rw [if_pos ⟨rfl, by omega, by omega⟩]; rfl
theorem itoa_size (n : Nat) (h : n ≤ 900000) : 1 ≤ (bs (Lib.itoa (n : Int))).size ∧ (bs (Lib.itoa (n : Int))).size ≤ 21 := by
  rw [bs_size]
  refine ⟨?_, Lib.itoa_length_le _ (by omega) (by omega)⟩
  rw [Lib.itoa, if_neg (by omega), Lib.decDigits]
  split <;> simp
def sh (l : List Int) : Nat → ByteArray → ByteArray
  | 0, s => s
  | i + 1, s => sh l i (s ++ (bs (Lib.itoa (rd l (i : Int) + 10000))).extract 1 (bs (Lib.itoa (rd l (i : Int) + 10000))).size)
theorem sh_room (l : List Int) (m i : Nat) (s : ByteArray) (hm : m ≤ 9999) (hs : s.size + 30 * (i + 1) ≤ 1000000) : s.size + ((bs (Lib.itoa ((m + 10000 : Nat) : Int))).extract 1 (bs (Lib.itoa ((m + 10000 : Nat) : Int))).size).size ≤ 9223372036854775807 ∧ (s ++ (bs (Lib.itoa ((m + 10000 : Nat) : Int))).extract 1 (bs (Lib.itoa ((m + 10000 : Nat) : Int))).size).size + 30 * i ≤ 1000000 := by
  have := itoa_size (m + 10000) (by omega)
  rw [ByteArray.size_append, ByteArray.size_extract]
  omega
theorem specShow_l (l : List Int) (hl : ∀ i : Nat, i < l.length → 0 ≤ rd l (i : Int) ∧ rd l (i : Int) ≤ 9999) (i : Nat) : ∀ s : ByteArray, i ≤ l.length → i ≤ 100 → s.size + 30 * i ≤ 1000000 → Ev (fun k => spec_ShowNat.l0 k l s ((i : Int) - 1)) (sh l i s) := by
  induction i with
  | zero =>
    intro s _ _ _
    refine Ev.step (fun k => by rw [spec_ShowNat.l0]) ?_
    simp only [if_neg (show ¬ ((0 : Nat) : Int) - 1 ≥ 0 by omega)]
    exact Ev.now _
  | succ i ih =>
    intro s hi h1 hs
    obtain ⟨h0, h9⟩ := hl i (by omega)
    obtain ⟨m, hm⟩ : ∃ m : Nat, rd l (i : Int) = (m : Int) := ⟨(rd l (i : Int)).toNat, by omega⟩
    have hw : wrap64 ((m : Int) + 10000) = ((m + 10000 : Nat) : Int) := by rw [wrap_id (by omega) (by omega)]; omega
    have hz : ((i + 1 : Nat) : Int) - 1 = (i : Int) := by omega
    have hr := sh_room l m i s (by omega) hs
    refine Ev.step (fun k => by rw [spec_ShowNat.l0]) ?_
    simp only [hz, if_pos (show (i : Int) ≥ 0 by omega), if_pos (show 0 ≤ (i : Int) by omega), if_pos (show (i : Int) < (l.length : Int) by omega), hm, hw]
    refine Ev.bind (l1Int_ev (m + 10000) (by omega)) ?_
    have := itoa_size (m + 10000) (by omega)
    simp only [if_pos (show (1 : Int) ≤ ((bs (Lib.itoa ((m + 10000 : Nat) : Int))).size : Int) by omega), if_pos hr.1, wrap_id (show -9223372036854775808 ≤ (i : Int) - 1 by omega) (by omega)]
    refine (ih _ (by omega) (by omega) hr.2).cast ?_
    rw [sh, hm]; rfl
theorem implShow_l (l : List Int) (hl : ∀ i : Nat, i < l.length → 0 ≤ rd l (i : Int) ∧ rd l (i : Int) ≤ 9999) (i : Nat) : ∀ s : ByteArray, i ≤ l.length → i ≤ 100 → s.size + 30 * i ≤ 1000000 → Ev (fun k => impl_ShowNat.l0 k l s ((i : Int) - 1)) (sh l i s) := by
  induction i with
  | zero =>
    intro s _ _ _
    refine Ev.step (fun k => by rw [impl_ShowNat.l0]) ?_
    simp only [if_neg (show ¬ ((0 : Nat) : Int) - 1 ≥ 0 by omega)]
    exact Ev.now _
  | succ i ih =>
    intro s hi h1 hs
    obtain ⟨h0, h9⟩ := hl i (by omega)
    obtain ⟨m, hm⟩ : ∃ m : Nat, rd l (i : Int) = (m : Int) := ⟨(rd l (i : Int)).toNat, by omega⟩
    have hw : wrap64 (10000 + (m : Int)) = ((m + 10000 : Nat) : Int) := by rw [wrap_id (by omega) (by omega)]; omega
    have hz : ((i + 1 : Nat) : Int) - 1 = (i : Int) := by omega
    have hr := sh_room l m i s (by omega) hs
    refine Ev.step (fun k => by rw [impl_ShowNat.l0]) ?_
    simp only [hz, if_pos (show (i : Int) ≥ 0 by omega), if_pos (show 0 ≤ (i : Int) by omega), if_pos (show (i : Int) < (l.length : Int) by omega), hm, hw, formatInt_eq (m + 10000) (by omega), Option.bind_some]
    have := itoa_size (m + 10000) (by omega)
    simp only [if_pos (show (1 : Int) ≤ ((bs (Lib.itoa ((m + 10000 : Nat) : Int))).size : Int) by omega), if_pos hr.1, wrap_id (show -9223372036854775808 ≤ (i : Int) - 1 by omega) (by omega)]
    refine (ih _ (by omega) (by omega) hr.2).cast ?_
    rw [sh, hm]; rfl
def shown (l : List Int) : ByteArray := if nok l = true then (if l.length = 0 then ⟨#[48]⟩ else sh l (l.length - 1) (bs (Lib.itoa (rd l ((l.length : Int) - 1))))) else ⟨#[]⟩
theorem nok_each {l : List Int} (h : nok l = true) : l.length ≤ 100 ∧ ∀ i : Nat, i < l.length → 0 ≤ rd l (i : Int) ∧ rd l (i : Int) ≤ 9999 := by
  simp only [nok, Bool.and_eq_true, List.all_eq_true, decide_eq_true_eq] at h
  refine ⟨h.1.2, fun i hi => ?_⟩
  rw [rd_lt l i hi]
  exact h.1.1 _ (List.getElem_mem hi)
theorem specShow_ev (l : List Int) (hl : l.length ≤ 1048576) : Ev (fun k => spec_ShowNat.f k l) (shown l) := by
  simp only [spec_ShowNat.f]
  refine Ev.bind (specNatOk_ev l (by omega)) ?_
  by_cases h : nok l = true
  · simp only [h, if_true, shown]
    obtain ⟨hl1, he⟩ := nok_each h
    by_cases h0 : l.length = 0
    · simp only [h0, Int.natCast_zero, if_true]; exact Ev.now _
    · have hw : wrap64 ((l.length : Int) - 1) = (l.length : Int) - 1 := wrap_id (by omega) (by omega)
      have hw2 : wrap64 ((l.length : Int) - 2) = ((l.length - 1 : Nat) : Int) - 1 := by rw [wrap_id (by omega) (by omega)]; omega
      obtain ⟨ha, hb⟩ := he (l.length - 1) (by omega)
      rw [show ((l.length - 1 : Nat) : Int) = (l.length : Int) - 1 by omega] at ha hb
      obtain ⟨m, hm⟩ : ∃ m : Nat, rd l ((l.length : Int) - 1) = (m : Int) := ⟨(rd l ((l.length : Int) - 1)).toNat, by omega⟩
      simp only [if_neg (show ¬ (l.length : Int) = 0 by omega), if_neg h0, hw, if_pos (show 0 ≤ (l.length : Int) - 1 by omega), if_pos (show (l.length : Int) - 1 < (l.length : Int) by omega), hm]
      refine Ev.bind (l1Int_ev m (by omega)) ?_
      have := itoa_size m (by omega)
      simp only [hw2]
      exact specShow_l l he (l.length - 1) _ (by omega) (by omega) (by omega)
  · rw [Bool.not_eq_true] at h
    simp only [h, Bool.false_eq_true, if_false, shown]; exact Ev.now _
theorem implShow_ev (l : List Int) (hl : l.length ≤ 1048576) : Ev (fun k => impl_ShowNat.f k l) (shown l) := by
  simp only [impl_ShowNat.f]
  refine Ev.bind (implNatOk_ev l) ?_
  by_cases h : nok l = true
  · simp only [h, if_true, shown]
    obtain ⟨hl1, he⟩ := nok_each h
    by_cases h0 : l.length = 0
    · simp only [h0, Int.natCast_zero, if_true]; exact Ev.now _
    · have hw : wrap64 ((l.length : Int) - 1) = (l.length : Int) - 1 := wrap_id (by omega) (by omega)
      have hw2 : wrap64 ((l.length : Int) - 2) = ((l.length - 1 : Nat) : Int) - 1 := by rw [wrap_id (by omega) (by omega)]; omega
      obtain ⟨ha, hb⟩ := he (l.length - 1) (by omega)
      rw [show ((l.length - 1 : Nat) : Int) = (l.length : Int) - 1 by omega] at ha hb
      obtain ⟨m, hm⟩ : ∃ m : Nat, rd l ((l.length : Int) - 1) = (m : Int) := ⟨(rd l ((l.length : Int) - 1)).toNat, by omega⟩
      have := itoa_size m (by omega)
      simp only [if_neg (show ¬ (l.length : Int) = 0 by omega), if_neg h0, hw, if_pos (show 0 ≤ (l.length : Int) - 1 by omega), if_pos (show (l.length : Int) - 1 < (l.length : Int) by omega), hm, formatInt_eq m (by omega), Option.bind_some, hw2]
      exact implShow_l l he (l.length - 1) _ (by omega) (by omega) (by omega)
  · rw [Bool.not_eq_true] at h
    simp only [h, Bool.false_eq_true, if_false, shown]; exact Ev.now _
theorem FnExactShowNat : laws_FnExactShowNat.Pure := by
  intro a _ _ _
  refine Ev.rounds ?_
  simp only [laws_FnExactShowNat.f]
  by_cases h : (a.length : Int) > 1048576
  · simp only [if_pos h]; exact Ev.now _
  · simp only [if_neg h]
    have hl : a.length ≤ 1048576 := by omega
    refine Ev.bind (toInt64S_ev a hl) ?_
    refine Ev.bind (specShow_ev a hl) ?_
    refine Ev.bind (toInt64S_ev a hl) ?_
    refine Ev.bind (implShow_ev a hl) ?_
    simp only [if_true]
    refine Ev.bind (toInt64S_ev a hl) ?_
    refine Ev.bind (eqInt64S_ev a a (by omega)) ?_
    simp only [decide_true, if_true]
    exact Ev.now _
end Go.Proofs.YtlaliacfonfflaaDoor.Pure

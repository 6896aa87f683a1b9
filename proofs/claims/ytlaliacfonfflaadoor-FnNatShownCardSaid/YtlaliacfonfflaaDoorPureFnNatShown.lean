/- FnNatShown answers true for every code: what is shown of a number is its digits, and ten times it has a nought more; no condition. -/
import Derived.Test.YtlaliacfonfflaaDoorPFnNatShownx5
import Derived.Test.YtlaliacfonfflaaDoorNt
import Derived.Test.YtlaliacfonfflaaDoorBits
set_option linter.unusedVariables false
set_option linter.unusedSimpArgs false
namespace Go.Proofs.YtlaliacfonfflaaDoor.Pure
open Go.RowKit Go.Proofs.YtlaliacfonfflaaDoor.PFnNatShown Go.Proofs.YtlaliacfonfflaaDoorW.PrintWords Go.Proofs.YtlaliacfonfflaaDoorW.PrintLast Go.Proofs.YtlaliacfonfflaaDoorW.PrintMore Go.Proofs.YtlaliacfonfflaaDoor.Bs

theorem l1In_eq (a b c : Int) : spec_l1In.f a b c = some (decide (b ≤ a) && decide (a ≤ c)) := by
  unfold spec_l1In.f
  by_cases h : a ≥ b
  · rw [if_pos h]; simp [show b ≤ a from h]
  · rw [if_neg h]; simp [show ¬ b ≤ a from h]
theorem specNatOk_l (x : List Int) (hx : x.length ≤ 4611686018427387904) (d : Nat) : ∀ i : Nat, i + d = x.length → Ev (fun k => spec_NatOk.l0 k x (i : Int)) (((x.drop i).all fun y => decide (0 ≤ y) && decide (y ≤ 9999)) && decide (x.length ≤ 100) && (x.isEmpty || rd x ((x.length : Int) - 1) != 0)) := by
  induction d with
  | zero =>
    intro i hi
    refine Ev.step (fun k => by rw [spec_NatOk.l0]) ?_
    simp only [if_neg (show ¬ (i : Int) < (x.length : Int) by omega)]
    rw [List.drop_of_length_le (show x.length ≤ i by omega)]
    by_cases h1 : x.length ≤ 100
    · simp only [if_pos (show (x.length : Int) ≤ 100 by omega)]
      by_cases h2 : x.length = 0
      · simp only [if_pos (show (x.length : Int) = 0 by omega)]
        exact (Ev.now true).cast (by simp [List.length_eq_zero_iff.1 h2])
      · have hw : wrap64 ((x.length : Int) - 1) = (x.length : Int) - 1 := wrap_id (by omega) (by omega)
        simp only [if_neg (show ¬ (x.length : Int) = 0 by omega), hw, if_pos (show 0 ≤ (x.length : Int) - 1 by omega), if_pos (show (x.length : Int) - 1 < (x.length : Int) by omega)]
        have hne : x.isEmpty = false := by cases x; simp at h2; rfl
        exact (Ev.now _).cast (by simp [h1, hne])
    · simp only [if_neg (show ¬ (x.length : Int) ≤ 100 by omega)]
      exact (Ev.now false).cast (by simp [h1])
  | succ d ih =>
    intro i hi
    refine Ev.step (fun k => by rw [spec_NatOk.l0]) ?_
    simp only [if_pos (show (i : Int) < (x.length : Int) by omega), if_pos (show 0 ≤ (i : Int) by omega), l1In_eq, Option.bind_some, wrap_succ (show i < 9223372036854775807 by omega)]
    rw [drop_rd x i (by omega), List.all_cons]
    by_cases h : (decide (0 ≤ rd x (i : Int)) && decide (rd x (i : Int) ≤ 9999)) = true
    · simp only [if_pos h]
      exact (ih (i + 1) (by omega)).cast (by rw [h]; simp)
    · simp only [if_neg h]
      exact (Ev.now false).cast (by rw [Bool.not_eq_true] at h; rw [h]; simp)
theorem specNatOk_ev (x : List Int) (hx : x.length ≤ 4611686018427387904) : Ev (fun k => spec_NatOk.f k x) (nok x) := by
  simp only [spec_NatOk.f]
  exact (specNatOk_l x hx x.length 0 (by omega)).cast (by simp [nok])

theorem implNatOk_l (x : List Int) (hx : x.length ≤ 100) (d : Nat) : ∀ i : Nat, i + d = x.length → Ev (fun k => impl_NatOk.l0 k x x (x.length : Int) (i : Int)) (((x.drop i).all fun y => decide (0 ≤ y) && decide (y ≤ 9999)) && (x.isEmpty || rd x ((x.length : Int) - 1) != 0)) := by
  induction d with
  | zero =>
    intro i hi
    refine Ev.step (fun k => by rw [impl_NatOk.l0]) ?_
    simp only [if_neg (show ¬ (i : Int) < (x.length : Int) by omega)]
    rw [List.drop_of_length_le (show x.length ≤ i by omega)]
    by_cases h2 : x.length = 0
    · simp only [if_pos (show (x.length : Int) = 0 by omega)]
      exact (Ev.now true).cast (by simp [List.length_eq_zero_iff.1 h2])
    · have hw : wrap64 ((x.length : Int) - 1) = (x.length : Int) - 1 := wrap_id (by omega) (by omega)
      simp only [if_neg (show ¬ (x.length : Int) = 0 by omega), hw, if_pos (show 0 ≤ (x.length : Int) - 1 by omega), if_pos (show (x.length : Int) - 1 < (x.length : Int) by omega)]
      have hne : x.isEmpty = false := by cases x; simp at h2; rfl
      exact (Ev.now _).cast (by simp [hne])
  | succ d ih =>
    intro i hi
    refine Ev.step (fun k => by rw [impl_NatOk.l0]) ?_
    simp only [if_pos (show (i : Int) < (x.length : Int) by omega), if_pos (show 0 ≤ (i : Int) by omega), wrap_succ (show i < 9223372036854775807 by omega)]
    rw [drop_rd x i (by omega), List.all_cons]
    by_cases h : rd x (i : Int) < 0
    · simp only [if_pos h]
      exact (Ev.now false).cast (by rw [decide_eq_false (show ¬ 0 ≤ rd x (i : Int) by omega)]; simp)
    · simp only [if_neg h]
      by_cases h' : rd x (i : Int) ≥ 10000
      · simp only [if_pos h']
        exact (Ev.now false).cast (by rw [decide_eq_false (show ¬ rd x (i : Int) ≤ 9999 by omega)]; simp)
      · simp only [if_neg h']
        exact (ih (i + 1) (by omega)).cast (by rw [decide_eq_true (show 0 ≤ rd x (i : Int) by omega), decide_eq_true (show rd x (i : Int) ≤ 9999 by omega)]; simp)
theorem implNatOk_ev (x : List Int) : Ev (fun k => impl_NatOk.f k x) (nok x) := by
  simp only [impl_NatOk.f]
  by_cases h : x.length ≤ 100
  · simp only [if_neg (show ¬ (x.length : Int) > 100 by omega)]
    exact (implNatOk_l x h x.length 0 (by omega)).cast (by simp [nok, h])
  · simp only [if_pos (show (x.length : Int) > 100 by omega)]
    exact (Ev.now false).cast (by simp [nok, h])

def bs (l : List UInt8) : ByteArray := ⟨l.toArray⟩
theorem bs_size (l : List UInt8) : (bs l).size = l.length := by simp [bs, ByteArray.size]
theorem bs_app (a b : List UInt8) : bs a ++ bs b = bs (a ++ b) := by
  apply ByteArray.ext
  simp [bs, ByteArray.data_append]
theorem bs_ne (x : UInt8) (l : List UInt8) : (bs (x :: l)).toList ≠ [] := by
  intro h
  rw [ByteArray.toList_eq] at h
  simp [bs] at h
theorem nums1 (d : Nat) (h : d < 10) : strOfNums [(wrap64 (48 + (d : Int))) % 256] = bs [UInt8.ofNat (48 + d)] := by
  rw [wrap_id (by omega) (by omega), Int.emod_eq_of_lt (by omega) (by omega)]
  simp only [strOfNums, bs, List.map_cons, List.map_nil]
  rw [show ((48 : Int) + (d : Int)).toNat = 48 + d by omega]
theorem l1Int_fin (x : UInt8) (l : List UInt8) : Ev (fun k => spec_l1Int.l0 k 0 (bs (x :: l)) false) (bs (x :: l)) := by
  refine Ev.step (fun k => by rw [spec_l1Int.l0]) ?_
  simp only [if_neg (bs_ne x l)]
  refine Ev.step (fun k => by rw [spec_l1Int.j1]) ?_
  simp only [bne_self_eq_false, Bool.false_eq_true, if_false]
  exact Ev.now _
theorem l1Int_step (n : Nat) (s : List UInt8) (r : ByteArray) (h : s = [] ∨ n ≠ 0) (hs : n + s.length ≤ 1000000) (hr : Ev (fun k => spec_l1Int.l0 k ((n / 10 : Nat) : Int) (bs (UInt8.ofNat (48 + n % 10) :: s)) false) r) : Ev (fun k => spec_l1Int.l0 k (n : Int) (bs s) false) r := by
  have key : Ev (fun k => spec_l1Int.j1 k (n : Int) (bs s) false true) r := by
    refine Ev.step (fun k => by rw [spec_l1Int.j1]) ?_
    have hm : Int.tmod (n : Int) 10 = ((n % 10 : Nat) : Int) := by rw [Int.tmod_eq_emod_of_nonneg (by omega)]; omega
    have hd : wrap64 (Int.tdiv (n : Int) 10) = ((n / 10 : Nat) : Int) := by rw [Int.tdiv_eq_ediv_of_nonneg (by omega), wrap_id (by omega) (by omega)]; omega
    simp only [if_true, hm, hd, if_neg (show ¬ ((n % 10 : Nat) : Int) < 0 by omega), Option.bind_some, nums1 (n % 10) (by omega), bs_app, bs_size, List.length_cons, List.length_nil, List.cons_append, List.nil_append]
    simp only [if_pos (show 0 + 1 + s.length ≤ 9223372036854775807 by omega)]
    exact hr
  refine Ev.step (fun k => by rw [spec_l1Int.l0]) ?_
  by_cases hn : (bs s).toList = []
  · simp only [if_pos hn]; exact key
  · simp only [if_neg hn]
    have h0 : n ≠ 0 := by
      rcases h with h | h
      · subst h; exact absurd (by rw [ByteArray.toList_eq]; simp [bs]) hn
      · exact h
    have : ((n : Int) != 0) = true := bne_iff_ne.mpr (by omega)
    simp only [this]; exact key
theorem l1Int_l (n : Nat) : ∀ s : List UInt8, (s = [] ∨ n ≠ 0) → n + s.length ≤ 1000000 → Ev (fun k => spec_l1Int.l0 k (n : Int) (bs s) false) (bs (Lib.decDigits n ++ s)) := by
  induction n using Nat.strongRecOn with
  | _ n ih =>
    intro s h hs
    refine l1Int_step n s _ h hs ?_
    by_cases h10 : n < 10
    · rw [show n / 10 = 0 by omega, Lib.decDigits, dif_pos h10, show n % 10 = n by omega]
      exact l1Int_fin _ _
    · rw [Lib.decDigits, dif_neg h10]
      refine (ih (n / 10) (by omega) (UInt8.ofNat (48 + n % 10) :: s) (.inr (by omega)) (by rw [List.length_cons]; omega)).cast ?_
      rw [List.append_assoc]; rfl
theorem l1Int_ev (n : Nat) (h : n ≤ 900000) : Ev (fun k => spec_l1Int.f k (n : Int)) (bs (Lib.itoa (n : Int))) := by
  simp only [spec_l1Int.f, decide_eq_false (show ¬ (n : Int) < 0 by omega)]
  refine (l1Int_l n [] (.inl rfl) (by simp; omega)).cast ?_
  rw [List.append_nil, Lib.itoa, if_neg (by omega)]; simp
theorem formatInt_eq (n : Nat) (h : n ≤ 900000) : strconv_FormatInt_19.f (n : Int) 10 = some (bs (Lib.itoa (n : Int))) := by
  unfold strconv_FormatInt_19.f
  rw [if_pos ⟨rfl, by omega, by omega⟩]; rfl
theorem itoa_size (n : Nat) (h : n ≤ 900000) : 1 ≤ (bs (Lib.itoa (n : Int))).size ∧ (bs (Lib.itoa (n : Int))).size ≤ 21 := by
  rw [bs_size]
  refine ⟨?_, Lib.itoa_length_le _ (by omega) (by omega)⟩
  rw [Lib.itoa, if_neg (by omega), Lib.decDigits]
  split <;> simp
def sh (l : List Int) : Nat → ByteArray → ByteArray
  | 0, s => s
  | i + 1, s => sh l i (s ++ (bs (Lib.itoa (rd l (i : Int) + 10000))).extract 1 (bs (Lib.itoa (rd l (i : Int) + 10000))).size)
theorem sh_room (l : List Int) (m i : Nat) (s : ByteArray) (hm : m ≤ 9999) (hs : s.size + 30 * (i + 1) ≤ 1000000) : s.size + ((bs (Lib.itoa ((m + 10000 : Nat) : Int))).extract 1 (bs (Lib.itoa ((m + 10000 : Nat) : Int))).size).size ≤ 9223372036854775807 ∧ (s ++ (bs (Lib.itoa ((m + 10000 : Nat) : Int))).extract 1 (bs (Lib.itoa ((m + 10000 : Nat) : Int))).size).size + 30 * i ≤ 1000000 := by
  have := itoa_size (m + 10000) (by omega)
  rw [ByteArray.size_append, ByteArray.size_extract]
  omega
theorem specShow_l (l : List Int) (hl : ∀ i : Nat, i < l.length → 0 ≤ rd l (i : Int) ∧ rd l (i : Int) ≤ 9999) (i : Nat) : ∀ s : ByteArray, i ≤ l.length → i ≤ 100 → s.size + 30 * i ≤ 1000000 → Ev (fun k => spec_ShowNat.l0 k l s ((i : Int) - 1)) (sh l i s) := by
  induction i with
  | zero =>
    intro s _ _ _
    refine Ev.step (fun k => by rw [spec_ShowNat.l0]) ?_
    simp only [if_neg (show ¬ ((0 : Nat) : Int) - 1 ≥ 0 by omega)]
    exact Ev.now _
  | succ i ih =>
    intro s hi h1 hs
    obtain ⟨h0, h9⟩ := hl i (by omega)
    obtain ⟨m, hm⟩ : ∃ m : Nat, rd l (i : Int) = (m : Int) := ⟨(rd l (i : Int)).toNat, by omega⟩
    have hw : wrap64 ((m : Int) + 10000) = ((m + 10000 : Nat) : Int) := by rw [wrap_id (by omega) (by omega)]; omega
    have hz : ((i + 1 : Nat) : Int) - 1 = (i : Int) := by omega
    have hr := sh_room l m i s (by omega) hs
    refine Ev.step (fun k => by rw [spec_ShowNat.l0]) ?_
    simp only [hz, if_pos (show (i : Int) ≥ 0 by omega), if_pos (show 0 ≤ (i : Int) by omega), if_pos (show (i : Int) < (l.length : Int) by omega), hm, hw]
    refine Ev.bind (l1Int_ev (m + 10000) (by omega)) ?_
    have := itoa_size (m + 10000) (by omega)
    simp only [if_pos (show (1 : Int) ≤ ((bs (Lib.itoa ((m + 10000 : Nat) : Int))).size : Int) by omega), if_pos hr.1, wrap_id (show -9223372036854775808 ≤ (i : Int) - 1 by omega) (by omega)]
    refine (ih _ (by omega) (by omega) hr.2).cast ?_
    rw [sh, hm]; rfl
theorem implShow_l (l : List Int) (hl : ∀ i : Nat, i < l.length → 0 ≤ rd l (i : Int) ∧ rd l (i : Int) ≤ 9999) (i : Nat) : ∀ s : ByteArray, i ≤ l.length → i ≤ 100 → s.size + 30 * i ≤ 1000000 → Ev (fun k => impl_ShowNat.l0 k l s ((i : Int) - 1)) (sh l i s) := by
  induction i with
  | zero =>
    intro s _ _ _
    refine Ev.step (fun k => by rw [impl_ShowNat.l0]) ?_
    simp only [if_neg (show ¬ ((0 : Nat) : Int) - 1 ≥ 0 by omega)]
    exact Ev.now _
  | succ i ih =>
    intro s hi h1 hs
    obtain ⟨h0, h9⟩ := hl i (by omega)
    obtain ⟨m, hm⟩ : ∃ m : Nat, rd l (i : Int) = (m : Int) := ⟨(rd l (i : Int)).toNat, by omega⟩
    have hw : wrap64 (10000 + (m : Int)) = ((m + 10000 : Nat) : Int) := by rw [wrap_id (by omega) (by omega)]; omega
    have hz : ((i + 1 : Nat) : Int) - 1 = (i : Int) := by omega
    have hr := sh_room l m i s (by omega) hs
    refine Ev.step (fun k => by rw [impl_ShowNat.l0]) ?_
    simp only [hz, if_pos (show (i : Int) ≥ 0 by omega), if_pos (show 0 ≤ (i : Int) by omega), if_pos (show (i : Int) < (l.length : Int) by omega), hm, hw, formatInt_eq (m + 10000) (by omega), Option.bind_some]
    have := itoa_size (m + 10000) (by omega)
    simp only [if_pos (show (1 : Int) ≤ ((bs (Lib.itoa ((m + 10000 : Nat) : Int))).size : Int) by omega), if_pos hr.1, wrap_id (show -9223372036854775808 ≤ (i : Int) - 1 by omega) (by omega)]
    refine (ih _ (by omega) (by omega) hr.2).cast ?_
    rw [sh, hm]; rfl
def shown (l : List Int) : ByteArray := if nok l = true then (if l.length = 0 then ⟨#[48]⟩ else sh l (l.length - 1) (bs (Lib.itoa (rd l ((l.length : Int) - 1))))) else ⟨#[]⟩
theorem nok_each {l : List Int} (h : nok l = true) : l.length ≤ 100 ∧ ∀ i : Nat, i < l.length → 0 ≤ rd l (i : Int) ∧ rd l (i : Int) ≤ 9999 := by
  simp only [nok, Bool.and_eq_true, List.all_eq_true, decide_eq_true_eq] at h
  refine ⟨h.1.2, fun i hi => ?_⟩
  rw [rd_lt l i hi]
  exact h.1.1 _ (List.getElem_mem hi)
theorem specShow_ev (l : List Int) (hl : l.length ≤ 1048576) : Ev (fun k => spec_ShowNat.f k l) (shown l) := by
  simp only [spec_ShowNat.f]
  refine Ev.bind (specNatOk_ev l (by omega)) ?_
  by_cases h : nok l = true
  · simp only [h, if_true, shown]
    obtain ⟨hl1, he⟩ := nok_each h
    by_cases h0 : l.length = 0
    · simp only [h0, Int.natCast_zero, if_true]; exact Ev.now _
    · have hw : wrap64 ((l.length : Int) - 1) = (l.length : Int) - 1 := wrap_id (by omega) (by omega)
      have hw2 : wrap64 ((l.length : Int) - 2) = ((l.length - 1 : Nat) : Int) - 1 := by rw [wrap_id (by omega) (by omega)]; omega
      obtain ⟨ha, hb⟩ := he (l.length - 1) (by omega)
      rw [show ((l.length - 1 : Nat) : Int) = (l.length : Int) - 1 by omega] at ha hb
      obtain ⟨m, hm⟩ : ∃ m : Nat, rd l ((l.length : Int) - 1) = (m : Int) := ⟨(rd l ((l.length : Int) - 1)).toNat, by omega⟩
      simp only [if_neg (show ¬ (l.length : Int) = 0 by omega), if_neg h0, hw, if_pos (show 0 ≤ (l.length : Int) - 1 by omega), if_pos (show (l.length : Int) - 1 < (l.length : Int) by omega), hm]
      refine Ev.bind (l1Int_ev m (by omega)) ?_
      have := itoa_size m (by omega)
      simp only [hw2]
      exact specShow_l l he (l.length - 1) _ (by omega) (by omega) (by omega)
  · rw [Bool.not_eq_true] at h
    simp only [h, Bool.false_eq_true, if_false, shown]; exact Ev.now _
theorem implShow_ev (l : List Int) (hl : l.length ≤ 1048576) : Ev (fun k => impl_ShowNat.f k l) (shown l) := by
  simp only [impl_ShowNat.f]
  refine Ev.bind (implNatOk_ev l) ?_
  by_cases h : nok l = true
  · simp only [h, if_true, shown]
    obtain ⟨hl1, he⟩ := nok_each h
    by_cases h0 : l.length = 0
    · simp only [h0, Int.natCast_zero, if_true]; exact Ev.now _
    · have hw : wrap64 ((l.length : Int) - 1) = (l.length : Int) - 1 := wrap_id (by omega) (by omega)
      have hw2 : wrap64 ((l.length : Int) - 2) = ((l.length - 1 : Nat) : Int) - 1 := by rw [wrap_id (by omega) (by omega)]; omega
      obtain ⟨ha, hb⟩ := he (l.length - 1) (by omega)
      rw [show ((l.length - 1 : Nat) : Int) = (l.length : Int) - 1 by omega] at ha hb
      obtain ⟨m, hm⟩ : ∃ m : Nat, rd l ((l.length : Int) - 1) = (m : Int) := ⟨(rd l ((l.length : Int) - 1)).toNat, by omega⟩
      have := itoa_size m (by omega)
      simp only [if_neg (show ¬ (l.length : Int) = 0 by omega), if_neg h0, hw, if_pos (show 0 ≤ (l.length : Int) - 1 by omega), if_pos (show (l.length : Int) - 1 < (l.length : Int) by omega), hm, formatInt_eq m (by omega), Option.bind_some, hw2]
      exact implShow_l l he (l.length - 1) _ (by omega) (by omega) (by omega)
  · rw [Bool.not_eq_true] at h
    simp only [h, Bool.false_eq_true, if_false, shown]; exact Ev.now _

theorem implNatOf_l (n : Nat) : ∀ (hn : n ≤ 9223372036854775807) (x : List Int) (hx : x.length + n ≤ 17592186044416 ∨ x.length + (dg n).length < 100), Ev (fun k => impl_NatOf.l0 k (n : Int) x) (x ++ dg n) := by
  induction n using Nat.strongRecOn with
  | ind n ih =>
    intro hn x hx
    refine Ev.step (fun k => by rw [impl_NatOf.l0]) ?_
    rcases Nat.eq_zero_or_pos n with h | h
    · subst h
      simp only [if_neg (show ¬ ((0 : Nat) : Int) > 0 by omega)]
      exact (Ev.now _).cast (by simp [dg_zero])
    · have h1 : Int.tmod (n : Int) 10000 = ((n % 10000 : Nat) : Int) := by rw [Int.tmod_eq_emod_of_nonneg (by omega)]; omega
      have h2 : wrap64 (Int.tdiv (n : Int) 10000) = ((n / 10000 : Nat) : Int) := by rw [Int.tdiv_eq_ediv_of_nonneg (by omega), wrap_id (by omega) (by omega)]; omega
      have h3 : x.length < 17592186044416 := by omega
      have h4 : (dg n).length = (dg (n / 10000)).length + 1 := by rw [dg_pos h]; simp
      simp only [if_pos (show (n : Int) > 0 by omega), if_pos h3, h1, h2]
      refine (ih (n / 10000) (by omega) (by omega) (x ++ [((n % 10000 : Nat) : Int)]) (by simp; omega)).cast ?_
      rw [dg_pos h]; simp
theorem implNatOf_ev (a : Int) (h0 : 0 ≤ a) (h1 : a ≤ 9223372036854775807) : Ev (fun k => impl_NatOf.f k a) (dg a.toNat) := by
  obtain ⟨n, rfl⟩ := Int.eq_ofNat_of_zero_le h0
  simp only [impl_NatOf.f]
  have := dg_len64 (n := n) (by omega)
  exact (implNatOf_l n (by omega) [] (by simp; omega)).cast (by simp)
theorem implNatOf_neg (a : Int) (h0 : a < 0) : Ev (fun k => impl_NatOf.f k a) [] := by
  simp only [impl_NatOf.f]
  refine Ev.step (fun k => by rw [impl_NatOf.l0]) ?_
  simp only [if_neg (show ¬ a > 0 by omega)]
  exact Ev.now _

theorem place_eq (a : List Int) (i : Nat) : impl_great_place.f a (i : Int) = some (lm a (i : Int)) := by
  unfold impl_great_place.f lm
  split
  · rw [if_pos (by omega)]
  · rfl

theorem trimmed_l (d : Nat) : ∀ (a : List Int), a.length = d → d ≤ 4611686018427387904 → Ev (fun k => impl_great_trimmed.l0 k a) (tr a) := by
  induction d with
  | zero =>
    intro a ha hd
    refine Ev.step (fun k => by rw [impl_great_trimmed.l0]) ?_
    simp only [if_neg (show ¬ (a.length : Int) > 0 by omega)]
    exact (Ev.now _).cast (by rw [List.length_eq_zero_iff.1 ha]; rfl)
  | succ d ih =>
    intro a ha hd
    refine Ev.step (fun k => by rw [impl_great_trimmed.l0]) ?_
    have hw : wrap64 ((a.length : Int) - 1) = (d : Int) := by rw [ha, wrap_id (by omega) (by omega)]; omega
    simp only [if_pos (show (a.length : Int) > 0 by omega), hw, if_pos (show 0 ≤ (d : Int) by omega), if_pos (show (d : Int) < (a.length : Int) by omega), Int.toNat_natCast]
    have e := take_rd a d (by omega)
    rw [List.take_of_length_le (by omega)] at e
    by_cases c : rd a (d : Int) = 0
    · simp only [if_pos c, if_pos (show (d : Int) ≤ (a.length : Int) by omega)]
      refine (ih (a.take d) (by simp; omega) (by omega)).cast ?_
      rw [c] at e
      rw [show tr a = tr (a.take d ++ [0]) from congrArg tr e, tr_snoc0]
    · simp only [if_neg c]
      refine (Ev.now _).cast ?_
      rw [show tr a = tr (a.take d ++ [rd a (d : Int)]) from congrArg tr e, tr_snoc c, ← e]
theorem trimmed_ev (a : List Int) (h : a.length ≤ 4611686018427387904) : Ev (fun k => impl_great_trimmed.f k a) (tr a) := by
  simp only [impl_great_trimmed.f]
  exact trimmed_l a.length a rfl h

theorem dg_drop (m : Nat) (j : Nat) : (dg m).drop j = dg (m / 10000 ^ j) := by
  induction j with
  | zero => simp
  | succ j ih => rw [dg_step ih, Nat.pow_succ, Nat.div_div_eq_div_mul]
theorem dg_lm' (m j : Nat) : lm (dg m) (j : Int) = ((m / 10000 ^ j % 10000 : Nat) : Int) := dg_lm (dg_drop m j)
/-- -1, 0 or 1. -/
def cmpN (m n : Nat) : Int := if m < n then -1 else if m > n then 1 else 0
theorem up_lt {m n j : Nat} (h : m / 10000 ^ (j + 1) = n / 10000 ^ (j + 1)) (hl : m / 10000 ^ j % 10000 < n / 10000 ^ j % 10000) : m < n := by
  rcases Nat.lt_or_ge m n with h1 | h1
  · exact h1
  · exfalso
    have h2 : n / 10000 ^ j ≤ m / 10000 ^ j := Nat.div_le_div_right h1
    rw [Nat.pow_succ, ← Nat.div_div_eq_div_mul, ← Nat.div_div_eq_div_mul] at h
    omega
theorem up_eq {m n j : Nat} (h : m / 10000 ^ (j + 1) = n / 10000 ^ (j + 1)) (hl : m / 10000 ^ j % 10000 = n / 10000 ^ j % 10000) : m / 10000 ^ j = n / 10000 ^ j := by
  rw [Nat.pow_succ, ← Nat.div_div_eq_div_mul, ← Nat.div_div_eq_div_mul] at h
  omega
theorem top_zero {m j : Nat} (h : (dg m).length ≤ j) : m / 10000 ^ j = 0 := Nat.div_eq_of_lt (dg_len.1 h)
def cmpR (a b : List Int) : Int := if nok a = true ∧ nok b = true then cmpN (nv a) (nv b) else 2
theorem pw_len {j : Nat} (h : j ≤ 1000) : (dg (2 ^ j)).length ≤ 100 := by
  rw [dg_len]
  exact Nat.lt_of_le_of_lt (Nat.pow_le_pow_right (by omega) h) pow_room
theorem pw_nok {j : Nat} (h : j ≤ 1000) : nok (dg (2 ^ j)) = true := by rw [nok_dg]; exact decide_eq_true (pw_len h)
theorem pw_twice (j : Nat) : 2 ^ j + 2 ^ j = 2 ^ (j + 1) := by rw [Nat.pow_succ]; omega
theorem dg_one : ([1] : List Int) = dg (2 ^ 0) := by rw [dg_pos (by omega)]; simp [dg_zero]

theorem times_e3 {o w c : Nat} (ho : o < 10000) (hw : w ≤ 99980001) (hc : c ≤ 9999) : wrap64 (wrap64 ((o : Int) + (w : Int)) + (c : Int)) = ((o + w + c : Nat) : Int) := by
  rw [wrap_id (x := (o : Int) + (w : Int)) (by omega) (by omega), wrap_id (by omega) (by omega)]; omega
theorem times_hsm {o w c : Nat} (ho : o < 10000) (hw : w ≤ 99980001) (hc : c ≤ 9999) : wrap64 (((o + w + c) / 10000 : Nat) : Int) = (((o + w + c) / 10000 : Nat) : Int) := wrap_id (by omega) (by omega)
theorem times_c {o w c : Nat} (ho : o < 10000) (hw : w ≤ 99980001) (hc : c ≤ 9999) : (o + w + c) / 10000 ≤ 9999 := by omega
theorem times_e2 {x z w : Nat} (hw : x * z = w) (hxy : w ≤ 99980001) : wrap64 ((x : Int) * (z : Int)) = (w : Int) := by
  rw [← Int.natCast_mul, hw, wrap_id (by omega) (by omega)]
theorem times_z {o w c : Nat} (ho : o = 0) (hw : w = 0) (hc : c ≤ 9999) : (o + w + c) / 10000 = 0 := by omega
theorem times_dig (s : Nat) : 0 ≤ ((s % 10000 : Nat) : Int) ∧ ((s % 10000 : Nat) : Int) < 10000 := by omega
theorem times_in (a b : List Int) (hla : a.length ≤ 100) (hlb : b.length ≤ 100) (i x : Nat) (hi : i < a.length) (hx : x < 10000) (r : List Int) (d : Nat) : ∀ (j c nj P : Nat) (L : List Int), j + d = b.length + 1 → b.drop j = dg nj → (∀ _ : Unit, 10000 ^ (i + j) = P) → L.length = a.length + b.length →
    dok L → c ≤ 9999 → (∀ t : Nat, i + b.length + 1 ≤ t → rd L (t : Int) = 0) → (j ≤ b.length → rd L ((i + b.length : Nat) : Int) = 0) → (j ≤ b.length ∨ c = 0) →
    (∀ L' : List Int, L'.length = a.length + b.length → dok L' → (∀ t : Nat, i + b.length + 1 ≤ t → rd L' (t : Int) = 0) → nv L' = nv L + (c + x * nj) * P → Ev (fun k => impl_great_times.l0 k b L' a (a.length : Int) ((i + 1 : Nat) : Int)) r) →
    Ev (fun k => impl_great_times.l1 k b L (i : Int) (x : Int) (c : Int) (j : Int) a (a.length : Int) (i : Int)) r := by
  induction d with
  | zero =>
    intro j c nj P L hj hnj hP hL hd hc hz hz' hjc hk
    refine Ev.step (fun k => by rw [impl_great_times.l1]) ?_
    obtain rfl : c = 0 := by omega
    simp only [if_neg (show ¬ (j : Int) < (b.length : Int) by omega), if_neg (show ¬ ((0 : Nat) : Int) > 0 by omega), wrap_succ (show i < 9223372036854775807 by omega)]
    refine hk L hL hd hz ?_
    have := dg_lt hnj
    have h0 : nj = 0 := by omega
    rw [h0]; simp
  | succ d ih =>
    intro j c nj P L hj hnj hP hL hd hc hz hz' hjc hk
    refine Ev.step (fun k => by rw [impl_great_times.l1]) ?_
    have hjl := dg_lt hnj
    by_cases hend : j = b.length ∧ c = 0
    · obtain ⟨hjn, rfl⟩ := hend
      simp only [if_neg (show ¬ (j : Int) < (b.length : Int) by omega), if_neg (show ¬ ((0 : Nat) : Int) > 0 by omega), wrap_succ (show i < 9223372036854775807 by omega)]
      refine hk L hL hd hz ?_
      have h0 : nj = 0 := by omega
      rw [h0]; simp
    · have hjle : j ≤ b.length := by omega
      have hcc : Aside0 (¬ j < b.length → 0 < c) := ⟨fun h => by omega⟩
      have hn0 : Aside0 (¬ j < b.length → nj = 0) := ⟨fun h => by omega⟩
      clear hend hjc hjl
      have e1 : wrap64 ((i : Int) + (j : Int)) = ((i + j : Nat) : Int) := by rw [wrap_id (by omega) (by omega)]; omega
      have hzr := dg_lm hnj
      obtain ⟨z, hzz⟩ : ∃ z, nj % 10000 = z := ⟨_, rfl⟩
      have hz1 : z < 10000 := by omega
      rw [hzz] at hzr
      have hxy := mul_small hx hz1
      have hmem : rd L ((i + j : Nat) : Int) ∈ L := by rw [rd_lt L (i + j) (by omega)]; exact List.getElem_mem _
      have hb := hd _ hmem
      obtain ⟨o, ho⟩ := Int.eq_ofNat_of_zero_le hb.1
      have ho' : o < 10000 := by have := hb.2; rw [ho] at this; omega
      obtain ⟨w, hw⟩ : ∃ w, x * z = w := ⟨_, rfl⟩
      rw [hw] at hxy
      have e2 : wrap64 ((x : Int) * (z : Int)) = (w : Int) := times_e2 hw hxy
      have e3 : wrap64 (wrap64 ((o : Int) + (w : Int)) + (c : Int)) = ((o + w + c : Nat) : Int) := times_e3 ho' hxy hc
      have hrec : Ev (fun k => impl_great_times.l1 k b (L.set (i + j) (((o + w + c) % 10000 : Nat) : Int)) (i : Int) (x : Int) (((o + w + c) / 10000 : Nat) : Int) ((j + 1 : Nat) : Int) a (a.length : Int) (i : Int)) r := by
        have hjd : j + 1 + d = b.length + 1 := by omega
        have hlt : i + j < L.length := by omega
        have hset := nv_set L (i + j) (((o + w + c) % 10000 : Nat) : Int) hlt
        rw [ho, Int.toNat_natCast, Int.toNat_natCast, hP ()] at hset
        refine ih (j + 1) ((o + w + c) / 10000) (nj / 10000) (P * 10000) _ hjd (dg_step hnj) (fun _ => by rw [show i + (j + 1) = (i + j) + 1 from rfl, Nat.pow_succ, hP ()]) (by simpa using hL) ?_ (times_c ho' hxy hc) ?_ ?_ ?_ ?_
        · clear hset
          intro y h
          rcases List.mem_or_eq_of_mem_set h with h | h
          · exact hd y h
          · subst h; exact times_dig _
        · clear hset
          intro t ht
          rw [rd_set, if_neg (fun h4 => by omega)]; exact hz t ht
        · clear hset
          intro h
          rw [rd_set, if_neg (fun h4 => by omega)]; exact hz' (by omega)
        · clear hset
          rcases Nat.lt_or_ge j b.length with h | h
          · left; omega
          · right
            have hjb : j = b.length := by omega
            have h1 := hz' (by omega)
            rw [← hjb, ho] at h1
            have h2 : z = 0 := by rw [← hzz, hn0.out (Nat.not_lt.2 h)]
            rw [h2, Nat.mul_zero] at hw
            exact times_z (Int.ofNat_inj.1 h1) hw.symm hc
        · intro L' h1 h2 h3 h4
          refine hk L' h1 h2 h3 ?_
          have hca := carry_add (x := x) (q := nj / 10000) (y := z) (c := c) (s2 := (o + w + c) / 10000) (o := o) (s1 := (o + w + c) % 10000) hset (by rw [hw]; exact Nat.mod_add_div _ _)
          rw [show nj / 10000 * 10000 + z = nj by omega] at hca
          rw [h4]
          exact hca
      have hsm : wrap64 (((o + w + c) / 10000 : Nat) : Int) = (((o + w + c) / 10000 : Nat) : Int) := times_hsm ho' hxy hc
      by_cases hjb : j < b.length
      · simp only [if_pos (show (j : Int) < (b.length : Int) by omega), e1, if_pos (show 0 ≤ ((i + j : Nat) : Int) by omega), if_pos (show ((i + j : Nat) : Int) < (L.length : Int) by omega), place_eq, hzr, Option.bind_some, wrap_succ (show j < 9223372036854775807 by omega), ho, e2, e3, tmod4, tdiv4, hsm, Int.toNat_natCast]
        exact hrec
      · have qc : (c : Int) > 0 := Int.natCast_pos.2 (hcc.out hjb)
        have qj : ¬ (j : Int) < (b.length : Int) := fun h => hjb (Int.ofNat_lt.1 h)
        simp only [if_neg qj, if_pos qc, e1, if_pos (show 0 ≤ ((i + j : Nat) : Int) by omega), if_pos (show ((i + j : Nat) : Int) < (L.length : Int) by omega), place_eq, hzr, Option.bind_some, wrap_succ (show j < 9223372036854775807 by omega), ho, e2, e3, tmod4, tdiv4, hsm, Int.toNat_natCast]
        exact hrec
theorem times_out (a b : List Int) (n T : Nat) (hb : b = dg n) (hla : a.length ≤ 100) (hlb : b.length ≤ 100) (d : Nat) : ∀ (i mi P : Nat) (L : List Int), i + d = a.length → a.drop i = dg mi → (∀ _ : Unit, 10000 ^ i = P) → L.length = a.length + b.length →
    dok L → (∀ t : Nat, i + b.length ≤ t → rd L (t : Int) = 0) → nv L + mi * P * n = T → Ev (fun k => impl_great_times.l0 k b L a (a.length : Int) (i : Int)) (dg T) := by
  induction d with
  | zero =>
    intro i mi P L hi hmi hP hL hd hz hn
    refine Ev.step (fun k => by rw [impl_great_times.l0]) ?_
    simp only [if_neg (show ¬ (i : Int) < (a.length : Int) by omega)]
    have := dg_lt hmi
    have h0 : mi = 0 := by omega
    rw [h0] at hn
    simp only [Nat.zero_mul, Nat.add_zero] at hn
    refine Ev.bind (trimmed_ev L (by omega)) ?_
    rw [tr_dg hd, hn]
    exact Ev.now _
  | succ d ih =>
    intro i mi P L hi hmi hP hL hd hz hn
    refine Ev.step (fun k => by rw [impl_great_times.l0]) ?_
    simp only [if_pos (show (i : Int) < (a.length : Int) by omega), if_pos (show 0 ≤ (i : Int) by omega), dg_rd hmi]
    refine times_in a b hla hlb i (mi % 10000) (by omega) (Nat.mod_lt _ (by omega)) _ (b.length + 1) 0 0 n P L (by omega) hb (fun _ => hP ()) hL hd (by omega) (fun t ht => hz t (by omega)) (fun _ => hz _ (Nat.le_refl _)) (Or.inl (by omega)) (fun L' h1 h2 h3 h4 => ih (i + 1) (mi / 10000) (P * 10000) L' (by omega) (dg_step hmi) (fun _ => by rw [Nat.pow_succ, hP ()]) h1 h2 (fun t ht => h3 t (by omega)) ?_)
    refine row_next (x := mi % 10000) (B := nv L) (by rw [h4, Nat.zero_add, Nat.mul_assoc]) ?_
    rw [show mi / 10000 * 10000 + mi % 10000 = mi by omega]
    exact hn
theorem times_ev (m n : Nat) (hm : (dg m).length ≤ 100) (hn : (dg n).length ≤ 100) : Ev (fun k => impl_great_times.f k (dg m) (dg n)) (dg (m * n)) := by
  simp only [impl_great_times.f]
  have e1 : wrap64 (((dg m).length : Int) + ((dg n).length : Int)) = (((dg m).length + (dg n).length : Nat) : Int) := by rw [wrap_id (by omega) (by omega)]; omega
  simp only [e1, if_pos (show 0 ≤ (((dg m).length + (dg n).length : Nat) : Int) by omega), Int.toNat_natCast, if_pos (show (dg m).length + (dg n).length ≤ 35184372088832 by omega)]
  refine times_out (dg m) (dg n) n (m * n) rfl hm hn (dg m).length 0 m 1 _ (by omega) rfl (fun _ => rfl) (by simp) (fun y h' => ?_) (fun t ht => ?_) ?_
  · rw [List.mem_replicate] at h'; rw [h'.2]; omega
  · rw [rd_cast, List.getD_eq_getElem?_getD, List.getElem?_replicate]; split <;> rfl
  · rw [nv_zeros]; simp

theorem told_eq (l : List Int) : impl_told.f l = some (if l.length ≤ 100 then (l, true) else ([], false)) := by
  unfold impl_told.f
  by_cases h : l.length ≤ 100
  · rw [if_neg (by omega), if_pos h]
  · rw [if_pos (by omega), if_neg h]

theorem implMul_ev (a b : List Int) : Ev (fun k => impl_MulNat.f k a b) (mulR a b) := by
  simp only [impl_MulNat.f]
  refine Ev.bind (implNatOk_ev a) ?_
  by_cases h1 : nok a = true
  · simp only [if_pos h1]
    refine Ev.bind (implNatOk_ev b) ?_
    refine Ev.step (fun k => by rw [impl_MulNat.j0]) ?_
    by_cases h2 : nok b = true
    · simp only [h2, Bool.not_true, Bool.false_eq_true, if_false]
      obtain ⟨m, rfl, hm⟩ := nok_ex h1
      obtain ⟨n, rfl, hn⟩ := nok_ex h2
      refine Ev.bind (times_ev m n hm hn) ?_
      simp only [told_eq, Option.bind_some]
      exact (Ev.now _).cast (by rw [mulR_dg h1 h2])
    · simp only [Bool.not_eq_true] at h2
      simp only [h2, Bool.not_false, if_true]
      exact (Ev.now _).cast (by simp [mulR, h2])
  · simp only [if_neg h1]
    refine Ev.step (fun k => by rw [impl_MulNat.j0]) ?_
    simp only [if_true]
    exact (Ev.now _).cast (by simp [mulR, h1])

theorem l1New_l (s : List Int) (hs : s.length ≤ 4611686018427387904) (d : Nat) : ∀ (i : Nat) (h : Int), i + d = s.length → ∃ h', Ev (fun k => spec_l1New.l0 k s h (i : Int)) (s, 0, h') := by
  induction d with
  | zero =>
    intro i h hi
    refine ⟨h, Ev.step (fun k => by rw [spec_l1New.l0]) ?_⟩
    simp only [if_neg (show ¬ (i : Int) < (s.length : Int) by omega)]
    exact Ev.now _
  | succ d ih =>
    intro i h hi
    obtain ⟨h', e⟩ := ih (i + 1) (Go.bits .and .i64 (wrap64 ((wrap64 ((wrap64 (h * 181)) + (wrap64 (rd s (i : Int))))) + 11)) 1073741823) (by omega)
    refine ⟨h', Ev.step (fun k => by rw [spec_l1New.l0]) ?_⟩
    simp only [if_pos (show (i : Int) < (s.length : Int) by omega), if_pos (show 0 ≤ (i : Int) by omega), wrap_succ (show i < 9223372036854775807 by omega)]
    exact e
theorem l1New_ex (s : List Int) (hs : s.length ≤ 4611686018427387904) : ∃ h', Ev (fun k => spec_l1New.f k s) (s, 0, h') := by
  simp only [spec_l1New.f]
  exact l1New_l s hs s.length 0 _ (by omega)

theorem l1Byte_ex (s : List Int) (i h : Int) (h0 : 0 ≤ i) (h1 : i ≤ (s.length : Int)) (hs : s.length ≤ 4611686018427387904) : ∃ b i' h', spec_l1Byte.f s i h = some (b, i', h') ∧ 0 ≤ b ∧ b ≤ 255 ∧ 0 ≤ i' ∧ i' ≤ (s.length : Int) := by
  unfold spec_l1Byte.f
  by_cases c : i < (s.length : Int)
  · rw [if_pos c, if_pos h0]
    have hm := and_mask (wrap64 ((Go.bits .and .i64 (Go.bits .xor .i64 ((wrap64 ((wrap64 (h * 6364136223846793005)) + 1442695040888963407)) / 8589934592) ((wrap64 ((wrap64 (h * 6364136223846793005)) + 1442695040888963407)) / 35184372088832)) 255) + (wrap64 (rd s i)))) 255 (by decide)
    exact ⟨_, _, _, rfl, hm.1, hm.2, by rw [wrap_id (by omega) (by omega)]; omega, by rw [wrap_id (by omega) (by omega)]; omega⟩
  · rw [if_neg c]
    have hm := and_mask (Go.bits .xor .i64 ((wrap64 ((wrap64 (h * 6364136223846793005)) + 1442695040888963407)) / 8589934592) ((wrap64 ((wrap64 (h * 6364136223846793005)) + 1442695040888963407)) / 35184372088832)) 255 (by decide)
    exact ⟨_, _, _, rfl, hm.1, hm.2, h0, h1⟩
theorem l1Below_ex (s : List Int) (hs : s.length ≤ 4611686018427387904) (i h a : Int) (h0 : 0 ≤ i) (h1 : i ≤ (s.length : Int)) : ∃ b i' h', spec_l1Below.f s i h a = some (b, i', h') ∧ 0 ≤ b ∧ (0 < a → b < a) ∧ (a ≤ 0 → b = 0) ∧ 0 ≤ i' ∧ i' ≤ (s.length : Int) := by
  unfold spec_l1Below.f
  by_cases c : a ≤ 0
  · rw [if_pos c]
    exact ⟨0, i, h, rfl, by omega, by omega, by omega, h0, h1⟩
  rw [if_neg c]
  obtain ⟨b1, i1, g1, e1, x1, y1, z1, w1⟩ := l1Byte_ex s i h h0 h1 hs
  by_cases c2 : a ≤ 256
  · rw [if_pos c2, e1]
    simp only [Option.bind_some, if_neg (show ¬ a = 0 by omega)]
    have hm := Int.emod_lt_of_pos b1 (show 0 < a by omega)
    have hn := Int.emod_nonneg b1 (show a ≠ 0 by omega)
    rw [← Int.tmod_eq_emod_of_nonneg x1] at hm hn
    exact ⟨_, _, _, rfl, hn, fun _ => hm, by omega, z1, w1⟩
  · obtain ⟨b2, i2, g2, e2, x2, y2, z2, w2⟩ := l1Byte_ex s i1 g1 z1 w1 hs
    obtain ⟨b3, i3, g3, e3, x3, y3, z3, w3⟩ := l1Byte_ex s i2 g2 z2 w2 hs
    obtain ⟨b4, i4, g4, e4, x4, y4, z4, w4⟩ := l1Byte_ex s i3 g3 z3 w3 hs
    rw [if_neg c2]
    simp only [e1, e2, e3, e4, Option.bind_some, if_neg (show ¬ a = 0 by omega)]
    have hw : wrap64 ((wrap64 ((wrap64 ((wrap64 (b1 * 16777216)) + (wrap64 (b2 * 65536)))) + (wrap64 (b3 * 256)))) + b4) = b1 * 16777216 + b2 * 65536 + b3 * 256 + b4 := by
      rw [wrap_id (x := b1 * 16777216) (by omega) (by omega), wrap_id (x := b2 * 65536) (by omega) (by omega), wrap_id (x := b3 * 256) (by omega) (by omega), wrap_id (x := b1 * 16777216 + b2 * 65536) (by omega) (by omega), wrap_id (x := b1 * 16777216 + b2 * 65536 + b3 * 256) (by omega) (by omega), wrap_id (by omega) (by omega)]
    rw [hw]
    have hm := Int.emod_lt_of_pos (b1 * 16777216 + b2 * 65536 + b3 * 256 + b4) (show 0 < a by omega)
    have hn := Int.emod_nonneg (b1 * 16777216 + b2 * 65536 + b3 * 256 + b4) (show a ≠ 0 by omega)
    rw [← Int.tmod_eq_emod_of_nonneg (show 0 ≤ b1 * 16777216 + b2 * 65536 + b3 * 256 + b4 by omega)] at hm hn
    exact ⟨_, _, _, rfl, hn, fun _ => hm, by omega, z4, w4⟩
theorem l1Once_ex (s : List Int) (hs : s.length ≤ 4611686018427387904) (i h a : Int) (h0 : 0 ≤ i) (h1 : i ≤ (s.length : Int)) : ∃ b i' h', spec_l1Once.f s i h a = some (b, i', h') ∧ 0 ≤ i' ∧ i' ≤ (s.length : Int) := by
  obtain ⟨b, i', h', e, _, _, _, x, y⟩ := l1Below_ex s hs i h a h0 h1
  unfold spec_l1Once.f
  simp only [e, Option.bind_some]
  exact ⟨_, _, _, rfl, x, y⟩

theorem l1Trim_l (a : List Int) (ha : a.length < 17592186044416) (n : Nat) : n ≤ a.length → Ev (fun k => spec_l1Trim.l0 k a (n : Int)) (tr (a.take n)) := by
  induction n with
  | zero =>
    intro hn
    refine Ev.step (fun k => by rw [spec_l1Trim.l0]) ?_
    simp only [if_neg (show ¬ ((0 : Nat) : Int) > 0 by omega), Option.bind_some]
    have h1 : ((0 : Nat) : Int) ≤ (a.length : Int) := by omega
    simp only [if_pos (show 0 ≤ ((0 : Nat) : Int) by omega), if_pos h1, Int.toNat_natCast, List.take_zero, List.length_nil, if_pos (show 0 + 0 < 17592186044416 by omega), List.append_nil]
    exact (Ev.now _).cast (by simp [tr])
  | succ n ih =>
    intro hn
    refine Ev.step (fun k => by rw [spec_l1Trim.l0]) ?_
    simp only [if_pos (show ((n + 1 : Nat) : Int) > 0 by omega), wrap_pred (show n < 9223372036854775807 by omega), if_pos (show 0 ≤ (n : Int) by omega), if_pos (show (n : Int) < (a.length : Int) by omega)]
    by_cases e : rd a (n : Int) = 0
    · simp only [if_pos e]
      exact (ih (by omega)).cast (by rw [take_rd a n (by omega), e, tr_snoc0])
    · have hl : ([] : List Int).length + (a.take (n + 1)).length < 17592186044416 := by simp; omega
      simp only [if_neg e, Option.bind_some, if_pos (show 0 ≤ ((n + 1 : Nat) : Int) by omega), if_pos (show ((n + 1 : Nat) : Int) ≤ (a.length : Int) by omega), Int.toNat_natCast, if_pos hl]
      exact (Ev.now _).cast (by rw [take_rd a n (by omega), tr_snoc e]; simp)
theorem l1Trim_ev (a : List Int) (ha : a.length < 17592186044416) : Ev (fun k => spec_l1Trim.f k a) (tr a) := by
  simp only [spec_l1Trim.f]
  exact (l1Trim_l a ha a.length (Nat.le_refl _)).cast (by rw [List.take_length])

theorem l1DrawNat_l (s : List Int) (hs : s.length ≤ 4611686018427387904) (d : Nat) : ∀ (x : List Int) (i h : Int), x.length + d ≤ 1000 → 0 ≤ i → i ≤ (s.length : Int) → ∃ r i' h', Ev (fun k => spec_l1DrawNat.l0 k x (d : Int) s i h) (r, i', h') ∧ r.length ≤ x.length + d ∧ 0 ≤ i' ∧ i' ≤ (s.length : Int) := by
  induction d with
  | zero =>
    intro x i h hd h0 h1
    refine ⟨tr x, i, h, Ev.step (fun k => by rw [spec_l1DrawNat.l0]) ?_, tr_len x, h0, h1⟩
    simp only [if_neg (show ¬ ((0 : Nat) : Int) > 0 by omega)]
    refine Ev.bind (l1Trim_ev x (by omega)) ?_
    exact Ev.now _
  | succ d ih =>
    intro x i h hd h0 h1
    obtain ⟨b, i1, g1, e1, p1, q1⟩ := l1Once_ex s hs i h 3 h0 h1
    by_cases c : b = true
    · obtain ⟨v, i2, g2, e2, v0, v1, _, p2, q2⟩ := l1Below_ex s hs i1 g1 4 p1 q1
      have v2 := v1 (by omega)
      obtain ⟨r, i', h', er, hl, p, q⟩ := ih (x ++ [rd ([0, 9999, 1, 5000] : List Int) v]) i2 g2 (by simp; omega) p2 q2
      refine ⟨r, i', h', Ev.step (fun k => by rw [spec_l1DrawNat.l0]) ?_, by simp at hl; omega, p, q⟩
      simp only [if_pos (show ((d + 1 : Nat) : Int) > 0 by omega), e1, e2, Option.bind_some, if_pos c, if_pos v0, if_pos (show v < (([0, 9999, 1, 5000] : List Int).length : Int) from by simpa using v2), if_pos (show x.length < 17592186044416 by omega), wrap_pred (show d < 9223372036854775807 by omega)]
      exact er
    · obtain ⟨v, i2, g2, e2, v0, v1, _, p2, q2⟩ := l1Below_ex s hs i1 g1 10000 p1 q1
      obtain ⟨r, i', h', er, hl, p, q⟩ := ih (x ++ [v]) i2 g2 (by simp; omega) p2 q2
      refine ⟨r, i', h', Ev.step (fun k => by rw [spec_l1DrawNat.l0]) ?_, by simp at hl; omega, p, q⟩
      simp only [if_pos (show ((d + 1 : Nat) : Int) > 0 by omega), e1, e2, Option.bind_some, if_neg c, if_pos (show x.length < 17592186044416 by omega), wrap_pred (show d < 9223372036854775807 by omega)]
      exact er
theorem l1DrawNat_ex (s : List Int) (hs : s.length ≤ 4611686018427387904) (i h : Int) (h0 : 0 ≤ i) (h1 : i ≤ (s.length : Int)) : ∃ r i' h', Ev (fun k => spec_l1DrawNat.f k s i h) (r, i', h') ∧ r.length ≤ 4 ∧ 0 ≤ i' ∧ i' ≤ (s.length : Int) := by
  obtain ⟨v, i1, g1, e1, v0, v1, _, p1, q1⟩ := l1Below_ex s hs i h 5 h0 h1
  have v2 := v1 (by omega)
  obtain ⟨n, rfl⟩ := Int.eq_ofNat_of_zero_le v0
  obtain ⟨r, i', h', er, hl, p, q⟩ := l1DrawNat_l s hs n [] i1 g1 (by simp; omega) p1 q1
  refine ⟨r, i', h', ?_, by simp at hl; omega, p, q⟩
  simp only [spec_l1DrawNat.f, e1, Option.bind_some]
  exact er

theorem l1Odd_ex (s : List Int) (hs : s.length ≤ 4611686018427387904) (i h : Int) (h0 : 0 ≤ i) (h1 : i ≤ (s.length : Int)) : ∃ r i' h', spec_l1Odd.f s i h = some (r, i', h') ∧ 0 ≤ i' ∧ i' ≤ (s.length : Int) := by
  obtain ⟨v, i1, g1, e1, v0, v1, _, p1, q1⟩ := l1Below_ex s hs i h 10 h0 h1
  have v2 := v1 (by omega)
  unfold spec_l1Odd.f
  simp only [Option.bind_some, e1, if_pos v0]
  rw [if_pos (by simpa using v2)]
  exact ⟨_, _, _, rfl, p1, q1⟩

theorem l1DrawAny_l0 (s : List Int) (hs : s.length ≤ 4611686018427387904) (d : Nat) : ∀ (x : List Int) (i h : Int), x.length + d = 101 → 0 ≤ i → i ≤ (s.length : Int) → ∃ r i' h', Ev (fun k => spec_l1DrawAny.l0 k x s i h) (r, i', h') ∧ r.length ≤ 101 ∧ 0 ≤ i' ∧ i' ≤ (s.length : Int) := by
  induction d with
  | zero =>
    intro x i h hd h0 h1
    obtain ⟨v, i1, g1, e1, v0, v1, _, p1, q1⟩ := l1Below_ex s hs i h 2 h0 h1
    have v2 := v1 (by omega)
    refine ⟨x, i1, g1, Ev.step (fun k => by rw [spec_l1DrawAny.l0]) ?_, by omega, p1, q1⟩
    simp only [e1, Option.bind_some, wrap_id (show -9223372036854775808 ≤ 100 + v by omega) (show 100 + v ≤ 9223372036854775807 by omega), if_neg (show ¬ (x.length : Int) < 100 + v by omega)]
    exact Ev.now _
  | succ d ih =>
    intro x i h hd h0 h1
    obtain ⟨v, i1, g1, e1, v0, v1, _, p1, q1⟩ := l1Below_ex s hs i h 2 h0 h1
    have v2 := v1 (by omega)
    by_cases c : (x.length : Int) < 100 + v
    · obtain ⟨r, i', h', er, hl, p, q⟩ := ih (x ++ [9999]) i1 g1 (by simp; omega) p1 q1
      refine ⟨r, i', h', Ev.step (fun k => by rw [spec_l1DrawAny.l0]) ?_, hl, p, q⟩
      simp only [e1, Option.bind_some, wrap_id (show -9223372036854775808 ≤ 100 + v by omega) (show 100 + v ≤ 9223372036854775807 by omega), if_pos c, if_pos (show x.length < 17592186044416 by omega)]
      exact er
    · refine ⟨x, i1, g1, Ev.step (fun k => by rw [spec_l1DrawAny.l0]) ?_, by omega, p1, q1⟩
      simp only [e1, Option.bind_some, wrap_id (show -9223372036854775808 ≤ 100 + v by omega) (show 100 + v ≤ 9223372036854775807 by omega), if_neg c]
      exact Ev.now _
theorem l1DrawAny_l1 (s : List Int) (hs : s.length ≤ 4611686018427387904) (d : Nat) : ∀ (x : List Int) (i h : Int), x.length + d = 51 → 0 ≤ i → i ≤ (s.length : Int) → ∃ r i' h', Ev (fun k => spec_l1DrawAny.l1 k x s i h) (r, i', h') ∧ r.length ≤ 51 ∧ 0 ≤ i' ∧ i' ≤ (s.length : Int) := by
  induction d with
  | zero =>
    intro x i h hd h0 h1
    obtain ⟨v, i1, g1, e1, v0, v1, _, p1, q1⟩ := l1Below_ex s hs i h 2 h0 h1
    have v2 := v1 (by omega)
    refine ⟨x, i1, g1, Ev.step (fun k => by rw [spec_l1DrawAny.l1]) ?_, by omega, p1, q1⟩
    simp only [e1, Option.bind_some, wrap_id (show -9223372036854775808 ≤ 50 + v by omega) (show 50 + v ≤ 9223372036854775807 by omega), if_neg (show ¬ (x.length : Int) < 50 + v by omega)]
    exact Ev.now _
  | succ d ih =>
    intro x i h hd h0 h1
    obtain ⟨v, i1, g1, e1, v0, v1, _, p1, q1⟩ := l1Below_ex s hs i h 2 h0 h1
    have v2 := v1 (by omega)
    by_cases c : (x.length : Int) < 50 + v
    · obtain ⟨u, i2, g2, e2, _, _, _, p2, q2⟩ := l1Below_ex s hs i1 g1 9999 p1 q1
      obtain ⟨r, i', h', er, hl, p, q⟩ := ih (x ++ [wrap64 (1 + u)]) i2 g2 (by simp; omega) p2 q2
      refine ⟨r, i', h', Ev.step (fun k => by rw [spec_l1DrawAny.l1]) ?_, hl, p, q⟩
      simp only [e1, e2, Option.bind_some, wrap_id (show -9223372036854775808 ≤ 50 + v by omega) (show 50 + v ≤ 9223372036854775807 by omega), if_pos c, if_pos (show x.length < 17592186044416 by omega)]
      exact er
    · refine ⟨x, i1, g1, Ev.step (fun k => by rw [spec_l1DrawAny.l1]) ?_, by omega, p1, q1⟩
      simp only [e1, Option.bind_some, wrap_id (show -9223372036854775808 ≤ 50 + v by omega) (show 50 + v ≤ 9223372036854775807 by omega), if_neg c]
      exact Ev.now _
theorem l1DrawAny_ex (s : List Int) (hs : s.length ≤ 4611686018427387904) (i h : Int) (h0 : 0 ≤ i) (h1 : i ≤ (s.length : Int)) : ∃ r i' h', Ev (fun k => spec_l1DrawAny.f k s i h) (r, i', h') ∧ r.length ≤ 101 ∧ 0 ≤ i' ∧ i' ≤ (s.length : Int) := by
  obtain ⟨x, i1, g1, e1, hx, p1, q1⟩ := l1DrawNat_ex s hs i h h0 h1
  obtain ⟨b, i2, g2, e2, p2, q2⟩ := l1Once_ex s hs i1 g1 8 p1 q1
  simp only [spec_l1DrawAny.f]
  by_cases c : b = true
  · obtain ⟨v, i3, g3, e3, v0, v1, _, p3, q3⟩ := l1Below_ex s hs i2 g2 4 p2 q2
    have v2 := v1 (by omega)
    have hv : v = 0 ∨ v = 1 ∨ v = 2 ∨ v = 3 := by omega
    rcases hv with rfl | rfl | rfl | rfl
    · refine ⟨x ++ [0], i3, g3, Ev.bind e1 ?_, by simp; omega, p3, q3⟩
      simp only [e2, e3, Option.bind_some, if_pos c, if_true, if_pos (show x.length < 17592186044416 by omega)]
      exact Ev.now _
    · obtain ⟨o, i4, g4, e4, p4, q4⟩ := l1Odd_ex s hs i3 g3 p3 q3
      obtain ⟨u, i5, g5, e5, u0, u1, _, p5, q5⟩ := l1Below_ex s hs i4 g4 3 p4 q4
      have u2 := u1 (by omega)
      refine ⟨x ++ [rd ([-1, 10000, o] : List Int) u], i5, g5, Ev.bind e1 ?_, by simp; omega, p5, q5⟩
      simp only [e2, e3, e4, e5, Option.bind_some, if_pos c, if_neg (show ¬ (1 : Int) = 0 by omega), if_true, if_pos u0, if_pos (show u < (([-1, 10000, o] : List Int).length : Int) from by simpa using u2), if_pos (show x.length < 17592186044416 by omega)]
      exact Ev.now _
    · obtain ⟨r, i', h', er, hl, p, q⟩ := l1DrawAny_l0 s hs (101 - x.length) x i3 g3 (by omega) p3 q3
      refine ⟨r, i', h', Ev.bind e1 ?_, hl, p, q⟩
      simp only [e2, e3, Option.bind_some, if_pos c, if_neg (show ¬ (2 : Int) = 0 by omega), if_neg (show ¬ (2 : Int) = 1 by omega), if_true]
      exact er
    · obtain ⟨r, i', h', er, hl, p, q⟩ := l1DrawAny_l1 s hs (51 - x.length) x i3 g3 (by omega) p3 q3
      refine ⟨r, i', h', Ev.bind e1 ?_, by omega, p, q⟩
      simp only [e2, e3, Option.bind_some, if_pos c, if_neg (show ¬ (3 : Int) = 0 by omega), if_neg (show ¬ (3 : Int) = 1 by omega), if_neg (show ¬ (3 : Int) = 2 by omega), if_true]
      exact er
  · refine ⟨x, i2, g2, Ev.bind e1 ?_, by omega, p2, q2⟩
    simp only [e2, Option.bind_some, if_neg c]
    exact Ev.now _

theorem and_mask_u (x : Int) (m : Nat) (hm : m < 2 ^ 62) : 0 ≤ Go.bits .and .u64 x (m : Int) ∧ Go.bits .and .u64 x (m : Int) ≤ m := by
  have h1 : ((BitVec.ofInt IntKind.u64.bits x) &&& (BitVec.ofInt IntKind.u64.bits (m : Int))).toNat ≤ m := by
    rw [BitVec.toNat_and]
    refine Nat.le_trans Nat.and_le_right ?_
    rw [show BitVec.ofInt IntKind.u64.bits (m : Int) = BitVec.ofNat IntKind.u64.bits m from BitVec.ofInt_natCast _ _, BitVec.toNat_ofNat]
    exact Nat.mod_le _ _
  show 0 ≤ IntKind.u64.wrap _ ∧ IntKind.u64.wrap _ ≤ _
  rw [IntKind.wrap_u64]
  generalize ((BitVec.ofInt IntKind.u64.bits x) &&& (BitVec.ofInt IntKind.u64.bits (m : Int))).toNat = z at h1 ⊢
  have : m < 4611686018427387904 := hm
  omega
theorem roll_l (s : List Int) (hs : s.length ≤ 4096) (d : Nat) : ∀ (i : Nat) (h : Int), i + d = s.length → ∃ h', Ev (fun k => laws_roll.l0 k s (i : Int) s 0 h) (s, 0, h') := by
  induction d with
  | zero =>
    intro i h hi
    refine ⟨h, Ev.step (fun k => by rw [laws_roll.l0]) ?_⟩
    simp only [if_neg (show ¬ (i : Int) < (s.length : Int) by omega)]
    exact Ev.now _
  | succ d ih =>
    intro i h hi
    obtain ⟨h', e⟩ := ih (i + 1) (IntKind.u64.wrap ((IntKind.u64.wrap ((IntKind.u64.wrap (h * 1099511628211)) + (IntKind.u64.wrap (rd s (i : Int))))) + 3)) (by omega)
    refine ⟨h', Ev.step (fun k => by rw [laws_roll.l0]) ?_⟩
    simp only [if_pos (show (i : Int) < (s.length : Int) by omega), if_pos (show 0 ≤ (i : Int) by omega), wrap_succ (show i < 9223372036854775807 by omega)]
    exact e
theorem roll_ex (s : List Int) (hs : s.length ≤ 4096) (x : Int) : ∃ h', Ev (fun k => laws_roll.f k s x) (s, 0, h') := by
  simp only [laws_roll.f]
  exact roll_l s hs s.length 0 _ (by omega)
theorem below_ex (s : List Int) (hb : ∀ x ∈ s, 0 ≤ x ∧ x ≤ 255) (hs : s.length ≤ 4096) (i h a : Int) (h0 : 0 ≤ i) (h1 : i ≤ (s.length : Int)) (ha : 0 < a) : ∃ b i' h', laws_dice_below.f s i h a = some (b, i', h') ∧ 0 ≤ b ∧ b < a ∧ 0 ≤ i' ∧ i' ≤ (s.length : Int) := by
  unfold laws_dice_below.f
  generalize IntKind.u64.wrap ((IntKind.u64.wrap (h * 6364136223846793005)) + 1442695040888963407) = g
  have hm := and_mask_u (g / 8589934592) 16777215 (by decide)
  rw [show ((16777215 : Nat) : Int) = 16777215 from rfl] at hm
  generalize Go.bits .and .u64 (g / 8589934592) 16777215 = x at hm
  rw [wrap_id (x := x) (by omega) (by omega)]
  have key : ∀ y : Int, 0 ≤ y → 0 ≤ Int.tmod y a ∧ Int.tmod y a < a := fun y hy => by
    rw [Int.tmod_eq_emod_of_nonneg hy]
    exact ⟨Int.emod_nonneg _ (by omega), Int.emod_lt_of_pos _ ha⟩
  by_cases c : i < (s.length : Int)
  · obtain ⟨n, rfl⟩ : ∃ n : Nat, i = (n : Int) := ⟨i.toNat, by omega⟩
    have hr := hb (rd s (n : Int)) (by rw [rd_lt s n (by omega)]; exact List.getElem_mem _)
    rw [if_pos c, if_pos h0, if_neg (show ¬ a = 0 by omega), wrap_id (x := rd s (n : Int)) (by omega) (by omega), wrap_id (x := x + rd s (n : Int)) (by omega) (by omega), wrap_id (x := (n : Int) + 1) (by omega) (by omega)]
    obtain ⟨k1, k2⟩ := key (x + rd s (n : Int)) (by omega)
    exact ⟨_, _, _, rfl, k1, k2, by omega, by omega⟩
  · rw [if_neg c, if_neg (show ¬ a = 0 by omega)]
    obtain ⟨k1, k2⟩ := key x (by omega)
    exact ⟨_, _, _, rfl, k1, k2, h0, h1⟩
theorem digits_fin (x : UInt8) (l : List UInt8) : Ev (fun k => laws_digits.l0 k 0 (bs (x :: l))) (bs (x :: l)) := by
  refine Ev.step (fun k => by rw [laws_digits.l0]) ?_
  simp only [if_neg (bs_ne x l), if_neg (show ¬ (0 : Int) > 0 by omega)]
  exact Ev.now _
theorem digits_step (n : Nat) (s : List UInt8) (r : ByteArray) (h : s = [] ∨ n ≠ 0) (hs : n + s.length ≤ 1000000000000000) (hr : Ev (fun k => laws_digits.l0 k ((n / 10 : Nat) : Int) (bs (UInt8.ofNat (48 + n % 10) :: s))) r) : Ev (fun k => laws_digits.l0 k (n : Int) (bs s)) r := by
  refine Ev.step (fun k => by rw [laws_digits.l0]) ?_
  have hm : Int.tmod (n : Int) 10 = ((n % 10 : Nat) : Int) := by rw [Int.tmod_eq_emod_of_nonneg (by omega)]; omega
  have hd : wrap64 (Int.tdiv (n : Int) 10) = ((n / 10 : Nat) : Int) := by rw [Int.tdiv_eq_ediv_of_nonneg (by omega), wrap_id (by omega) (by omega)]; omega
  simp only [hm, hd, Option.bind_some, nums1 (n % 10) (by omega), bs_app, bs_size, List.length_cons, List.length_nil, List.cons_append, List.nil_append]
  simp only [if_pos (show 0 + 1 + s.length ≤ 9223372036854775807 by omega)]
  by_cases hn : (bs s).toList = []
  · simp only [if_pos hn]; exact hr
  · have h0 : n ≠ 0 := by
      rcases h with h | h
      · subst h; exact absurd (by rw [ByteArray.toList_eq]; simp [bs]) hn
      · exact h
    simp only [if_neg hn, if_pos (show (n : Int) > 0 by omega)]; exact hr
theorem digits_l (n : Nat) : ∀ s : List UInt8, (s = [] ∨ n ≠ 0) → n + s.length ≤ 1000000000000000 → Ev (fun k => laws_digits.l0 k (n : Int) (bs s)) (bs (Lib.decDigits n ++ s)) := by
  induction n using Nat.strongRecOn with
  | _ n ih =>
    intro s h hs
    refine digits_step n s _ h hs ?_
    by_cases h10 : n < 10
    · rw [show n / 10 = 0 by omega, Lib.decDigits, dif_pos h10, show n % 10 = n by omega]
      exact digits_fin _ _
    · rw [Lib.decDigits, dif_neg h10]
      refine (ih (n / 10) (by omega) (UInt8.ofNat (48 + n % 10) :: s) (.inr (by omega)) (by rw [List.length_cons]; omega)).cast ?_
      rw [List.append_assoc]; rfl
theorem digits_ev (n : Nat) (h : n ≤ 100000000000000) : Ev (fun k => laws_digits.f k (n : Int)) (bs (Lib.decDigits n)) := by
  simp only [laws_digits.f]
  refine (digits_l n [] (.inl rfl) (by simp; omega)).cast ?_
  rw [List.append_nil]
/-- A number's digits: one more place of ten. -/
theorem dec10 (u r : Nat) (hu : 0 < u) (hr : r < 10) : Lib.decDigits (u * 10 + r) = Lib.decDigits u ++ [UInt8.ofNat (48 + r)] := by
  rw [Lib.decDigits, dif_neg (by omega), show (u * 10 + r) / 10 = u by omega, show (u * 10 + r) % 10 = r by omega]
def pad4 (m : Nat) : List UInt8 := [UInt8.ofNat (48 + m / 1000), UInt8.ofNat (48 + m / 100 % 10), UInt8.ofNat (48 + m / 10 % 10), UInt8.ofNat (48 + m % 10)]
theorem dec4 (u m : Nat) (hu : 0 < u) (hm : m < 10000) : Lib.decDigits (u * 10000 + m) = Lib.decDigits u ++ pad4 m := by
  have e : u * 10000 + m = (((u * 10 + m / 1000) * 10 + m / 100 % 10) * 10 + m / 10 % 10) * 10 + m % 10 := by omega
  rw [e, dec10 _ _ (by omega) (by omega), dec10 _ _ (by omega) (by omega), dec10 _ _ (by omega) (by omega), dec10 _ _ hu (by omega)]
  simp [pad4]
theorem itoa_dec (n : Nat) : Lib.itoa (n : Int) = Lib.decDigits n := by
  rw [Lib.itoa, if_neg (by omega)]; simp
theorem itoa_pad (m : Nat) (hm : m < 10000) : (bs (Lib.itoa ((m + 10000 : Nat) : Int))).extract 1 (bs (Lib.itoa ((m + 10000 : Nat) : Int))).size = bs (pad4 m) := by
  rw [itoa_dec, show m + 10000 = 1 * 10000 + m by omega, dec4 1 m (by omega) hm, Lib.decDigits, dif_pos (by omega)]
  apply ByteArray.ext
  simp [bs, pad4, ByteArray.size, ByteArray.data_extract]
theorem sh_dg (n : Nat) (i : Nat) : ∀ q : Nat, (dg n).drop i = dg q → 0 < q → sh (dg n) i (bs (Lib.decDigits q)) = bs (Lib.decDigits n) := by
  induction i with
  | zero =>
    intro q h hq
    rw [List.drop_zero] at h
    rw [dg_inj h]; rfl
  | succ i ih =>
    intro q h hq
    have hi : i + 1 < (dg n).length := (dg_lt h).2 hq
    have hd := drop_rd (dg n) i (by omega)
    obtain ⟨hx0, hx1⟩ := dg_ok n (rd (dg n) (i : Int)) (by rw [rd_lt _ i (by omega)]; exact List.getElem_mem _)
    obtain ⟨x, hx⟩ : ∃ x : Nat, rd (dg n) (i : Int) = (x : Int) := ⟨(rd (dg n) (i : Int)).toNat, by omega⟩
    have hx2 : x < 10000 := by omega
    rw [h, hx] at hd
    have hq2 : (dg n).drop i = dg (q * 10000 + x) := by
      rw [hd, dg_pos (show 0 < q * 10000 + x by omega), show (q * 10000 + x) % 10000 = x by omega, show (q * 10000 + x) / 10000 = q by omega]
    rw [sh, hx, show (x : Int) + 10000 = ((x + 10000 : Nat) : Int) by omega, itoa_pad x hx2, bs_app, ← dec4 q x hq hx2]
    exact ih _ hq2 (by omega)
theorem shown_dg (n : Nat) (hn : n ≤ 9223372036854775807) : shown (dg n) = bs (Lib.decDigits n) := by
  have h5 := dg_len64 hn
  have hk : nok (dg n) = true := by rw [nok_dg]; exact decide_eq_true (by omega)
  rcases Nat.eq_zero_or_pos n with h0 | h0
  · subst h0
    rw [shown, if_pos hk, dg_zero, if_pos (show ([] : List Int).length = 0 from rfl), Lib.decDigits, dif_pos (by omega)]; rfl
  · have hl : 0 < (dg n).length := by
      rcases Nat.eq_zero_or_pos (dg n).length with h | h
      · rw [List.length_eq_zero_iff, dg_nil] at h; omega
      · exact h
    have hd := drop_rd (dg n) ((dg n).length - 1) (by omega)
    have hlast := dg_last h0
    obtain ⟨hx0, hx1⟩ := dg_ok n (rd (dg n) (((dg n).length - 1 : Nat) : Int)) (by rw [rd_lt _ _ (by omega)]; exact List.getElem_mem _)
    rw [show ((dg n).length : Int) - 1 = (((dg n).length - 1 : Nat) : Int) by omega] at hlast
    obtain ⟨x, hx⟩ : ∃ x : Nat, rd (dg n) (((dg n).length - 1 : Nat) : Int) = (x : Int) := ⟨(rd (dg n) (((dg n).length - 1 : Nat) : Int)).toNat, by omega⟩
    rw [hx] at hd hlast
    have hq : (dg n).drop ((dg n).length - 1) = dg x := by
      rw [hd, List.drop_of_length_le (by omega), dg_pos (show 0 < x by omega), show x % 10000 = x by omega, show x / 10000 = 0 by omega, dg_zero]
    rw [shown, if_pos hk, if_neg (by omega), show ((dg n).length : Int) - 1 = (((dg n).length - 1 : Nat) : Int) by omega, hx, itoa_dec]
    exact sh_dg n _ x hq (by omega)
theorem drawShow_ex (s : List Int) (hs : s.length ≤ 1048576) : ∃ a : List Int, Ev (fun k => spec_DrawShowNat.f k s) a ∧ a.length ≤ 101 := by
  obtain ⟨h, e⟩ := l1New_ex s (by omega)
  obtain ⟨r, i', h', e2, hl, _, _⟩ := l1DrawAny_ex s (by omega) 0 h (by omega) (by omega)
  refine ⟨r, ?_, hl⟩
  simp only [spec_DrawShowNat.f]
  exact Ev.bind e (Ev.bind e2 (Ev.now _))
theorem natShown_j (n : Nat) (hn : n ≤ 1100000000000) : Ev (fun k => laws_FnNatShown.j0 k (n : Int) (dg (n * 10)) false) true := by
  refine Ev.step (fun k => by rw [laws_FnNatShown.j0]) ?_
  simp only [Bool.false_eq_true, if_false]
  by_cases h : n = 0
  · simp only [if_pos (show (n : Int) = 0 by omega)]; exact Ev.now _
  · simp only [if_neg (show ¬ (n : Int) = 0 by omega)]
    have h5 := dg_len64 (n := n * 10) (by omega)
    refine Ev.bind (implShow_ev _ (by omega)) ?_
    refine Ev.bind (digits_ev n (by omega)) ?_
    have hsz : (bs (Lib.decDigits n)).size + 1 ≤ 9223372036854775807 := by
      rw [bs_size, ← itoa_dec]
      have := Lib.itoa_length_le (n : Int) (by omega) (by omega)
      omega
    simp only [if_pos hsz]
    refine (Ev.now _).cast ?_
    rw [shown_dg (n * 10) (by omega), show n * 10 = n * 10 + 0 by omega, dec10 n 0 (by omega) (by omega)]
    rw [show (⟨#[48]⟩ : ByteArray) = bs [UInt8.ofNat (48 + 0)] from rfl, bs_app]
    exact beq_self_eq_true _
theorem FnNatShown : laws_FnNatShown.Pure := by
  intro a _ _ hw
  have hb : ∀ x ∈ a, 0 ≤ x ∧ x ≤ 255 := fun x hx => by
    have h' : (decide (IntKind.u8.min ≤ x) && decide (x ≤ IntKind.u8.max)) = true := hw x hx
    rw [show IntKind.u8.min = 0 from rfl, show IntKind.u8.max = 255 from rfl, Bool.and_eq_true, decide_eq_true_eq, decide_eq_true_eq] at h'
    exact h'
  refine Ev.rounds ?_
  simp only [laws_FnNatShown.f, laws_big.f, Option.bind_some]
  by_cases h : (a.length : Int) > 4096
  · simp only [decide_eq_true h, if_true]; exact Ev.now _
  · simp only [decide_eq_false h, Bool.false_eq_true, if_false]
    have hl : a.length ≤ 4096 := by omega
    obtain ⟨g, e⟩ := roll_ex a hl 3
    obtain ⟨b1, i1, g1, e1, p1, q1, r1, s1⟩ := below_ex a hb hl 0 g 1048576 (by omega) (by omega) (by omega)
    obtain ⟨b2, i2, g2, e2, p2, q2, r2, s2⟩ := below_ex a hb hl i1 g1 1048576 r1 s1 (by omega)
    obtain ⟨m1, rfl⟩ : ∃ n : Nat, b1 = (n : Int) := ⟨b1.toNat, by omega⟩
    obtain ⟨m2, rfl⟩ : ∃ n : Nat, b2 = (n : Int) := ⟨b2.toNat, by omega⟩
    have hmul : m1 * m2 ≤ 1048576 * 1048576 := Nat.mul_le_mul (by omega) (by omega)
    obtain ⟨n, hn⟩ : ∃ n : Nat, n = m1 * m2 := ⟨_, rfl⟩
    rw [← hn] at hmul
    have hwn : wrap64 ((m1 : Int) * (m2 : Int)) = (n : Int) := by
      rw [← Int.natCast_mul, ← hn, wrap_id (by omega) (by omega)]
    refine Ev.bind e ?_
    simp only [e1, e2, Option.bind_some, hwn]
    refine Ev.bind (implNatOf_ev (n : Int) (by omega) (by omega)) ?_
    refine Ev.bind (implNatOf_ev 10 (by omega) (by omega)) ?_
    refine Ev.bind (implMul_ev _ _) ?_
    obtain ⟨x, ex, hx⟩ := drawShow_ex a (by omega)
    refine Ev.bind ex ?_
    have h5 := dg_len64 (n := n) (by omega)
    rw [show ((n : Int)).toNat = n by omega, show ((10 : Int)).toNat = 10 by omega]
    have hM : mulR (dg n) (dg 10) = (dg (n * 10), true) := by
      have h6 := dg_len64 (n := 10) (by omega)
      have h7 := dg_len64 (n := n * 10) (by omega)
      rw [mulR_dg (by rw [nok_dg]; exact decide_eq_true (by omega)) (by rw [nok_dg]; exact decide_eq_true (by omega)), if_pos (by omega)]
    refine Ev.bind (implShow_ev (dg n) (by omega)) ?_
    refine Ev.bind (digits_ev n (by omega)) ?_
    simp only [shown_dg n (by omega), if_true, hM]
    refine Ev.bind (implShow_ev x (by omega)) ?_
    refine Ev.bind (specShow_ev x (by omega)) ?_
    simp only [bne_self_eq_false]
    exact natShown_j n (by omega)
end Go.Proofs.YtlaliacfonfflaaDoor.Pure

/- The printed law FnExactPutFind, as a function of numbers and lists, answers true for all arguments that a call can be given; no conditions beyond the sizes that memory allows. -/
import Derived.Test.YtkgdofogalfhjabCutFnExactPutFind
namespace Go.Proofs.Ytkgdofogalfhjab.PureFnExactPutFind
open Go.RowKit Go.Proofs.Ytkgdofogalfhjab.PFnExactPutFind Go.Proofs.YtkgdofogalfhjabW.PrintWords Go.Proofs.YtkgdofogalfhjabW.PrintLast Go.Proofs.YtkgdofogalfhjabW.PrintMore
set_option linter.unusedVariables false
set_option linter.unusedSimpArgs false

/-- The pure statement of laws_FnExactPutFind, typed by lawfill.py as print.sh types it where it does. -/
def laws_FnExactPutFind.Pure : Prop := ∀ (l0 : List S28) (a1_0 : Int) (a1_1 : Int) (a1_2 : Int) (a1_3 : Int) (a1_4 : Int) (a1_5 : Int) (a1_6 : Int) (a1_7 : Int), l0.length ≤ maxLen → (Lit.int .i64 a1_0).wf = true → (Lit.int .i64 a1_1).wf = true → (Lit.int .i64 a1_2).wf = true → (Lit.int .i64 a1_3).wf = true → (Lit.int .i64 a1_4).wf = true → (Lit.int .i64 a1_5).wf = true → (Lit.int .i64 a1_6).wf = true → (Lit.int .i64 a1_7).wf = true → ∃ k, laws_FnExactPutFind.f k l0 a1_0 a1_1 a1_2 a1_3 a1_4 a1_5 a1_6 a1_7 = some true

def inr (a b c : Int) : Bool := decide (b ≤ a) && decide (a ≤ c)
theorem inr_iff (a b c : Int) : inr a b c = true ↔ b ≤ a ∧ a ≤ c := by unfold inr; simp
theorem l1In_eq (a b c : Int) : spec_l1In.f a b c = some (inr a b c) := by
  unfold spec_l1In.f inr
  by_cases h : b ≤ a <;> simp [h]
theorem inRange_eq (a b c : Int) : impl_InRange.f a b c = some (inr a b c) := by
  unfold impl_InRange.f inr
  by_cases h : b ≤ a <;> simp [h]
theorem rd_at (xs : List Int) (i : Nat) (h : i < xs.length) : rd xs (i : Int) = xs[i] := by
  unfold rd
  simp [List.getD_eq_getElem?_getD, h]
theorem succ_at (i n : Nat) (h : i < n) (hn : n ≤ 4611686018427387904) : wrap64 ((i : Int) + 1) = ((i + 1 : Nat) : Int) := by
  unfold wrap64
  omega
theorem wrap_id (n : Int) (h0 : -9223372036854775808 ≤ n) (h1 : n ≤ 9223372036854775807) : wrap64 n = n := by
  unfold wrap64
  omega
def okThing (a b c d e : Int) : Bool := inr a 1 999 && inr b 1 8 && inr c 0 7 && inr d 1 50 && inr e 0 10000000
theorem sIsThing (a b c d e : Int) : spec_IsThing.f a b c d e = some (okThing a b c d e) := by
  unfold spec_IsThing.f okThing
  simp only [l1In_eq, Option.bind_some]
  cases inr a 1 999 <;> cases inr b 1 8 <;> cases inr c 0 7 <;> cases inr d 1 50 <;> simp
theorem iIsThing (a b c d e : Int) : impl_IsThing.f a b c d e = some (okThing a b c d e) := by
  unfold impl_IsThing.f okThing
  simp only [inRange_eq, Option.bind_some]
  cases inr a 1 999 <;> cases inr b 1 8 <;> cases inr c 0 7 <;> cases inr d 1 50 <;> simp
def okFind (a b c d e p h f : Int) : Bool := okThing a b c d e && inr p 1 30 && inr h 0 100000 && inr f 0 999
theorem sIsFind (a b c d e p h f : Int) : spec_IsFind.f a b c d e p h f = some (okFind a b c d e p h f) := by
  unfold spec_IsFind.f okFind
  simp only [sIsThing, l1In_eq, Option.bind_some]
  cases okThing a b c d e <;> cases inr p 1 30 <;> cases inr h 0 100000 <;> simp
theorem iIsFind (a b c d e p h f : Int) : impl_IsFind.f a b c d e p h f = some (okFind a b c d e p h f) := by
  unfold impl_IsFind.f okFind
  simp only [iIsThing, inRange_eq, Option.bind_some]
  cases okThing a b c d e <;> cases inr p 1 30 <;> cases inr h 0 100000 <;> simp
def chk (x : S36) : Bool := okFind x.f0.f0 x.f0.f1 x.f0.f2 x.f0.f3 x.f0.f4 x.f1 x.f2 x.f3
theorem sChk (x : S36) : spec_IsFind.f x.f0.f0 x.f0.f1 x.f0.f2 x.f0.f3 x.f0.f4 x.f1 x.f2 x.f3 = some (chk x) := sIsFind ..
theorem iChk (x : S36) : impl_IsFind.f x.f0.f0 x.f0.f1 x.f0.f2 x.f0.f3 x.f0.f4 x.f1 x.f2 x.f3 = some (chk x) := iIsFind ..
theorem eq_self (x : S36) : laws_eqFind.f x.f0.f0 x.f0.f1 x.f0.f2 x.f0.f3 x.f0.f4 x.f1 x.f2 x.f3 x.f0.f0 x.f0.f1 x.f0.f2 x.f0.f3 x.f0.f4 x.f1 x.f2 x.f3 = some true := by
  unfold laws_eqFind.f laws_eqThing.f
  simp
theorem rd_T28_at (xs : List S28) (i : Nat) (h : i < xs.length) : rd_T28 xs (i : Int) = xs[i] := by
  unfold rd_T28
  simp [List.getD_eq_getElem?_getD, h]
def laws_toFindS_conv (x : S28) : S36 := ⟨⟨x.f0.f0, x.f0.f1, x.f0.f2, x.f0.f3, x.f0.f4⟩, x.f1, x.f2, x.f3⟩
theorem laws_toFindS_loop (l : List S28) (hl : l.length ≤ 4611686018427387904) : ∀ (d k i : Nat) (out : List S36), i + d = l.length → d < k → out.length = l.length → (∀ j, j < i → out[j]? = (l[j]?).map laws_toFindS_conv) → laws_toFindS.l0 k l out (i : Int) = some (l.map laws_toFindS_conv) := by
  intro d
  induction d with
  | zero =>
    intro k i out hi hk ho hj
    obtain ⟨k, rfl⟩ : ∃ m, k = m + 1 := ⟨k - 1, by omega⟩
    simp only [laws_toFindS.l0]
    rw [if_neg (by omega)]
    congr 1
    apply List.ext_getElem?
    intro j
    rw [List.getElem?_map]
    rcases Nat.lt_or_ge j i with h | h
    · exact hj j h
    · rw [List.getElem?_eq_none (by omega), List.getElem?_eq_none (by omega)]
      rfl
  | succ d ih =>
    intro k i out hi hk ho hj
    obtain ⟨k, rfl⟩ : ∃ m, k = m + 1 := ⟨k - 1, by omega⟩
    have h1 : (i : Int) < (l.length : Int) := by omega
    have h2 : (0 : Int) ≤ (i : Int) := by omega
    have h3 : (i : Int) < (out.length : Int) := by omega
    simp only [laws_toFindS.l0, if_pos h1, if_pos h2, if_pos h3, laws_toFind.f, laws_toThing.f, Option.bind_some, succ_at i l.length (by omega) hl, rd_T28_at l i (by omega), show ((i : Int)).toNat = i by omega]
    refine ih k (i + 1) (out.set i (laws_toFindS_conv l[i])) (by omega) (by omega) (by simp [ho]) ?_
    intro j h
    rw [List.getElem?_set]
    by_cases e : i = j
    · subst e
      rw [if_pos rfl, if_pos (by omega), List.getElem?_eq_getElem (by omega)]
      rfl
    · rw [if_neg e]
      exact hj j (by omega)
theorem laws_toFindS_eq (k : Nat) (l : List S28) (hk : l.length < k) (hl : l.length ≤ 1048576) : laws_toFindS.f k l = some (l.map laws_toFindS_conv) := by
  unfold laws_toFindS.f
  rw [if_pos (by omega), if_pos (by omega)]
  exact laws_toFindS_loop l (by omega) l.length k 0 _ (by omega) (by omega) (by simp) (by omega)
theorem laws_eqFindS_loop (l : List S36) (hl : l.length ≤ 4611686018427387904) : ∀ (d k i : Nat), i + d = l.length → d < k → laws_eqFindS.l0 k l l (i : Int) = some true := by
  intro d
  induction d with
  | zero =>
    intro k i hi hk
    obtain ⟨k, rfl⟩ : ∃ m, k = m + 1 := ⟨k - 1, by omega⟩
    simp only [laws_eqFindS.l0]
    rw [if_neg (by omega)]
  | succ d ih =>
    intro k i hi hk
    obtain ⟨k, rfl⟩ : ∃ m, k = m + 1 := ⟨k - 1, by omega⟩
    have h1 : (i : Int) < (l.length : Int) := by omega
    have h2 : (0 : Int) ≤ (i : Int) := by omega
    simp only [laws_eqFindS.l0, if_pos h1, if_pos h2, eq_self, Option.bind_some, if_true, succ_at i l.length (by omega) hl]
    exact ih k (i + 1) (by omega) (by omega)
theorem laws_eqFindS_self (k : Nat) (l : List S36) (hk : l.length < k) (hl : l.length ≤ 4611686018427387904) : laws_eqFindS.f k l l = some true := by
  unfold laws_eqFindS.f
  rw [if_pos rfl]
  exact laws_eqFindS_loop l hl l.length k 0 (by omega) (by omega)
theorem spec_AreFinds_both (l : List S36) (hl : l.length ≤ 1048577) : ∀ (d k i : Nat), i + d = l.length → d < k → ∃ r, spec_AreFinds.l0 k l (i : Int) = some (r && decide ((l.length : Int) ≤ 20)) ∧ impl_AreFinds.l0 k l l (l.length : Int) (i : Int) = some r := by
  intro d
  induction d with
  | zero =>
    intro k i hi hk
    obtain ⟨k, rfl⟩ : ∃ m, k = m + 1 := ⟨k - 1, by omega⟩
    have h1 : ¬ (i : Int) < (l.length : Int) := by omega
    simp only [spec_AreFinds.l0, impl_AreFinds.l0, if_neg h1]
    exact ⟨true, by simp, rfl⟩
  | succ d ih =>
    intro k i hi hk
    obtain ⟨k, rfl⟩ : ∃ m, k = m + 1 := ⟨k - 1, by omega⟩
    obtain ⟨r, h3, h4⟩ := ih k (i + 1) (by omega) (by omega)
    have h1 : (i : Int) < (l.length : Int) := by omega
    have h2 : (0 : Int) ≤ (i : Int) := by omega
    simp only [spec_AreFinds.l0, impl_AreFinds.l0, sChk, iChk, Option.bind_some, if_pos h1, if_pos h2, succ_at i l.length (by omega) (by omega), h3, h4]
    cases chk (rd_T36 l (i : Int))
    · exact ⟨false, by simp, by simp⟩
    · simp only [if_true]
      by_cases hp : (i : Int) > 0
      · have h5 : wrap64 ((i : Int) - 1) = ((i - 1 : Nat) : Int) := by unfold wrap64; omega
        have h6 : (0 : Int) ≤ ((i - 1 : Nat) : Int) := by omega
        have h7 : ((i - 1 : Nat) : Int) < (l.length : Int) := by omega
        simp only [if_pos hp, h5, if_pos h6, if_pos h7, ge_iff_le]
        by_cases hq : (rd_T36 l (i : Int)).f0.f0 ≤ (rd_T36 l ((i - 1 : Nat) : Int)).f0.f0
        · simp only [if_pos hq]
          exact ⟨false, by simp, rfl⟩
        · simp only [if_neg hq]
          exact ⟨r, rfl, rfl⟩
      · simp only [if_neg hp]
        exact ⟨r, rfl, rfl⟩
theorem spec_AreFinds_same (k : Nat) (l : List S36) (hl : l.length ≤ 1048577) (hk : l.length < k) : ∃ r, spec_AreFinds.f k l = some r ∧ impl_AreFinds.f k l = some r := by
  obtain ⟨r, h1, h2⟩ := spec_AreFinds_both l hl l.length k 0 (by omega) hk
  unfold spec_AreFinds.f impl_AreFinds.f
  by_cases h : (l.length : Int) > 20
  · rw [if_pos h]
    refine ⟨false, ?_, rfl⟩
    rw [show (decide ((l.length : Int) ≤ 20)) = false by simp; omega, Bool.and_false] at h1
    exact h1
  · rw [if_neg h]
    refine ⟨r, ?_, h2⟩
    rw [show (decide ((l.length : Int) ≤ 20)) = true by simp; omega, Bool.and_true] at h1
    exact h1
def arF (l : List S36) : Bool := (spec_AreFinds.f (l.length + 1) l).getD false
theorem arF_s (k : Nat) (l : List S36) (hl : l.length ≤ 1048577) (hk : l.length < k) : spec_AreFinds.f k l = some (arF l) := by
  obtain ⟨r, h1, _⟩ := spec_AreFinds_same (l.length + 1) l hl (by omega)
  have h2 := at_rounds (fun k => spec_AreFinds.mono l k) (show l.length + 1 ≤ k by omega) h1
  rw [h2]
  unfold arF
  rw [h1]
  rfl
theorem arF_i (k : Nat) (l : List S36) (hl : l.length ≤ 1048577) (hk : l.length < k) : impl_AreFinds.f k l = some (arF l) := by
  obtain ⟨r, h1, h2⟩ := spec_AreFinds_same k l hl hk
  rw [arF_s k l hl hk] at h1
  obtain rfl := Option.some.inj h1
  exact h2
theorem ar_up (l : List S36) (hl : l.length ≤ 1048577) : ∀ (d k i : Nat), i + d = l.length → spec_AreFinds.l0 k l (i : Int) = some true → ∀ j, i ≤ j → j < l.length → 0 < j → (rd_T36 l ((j - 1 : Nat) : Int)).f0.f0 < (rd_T36 l (j : Int)).f0.f0 := by
  intro d
  induction d with
  | zero =>
    intro k i hi h j h1 h2
    omega
  | succ d ih =>
    intro k i hi h j h1 h2 h3
    cases k with
    | zero => exact absurd h (by simp [spec_AreFinds.l0])
    | succ k =>
      simp only [spec_AreFinds.l0] at h
      rw [if_pos (by omega), if_pos (by omega), sChk, Option.bind_some, succ_at i l.length (by omega) (by omega)] at h
      cases hc : chk (rd_T36 l (i : Int))
      · rw [hc] at h
        exact absurd h (by simp)
      · rw [hc] at h
        simp only [if_true] at h
        by_cases hp : (i : Int) > 0
        · have h5 : wrap64 ((i : Int) - 1) = ((i - 1 : Nat) : Int) := by unfold wrap64; omega
          rw [if_pos hp, h5, if_pos (by omega), if_pos (by omega)] at h
          by_cases hq : (rd_T36 l ((i - 1 : Nat) : Int)).f0.f0 ≥ (rd_T36 l (i : Int)).f0.f0
          · rw [if_pos hq] at h
            exact absurd h (by simp)
          · rw [if_neg hq] at h
            rcases Nat.eq_or_lt_of_le h1 with e | e
            · subst e
              omega
            · exact ih k (i + 1) (by omega) h j e h2 h3
        · rw [if_neg hp] at h
          exact ih k (i + 1) (by omega) h j (by omega) h2 h3
theorem ar_lt (l : List S36) (hl : l.length ≤ 1048577) (h : arF l = true) : ∀ (d i : Nat), i + d + 1 < l.length → (rd_T36 l (i : Int)).f0.f0 < (rd_T36 l ((i + d + 1 : Nat) : Int)).f0.f0 := by
  have h1 : spec_AreFinds.l0 (l.length + 1) l ((0 : Nat) : Int) = some true := by
    have := arF_s (l.length + 1) l hl (by omega)
    rw [h] at this
    exact this
  have up := ar_up l hl l.length (l.length + 1) 0 (by omega) h1
  intro d
  induction d with
  | zero =>
    intro i hi
    have := up (i + 1) (by omega) (by omega) (by omega)
    simpa using this
  | succ d ih =>
    intro i hi
    have a := ih i (by omega)
    have b := up (i + d + 1 + 1) (by omega) (by omega) (by omega)
    rw [show i + d + 1 + 1 - 1 = i + d + 1 by omega] at b
    rw [show i + (d + 1) + 1 = i + d + 1 + 1 by omega]
    omega
def insF (l : List S36) (p : Nat) (x : S36) : List S36 := l.take p ++ [x] ++ l.drop p
theorem insF_len (l : List S36) (p : Nat) (x : S36) (hp : p ≤ l.length) : (insF l p x).length = l.length + 1 := by
  unfold insF
  simp only [List.length_append, List.length_take, List.length_drop, List.length_singleton]
  omega
theorem insF_at (l : List S36) (p : Nat) (x : S36) (hp : p ≤ l.length) : rd_T36 (insF l p x) (p : Int) = x := by
  unfold rd_T36 insF
  rw [List.getD_eq_getElem?_getD, Int.toNat_natCast, List.append_assoc, List.getElem?_append_right (by rw [List.length_take]; omega), List.length_take, show p - min p l.length = 0 by omega]
  rfl
theorem insF_lo (l : List S36) (p m : Nat) (x : S36) (hp : p ≤ l.length) (hm : m < p) : rd_T36 (insF l p x) (m : Int) = rd_T36 l (m : Int) := by
  unfold rd_T36 insF
  rw [List.getD_eq_getElem?_getD, List.getD_eq_getElem?_getD, Int.toNat_natCast, List.append_assoc, List.getElem?_append_left (by rw [List.length_take]; omega), List.getElem?_take, if_pos hm]
theorem insF_hi (l : List S36) (p m : Nat) (x : S36) (hp : p ≤ m) (hm : m < l.length) : rd_T36 (insF l p x) ((m + 1 : Nat) : Int) = rd_T36 l (m : Int) := by
  unfold rd_T36 insF
  rw [List.getD_eq_getElem?_getD, List.getD_eq_getElem?_getD, Int.toNat_natCast, Int.toNat_natCast, List.getElem?_append_right (by simp only [List.length_append, List.length_take, List.length_singleton]; omega), List.getElem?_drop]
  congr 2
  simp only [List.length_append, List.length_take, List.length_singleton]
  omega
theorem ins_no (l : List S36) (hl : l.length ≤ 1048576) (p m : Nat) (x : S36) (hp : p ≤ l.length) (hm : m < l.length) (hid : (rd_T36 l (m : Int)).f0.f0 = x.f0.f0) : arF (insF l p x) = false := by
  rw [← Bool.not_eq_true]
  intro h
  have hlen := insF_len l p x hp
  rcases Nat.lt_or_ge m p with h1 | h1
  · have := ar_lt (insF l p x) (by omega) h (p - m - 1) m (by omega)
    rw [show m + (p - m - 1) + 1 = p by omega, insF_at l p x hp, insF_lo l p m x hp h1] at this
    omega
  · have := ar_lt (insF l p x) (by omega) h (m - p) p (by omega)
    rw [show p + (m - p) + 1 = m + 1 by omega, insF_at l p x hp, insF_hi l p m x h1 hm] at this
    omega
theorem findF (l : List S36) (id : Int) (hl : l.length ≤ 1048577) : ∀ (d k i : Nat), i + d = l.length → d < k → ∃ r, impl_FindThing.l0 k l id (i : Int) = some r ∧ (r ≥ 0 → ∃ m, m < l.length ∧ r = (m : Int) ∧ (rd_T36 l (m : Int)).f0.f0 = id) ∧ (r < 0 → r = -1 ∧ ∀ m, i ≤ m → m < l.length → (rd_T36 l (m : Int)).f0.f0 ≠ id) := by
  intro d
  induction d with
  | zero =>
    intro k i hi hk
    obtain ⟨k, rfl⟩ : ∃ m, k = m + 1 := ⟨k - 1, by omega⟩
    simp only [impl_FindThing.l0]
    rw [if_neg (by omega)]
    exact ⟨_, rfl, by omega, fun _ => ⟨rfl, fun m h1 h2 => by omega⟩⟩
  | succ d ih =>
    intro k i hi hk
    obtain ⟨k, rfl⟩ : ∃ m, k = m + 1 := ⟨k - 1, by omega⟩
    simp only [impl_FindThing.l0]
    rw [if_pos (by omega), if_pos (by omega), succ_at i l.length (by omega) (by omega)]
    by_cases e : (rd_T36 l (i : Int)).f0.f0 = id
    · rw [if_pos e]
      exact ⟨_, rfl, fun _ => ⟨i, by omega, rfl, e⟩, by omega⟩
    · rw [if_neg e]
      obtain ⟨r, h1, h2, h3⟩ := ih k (i + 1) (by omega) (by omega)
      refine ⟨r, h1, h2, fun h => ⟨(h3 h).1, fun m a b => ?_⟩⟩
      rcases Nat.eq_or_lt_of_le a with c | c
      · subst c
        exact e
      · exact (h3 h).2 m c b
theorem cloneF (l : List S36) (hl : l.length ≤ 1048577) : impl_Find_34.f l = some l := by
  unfold impl_Find_34.f
  rw [Option.bind_some, if_pos (by simp; omega), List.nil_append]
def putR (l : List S36) (p : Nat) (x : S36) : List S36 × Bool := if arF (insF l p x) = true then (insF l p x, true) else (l, false)
theorem putR_len (l : List S36) (p : Nat) (x : S36) (hp : p ≤ l.length) : (putR l p x).1.length ≤ l.length + 1 := by
  unfold putR
  split
  · exact Nat.le_of_eq (insF_len l p x hp)
  · exact Nat.le_succ _
theorem iJoin (k : Nat) (l : List S36) (x : S36) (p : Nat) (hp : p ≤ l.length) (hl : l.length ≤ 1048576) (hk : l.length + 2 < k) : impl_PutFind.j1 k l l (p : Int) x.f0.f0 x.f0.f1 x.f0.f2 x.f0.f3 x.f0.f4 x.f1 x.f2 x.f3 = some (putR l p x) := by
  obtain ⟨k, rfl⟩ : ∃ m, k = m + 1 := ⟨k - 1, by omega⟩
  simp only [impl_PutFind.j1]
  unfold impl_Find_36.f
  rw [if_pos ⟨by omega, by omega, rfl, hl⟩, Option.bind_some, Int.toNat_natCast]
  show ((impl_AreFinds.f k (insF l p x)).bind fun t => (if t = true then (some (insF l p x, true)) else ((impl_Find_34.f l).bind fun t2 => (some (t2, false))))) = _
  rw [arF_i k (insF l p x) (by rw [insF_len l p x hp]; omega) (by rw [insF_len l p x hp]; omega), Option.bind_some, cloneF l (by omega), Option.bind_some]
  unfold putR
  by_cases h : arF (insF l p x) = true
  · rw [if_pos h, if_pos h]
  · rw [if_neg h, if_neg h]
theorem put_loop (l : List S36) (x : S36) (hl : l.length ≤ 1048576) : ∀ (d k i : Nat), i + d = l.length → l.length + d + 10 < k → ∃ p, p ≤ l.length ∧ spec_PutFind.l0 k l (i : Int) x.f0.f0 x.f0.f1 x.f0.f2 x.f0.f3 x.f0.f4 x.f1 x.f2 x.f3 = some (putR l p x) ∧ impl_PutFind.l0 k l l (i : Int) x.f0.f0 x.f0.f1 x.f0.f2 x.f0.f3 x.f0.f4 x.f1 x.f2 x.f3 = some (putR l p x) := by
  have tail : ∀ (k p : Nat), p ≤ l.length → l.length + 2 < k → ((spec_AreFinds.f k (insF l p x)).bind fun t => (if t = true then (some (insF l p x, true)) else (if ([] : List S36).length + l.length < 2199023255552 then (some (l, false)) else (none)))) = some (putR l p x) := by
    intro k p hp hk
    rw [arF_s k (insF l p x) (by rw [insF_len l p x hp]; omega) (by rw [insF_len l p x hp]; omega), Option.bind_some, if_pos (show ([] : List S36).length + l.length < 2199023255552 by simp only [List.length_nil]; omega)]
    unfold putR
    by_cases h : arF (insF l p x) = true
    · rw [if_pos h, if_pos h]
    · rw [if_neg h, if_neg h]
  intro d
  induction d with
  | zero =>
    intro k i hi hk
    obtain ⟨k, rfl⟩ : ∃ m, k = m + 1 := ⟨k - 1, by omega⟩
    refine ⟨i, by omega, ?_, ?_⟩
    · simp only [spec_PutFind.l0, Option.bind_some, List.nil_append, Int.toNat_natCast]
      rw [if_neg (by omega), if_pos (by omega), if_pos (by omega), if_pos (by simp only [List.length_take, List.length_nil]; omega), if_pos (by simp only [List.length_take, List.length_singleton]; omega), if_pos (by simp only [List.length_append, List.length_take, List.length_drop, List.length_singleton]; omega)]
      exact tail k i (by omega) (by omega)
    · simp only [impl_PutFind.l0]
      rw [if_neg (by omega)]
      exact iJoin k l x i (by omega) hl (by omega)
  | succ d ih =>
    intro k i hi hk
    obtain ⟨k, rfl⟩ : ∃ m, k = m + 1 := ⟨k - 1, by omega⟩
    by_cases e : (rd_T36 l (i : Int)).f0.f0 < x.f0.f0
    · obtain ⟨p, hp, h1, h2⟩ := ih k (i + 1) (by omega) (by omega)
      refine ⟨p, hp, ?_, ?_⟩
      · simp only [spec_PutFind.l0]
        rw [if_pos (by omega), if_pos (by omega), if_pos e, succ_at i l.length (by omega) (by omega)]
        exact h1
      · simp only [impl_PutFind.l0]
        rw [if_pos (by omega), if_pos (by omega), if_pos e, succ_at i l.length (by omega) (by omega)]
        exact h2
    · refine ⟨i, by omega, ?_, ?_⟩
      · simp only [spec_PutFind.l0, Option.bind_some, List.nil_append, Int.toNat_natCast]
        rw [if_pos (by omega), if_pos (by omega), if_neg e, if_pos (by omega), if_pos (by simp only [List.length_take, List.length_nil]; omega), if_pos (by simp only [List.length_take, List.length_singleton]; omega), if_pos (by simp only [List.length_append, List.length_take, List.length_drop, List.length_singleton]; omega)]
        exact tail k i (by omega) (by omega)
      · simp only [impl_PutFind.l0]
        rw [if_pos (by omega), if_pos (by omega), if_neg e]
        exact iJoin k l x i (by omega) hl (by omega)
theorem put_ok (k : Nat) (l : List S36) (x : S36) (hl : l.length ≤ 1048576) (hk : 2 * l.length + 12 < k) : ∃ r : List S36 × Bool, spec_PutFind.f k l x.f0.f0 x.f0.f1 x.f0.f2 x.f0.f3 x.f0.f4 x.f1 x.f2 x.f3 = some r ∧ impl_PutFind.f k l x.f0.f0 x.f0.f1 x.f0.f2 x.f0.f3 x.f0.f4 x.f1 x.f2 x.f3 = some r ∧ r.1.length ≤ l.length + 1 := by
  obtain ⟨p, hp, h1, h2⟩ := put_loop l x hl l.length k 0 (by omega) (by omega)
  obtain ⟨r, g1, g2, g3⟩ := findF l x.f0.f0 (by omega) l.length k 0 (by omega) (by omega)
  refine ⟨putR l p x, h1, ?_, putR_len l p x hp⟩
  unfold impl_PutFind.f
  have g1' : impl_FindThing.f k l x.f0.f0 = some r := g1
  rw [cloneF l (by omega), Option.bind_some, g1', Option.bind_some]
  by_cases h : r ≥ 0
  · rw [if_pos h]
    obtain ⟨m, q1, q2, q3⟩ := g2 h
    have hn := ins_no l hl p m x hp q1 q3
    unfold putR
    rw [hn, if_neg (by simp)]
  · rw [if_neg h]
    exact h2
def mkF (i : Nat) : S36 := ⟨⟨1 + 8 * (i : Int), 1 + 8 * (i : Int) + 1, 1 + 8 * (i : Int) + 1 + 1, 1 + 8 * (i : Int) + 1 + 1 + 1, 1 + 8 * (i : Int) + 1 + 1 + 1 + 1⟩, 1 + 8 * (i : Int) + 1 + 1 + 1 + 1 + 1, 1 + 8 * (i : Int) + 1 + 1 + 1 + 1 + 1 + 1, 1 + 8 * (i : Int) + 1 + 1 + 1 + 1 + 1 + 1 + 1⟩
theorem markF_loop (n : Nat) (hn : n ≤ 1048577) : ∀ (d k i : Nat) (l : List S36), i + d = n → l.length = n → d < k → (∀ j, j < i → l[j]? = some (mkF j)) → ∃ l', laws_markFindS.l0 k l (1 + 8 * (i : Int)) (i : Int) = some (1 + 8 * (n : Int), l') ∧ l'.length = n ∧ ∀ j, j < n → l'[j]? = some (mkF j) := by
  intro d
  induction d with
  | zero =>
    intro k i l hi hl hk hj
    obtain ⟨k, rfl⟩ : ∃ m, k = m + 1 := ⟨k - 1, by omega⟩
    simp only [laws_markFindS.l0]
    rw [if_neg (by omega)]
    obtain rfl : i = n := by omega
    exact ⟨l, rfl, hl, hj⟩
  | succ d ih =>
    intro k i l hi hl hk hj
    obtain ⟨k, rfl⟩ : ∃ m, k = m + 1 := ⟨k - 1, by omega⟩
    simp only [laws_markFindS.l0]
    rw [if_pos (by omega), if_pos (by omega), succ_at i n (by omega) (by omega)]
    simp only [wrap_id (1 + 8 * (i : Int) + 1) (by omega) (by omega), wrap_id (1 + 8 * (i : Int) + 1 + 1) (by omega) (by omega), wrap_id (1 + 8 * (i : Int) + 1 + 1 + 1) (by omega) (by omega), wrap_id (1 + 8 * (i : Int) + 1 + 1 + 1 + 1) (by omega) (by omega), wrap_id (1 + 8 * (i : Int) + 1 + 1 + 1 + 1 + 1) (by omega) (by omega), wrap_id (1 + 8 * (i : Int) + 1 + 1 + 1 + 1 + 1 + 1) (by omega) (by omega), wrap_id (1 + 8 * (i : Int) + 1 + 1 + 1 + 1 + 1 + 1 + 1) (by omega) (by omega), wrap_id (1 + 8 * (i : Int) + 1 + 1 + 1 + 1 + 1 + 1 + 1 + 1) (by omega) (by omega)]
    rw [show 1 + 8 * (i : Int) + 1 + 1 + 1 + 1 + 1 + 1 + 1 + 1 = 1 + 8 * ((i + 1 : Nat) : Int) by omega]
    refine ih k (i + 1) _ (by omega) (by simp [hl]) (by omega) (fun j h => ?_)
    rw [show ((i : Nat) : Int).toNat = i by omega, List.getElem?_set]
    by_cases e : i = j
    · subst e
      rw [if_pos rfl, if_pos (by omega)]
      rfl
    · rw [if_neg e]
      exact hj j (by omega)
theorem rd_mkF (l : List S36) (i : Nat) (h : l[i]? = some (mkF i)) : rd_T36 l (i : Int) = mkF i := by
  unfold rd_T36
  rw [List.getD_eq_getElem?_getD, Int.toNat_natCast, h]
  rfl
theorem heldF_loop (n : Nat) (hn : n ≤ 1048577) (l : List S36) (hl : l.length = n) (hj : ∀ j, j < n → l[j]? = some (mkF j)) : ∀ (d k i : Nat), i + d = n → d < k → laws_heldFindS.l0 k l (1 + 8 * (i : Int)) (i : Int) = some (1 + 8 * (n : Int)) := by
  intro d
  induction d with
  | zero =>
    intro k i hi hk
    obtain ⟨k, rfl⟩ : ∃ m, k = m + 1 := ⟨k - 1, by omega⟩
    simp only [laws_heldFindS.l0]
    rw [if_neg (by omega)]
    obtain rfl : i = n := by omega
    rfl
  | succ d ih =>
    intro k i hi hk
    obtain ⟨k, rfl⟩ : ∃ m, k = m + 1 := ⟨k - 1, by omega⟩
    simp only [laws_heldFindS.l0]
    rw [if_pos (by omega), if_pos (by omega), succ_at i n (by omega) (by omega), rd_mkF l i (hj i (by omega))]
    simp only [wrap_id (1 + 8 * (i : Int) + 1) (by omega) (by omega), wrap_id (1 + 8 * (i : Int) + 1 + 1) (by omega) (by omega), wrap_id (1 + 8 * (i : Int) + 1 + 1 + 1) (by omega) (by omega), wrap_id (1 + 8 * (i : Int) + 1 + 1 + 1 + 1) (by omega) (by omega), wrap_id (1 + 8 * (i : Int) + 1 + 1 + 1 + 1 + 1) (by omega) (by omega), wrap_id (1 + 8 * (i : Int) + 1 + 1 + 1 + 1 + 1 + 1) (by omega) (by omega), wrap_id (1 + 8 * (i : Int) + 1 + 1 + 1 + 1 + 1 + 1 + 1) (by omega) (by omega), wrap_id (1 + 8 * (i : Int) + 1 + 1 + 1 + 1 + 1 + 1 + 1 + 1) (by omega) (by omega), mkF, if_true]
    rw [show 1 + 8 * (i : Int) + 1 + 1 + 1 + 1 + 1 + 1 + 1 + 1 = 1 + 8 * ((i + 1 : Nat) : Int) by omega]
    exact ih k (i + 1) (by omega) (by omega)
theorem markF (k : Nat) (l : List S36) (hk : l.length < k) (hl : l.length ≤ 1048577) : ∃ l', laws_markFindS.f k l 1 = some (1 + 8 * (l.length : Int), l') ∧ ∀ k', l.length < k' → laws_heldFindS.f k' l' 1 = some (1 + 8 * (l.length : Int)) := by
  obtain ⟨l', h1, h2, h3⟩ := markF_loop l.length hl l.length k 0 l (by omega) rfl hk (fun j h => by omega)
  exact ⟨l', h1, fun k' hk' => heldF_loop l.length hl l' h2 h3 l.length k' 0 (by omega) hk'⟩
theorem main : laws_FnExactPutFind.Pure := by
  intro l a b c d e p h f hm _ _ _ _ _ _ _ _
  obtain ⟨K, hK⟩ : ∃ K, K = 2 * l.length + 20 := ⟨_, rfl⟩
  refine ⟨K + 3, ?_⟩
  unfold laws_FnExactPutFind.f laws_szFindS.f
  have hm' : l.length ≤ 9223372036854775807 := hm
  rw [wrap_id (1048576 - (l.length : Int)) (by omega) (by omega)]
  by_cases h1 : 1048576 - (l.length : Int) < 0
  · rw [if_pos h1, Option.bind_some, if_pos (by omega)]
  rw [if_neg h1, Option.bind_some, if_neg h1]
  have e3 := laws_toFindS_eq (K + 3) l (by omega) (by omega)
  have e2 := laws_toFindS_eq (K + 2) l (by omega) (by omega)
  have e1 := laws_toFindS_eq (K + 1) l (by omega) (by omega)
  have hlen : (l.map laws_toFindS_conv).length = l.length := by simp
  generalize l.map laws_toFindS_conv = y at e1 e2 e3 hlen
  have hc : laws_toFind.f a b c d e p h f = some (a, b, c, d, e, p, h, f) := by
    unfold laws_toFind.f laws_toThing.f
    rfl
  obtain ⟨⟨r, q⟩, s3, i3, hr⟩ := put_ok (K + 3) y ⟨⟨a, b, c, d, e⟩, p, h, f⟩ (by omega) (by omega)
  obtain ⟨rq, s1, i1, _⟩ := put_ok (K + 1) y ⟨⟨a, b, c, d, e⟩, p, h, f⟩ (by omega) (by omega)
  simp only [] at s3 i3 hr s1 i1
  have er : rq = (r, q) := by
    have := at_rounds (fun k => impl_PutFind.mono y a b c d e p h f k) (show K + 1 ≤ K + 3 by omega) i1
    rw [i3] at this
    exact (Option.some.inj this).symm
  subst er
  have q3 := laws_eqFindS_self (K + 3) r (by omega) (by omega)
  have q2 := laws_eqFindS_self (K + 2) y (by omega) (by omega)
  have q2r := laws_eqFindS_self (K + 2) r (by omega) (by omega)
  have q1r := laws_eqFindS_self (K + 1) r (by omega) (by omega)
  obtain ⟨y', m1, _⟩ := markF (K + 2) y (by omega) (by omega)
  obtain ⟨r', m2, m3⟩ := markF (K + 1) r (by omega) (by omega)
  have m4 := m3 (K + 1) (by omega)
  have m5 := m3 K (by omega)
  simp only [e3, hc, s3, i3, q3, Option.bind_some, if_true, bne_self_eq_false, laws_FnExactPutFind.j0, Bool.false_eq_true, if_false, e2, q2, m1]
  rw [if_neg (by omega)]
  simp only [q2r, if_true, laws_FnExactPutFind.j1, Bool.false_eq_true, if_false, m2, m4, Option.bind_some, e1, hc, i1, q1r, bne_self_eq_false]
  rw [if_neg (by omega)]
  obtain ⟨K, rfl⟩ : ∃ m, K = m + 1 := ⟨K - 1, by omega⟩
  simp only [laws_FnExactPutFind.j2, Bool.false_eq_true, if_false]
  rw [m3 (K + 1) (by omega), Option.bind_some, if_neg (by omega), if_pos rfl]

end Go.Proofs.Ytkgdofogalfhjab.PureFnExactPutFind
namespace Go.Proofs.Ytkgdofogalfhjab.Pure
/-- The pure statement. -/
theorem FnExactPutFind : Go.Proofs.Ytkgdofogalfhjab.PureFnExactPutFind.laws_FnExactPutFind.Pure := Go.Proofs.Ytkgdofogalfhjab.PureFnExactPutFind.main
end Go.Proofs.Ytkgdofogalfhjab.Pure

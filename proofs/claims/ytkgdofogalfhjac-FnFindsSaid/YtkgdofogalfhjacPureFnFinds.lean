/- The printed law FnFinds, as a function of numbers and lists, answers true for all arguments that a call can be given; no conditions beyond the sizes that memory allows. -/
import Derived.Test.YtkgdofogalfhjacCutFnFinds
namespace Go.Proofs.Ytkgdofogalfhjac.PureFnFinds
open Go.RowKit Go.Proofs.Ytkgdofogalfhjac.PFnFinds Go.Proofs.YtkgdofogalfhjacW.PrintWords Go.Proofs.YtkgdofogalfhjacW.PrintLast Go.Proofs.YtkgdofogalfhjacW.PrintMore
set_option linter.unusedVariables false
set_option linter.unusedSimpArgs false

/-- The pure statement of laws_FnFinds, typed by lawfill.py as print.sh types it where it does. -/
def laws_FnFinds.Pure : Prop := ∀ (l0 : List Int), l0.length ≤ maxLen → (∀ x ∈ l0, (Lit.int .u8 x).wf = true) → ∃ k, laws_FnFinds.f k l0 = some true

def inr (a b c : Int) : Bool := decide (b ≤ a) && decide (a ≤ c)
theorem inr_iff (a b c : Int) : inr a b c = true ↔ b ≤ a ∧ a ≤ c := by unfold inr; simp
theorem inRange_eq (a b c : Int) : impl_InRange.f a b c = some (inr a b c) := by
 unfold impl_InRange.f inr
 by_cases h : b ≤ a <;> simp [h]
theorem rd_at (xs : List Int) (i : Nat) (h : i < xs.length) : rd xs (i : Int) = xs[i] := by
 unfold rd
 simp [List.getD_eq_getElem?_getD, h]
theorem succ_at (i n : Nat) (h : i < n) (hn : n ≤ 4611686018427387904) : wrap64 ((i : Int) + 1) = ((i + 1 : Nat) : Int) := by
 unfold wrap64
 omega
theorem wrap_id (n : Int) (h0 : -9223372036854775808 ≤ n) (h1 : n ≤ 9223372036854775807) : wrap64 n = n := by
 unfold wrap64
 omega
theorem wraps_i64 (n : Int) (h0 : 0 ≤ n) (h1 : n < 2 ^ 63) : IntKind.i64.wrap n = n := by
 rw [IntKind.wrap_i64]
 omega
theorem and127 (n : Int) (h0 : 0 ≤ n) (h1 : n < 2 ^ 63) : Go.bits .and .i64 n 127 = n % 128 :=
 bits_mask .i64 63 (by decide) wraps_i64 7 (by decide) n h0 h1
theorem and127b (n : Int) (h0 : 0 ≤ n) (h1 : n < 2 ^ 8) : Go.bits .and .u8 n 127 = n % 128 :=
 bits_mask .u8 8 (by decide) wraps_u8 7 (by decide) n h0 h1
def okc (b : List Int) (i : Int) : Prop := 0 ≤ i ∧ i ≤ (b.length : Int) ∧ b.length ≤ 1048576
theorem and255 (x : Int) : 0 ≤ Go.bits .and .i64 x 255 ∧ Go.bits .and .i64 x 255 ≤ 255 := by
 have e : Go.bits .and .i64 x 255 = IntKind.i64.wrap (((BitVec.ofInt 64 x &&& BitVec.ofInt 64 255).toNat : Nat) : Int) := rfl
 have h : (BitVec.ofInt 64 x &&& BitVec.ofInt 64 255).toNat ≤ 255 := by
  rw [BitVec.toNat_and]
  exact Nat.and_le_right
 rw [e, wraps_i64 _ (by omega) (by omega)]
 omega
theorem byte_ok (b : List Int) (i h : Int) (hi : okc b i) : ∃ r i' h', spec_l1Byte.f b i h = some (r, i', h') ∧ okc b i' ∧ 0 ≤ r ∧ r ≤ 255 := by
 unfold spec_l1Byte.f
 obtain ⟨h0, h1, h2⟩ := hi
 by_cases c : i < (b.length : Int)
 ·rw [if_pos c, if_pos h0, wrap_id (i + 1) (by omega) (by omega)]
  exact ⟨_, _, _, rfl, ⟨by omega, by omega, h2⟩, and255 _⟩
 ·rw [if_neg c]
  exact ⟨_, _, _, rfl, ⟨h0, h1, h2⟩, and255 _⟩
theorem below_ok (b : List Int) (i h n : Int) (hi : okc b i) : ∃ r i' h', spec_l1Below.f b i h n = some (r, i', h') ∧ okc b i' ∧ 0 ≤ r ∧ (0 < n → r < n) ∧ (n ≤ 0 → r = 0) := by
 unfold spec_l1Below.f
 by_cases c : n ≤ 0
 ·rw [if_pos c]
  exact ⟨0, i, h, rfl, hi, by omega, by omega, fun _ => rfl⟩
 rw [if_neg c]
 by_cases c2 : n ≤ 256
 ·obtain ⟨r, i', h', e, ho, hr⟩ := byte_ok b i h hi
  rw [if_pos c2, e, Option.bind_some, if_neg (by omega), Int.tmod_eq_emod_of_nonneg hr.1]
  exact ⟨_, _, _, rfl, ho, Int.emod_nonneg _ (by omega), fun hp => Int.emod_lt_of_pos _ hp, fun hn => by omega⟩
 ·obtain ⟨r, i1, h1, e1, ho1, hr1⟩ := byte_ok b i h hi
  obtain ⟨r2, i2, h2, e2, ho2, hr2⟩ := byte_ok b i1 h1 ho1
  obtain ⟨r3, i3, h3, e3, ho3, hr3⟩ := byte_ok b i2 h2 ho2
  rw [if_neg c2, e1, Option.bind_some]
  simp only [e2, e3, Option.bind_some]
  rw [if_neg (by omega), wrap_id (r * 65536) (by omega) (by omega), wrap_id (r2 * 256) (by omega) (by omega), wrap_id (r * 65536 + r2 * 256) (by omega) (by omega), wrap_id (r * 65536 + r2 * 256 + r3) (by omega) (by omega), Int.tmod_eq_emod_of_nonneg (by omega)]
  exact ⟨_, _, _, rfl, ho3, Int.emod_nonneg _ (by omega), fun hp => Int.emod_lt_of_pos _ hp, fun hn => by omega⟩
theorem new_ok (k : Nat) (l : List Int) (hl : l.length ≤ 1048576) (hk : l.length < k) : ∃ h, spec_l1New.f k l = some (l, 0, h) := by
 have loop : ∀ (d k i : Nat) (h : Int), i + d = l.length → d < k → ∃ h', spec_l1New.l0 k l h (i : Int) = some (l, 0, h') := by
  intro d
  induction d with
  | zero =>
   intro k i h hi hk
   obtain ⟨k, rfl⟩ : ∃ m, k = m + 1 := ⟨k - 1, by omega⟩
   simp only [spec_l1New.l0]
   rw [if_neg (by omega)]
   exact ⟨h, rfl⟩
  | succ d ih =>
   intro k i h hi hk
   obtain ⟨k, rfl⟩ : ∃ m, k = m + 1 := ⟨k - 1, by omega⟩
   simp only [spec_l1New.l0]
   rw [if_pos (by omega)]
   by_cases c : (i : Int) < 4000
   ·rw [if_pos c, if_pos (by omega), succ_at i l.length (by omega) (by omega)]
    exact ih k (i + 1) _ (by omega) (by omega)
   ·rw [if_neg c]
    exact ⟨h, rfl⟩
 unfold spec_l1New.f
 exact loop l.length k 0 _ (by omega) hk
theorem okc_start (l : List Int) (hl : l.length ≤ 1048576) : okc l 0 := ⟨by omega, by omega, hl⟩
theorem once_ok (b : List Int) (i h n : Int) (hi : okc b i) : ∃ r i' h', spec_l1Once.f b i h n = some (r, i', h') ∧ okc b i' := by
 unfold spec_l1Once.f
 obtain ⟨r, i', h', e, ho, _⟩ := below_ok b i h n hi
 rw [e, Option.bind_some]
 exact ⟨_, _, _, rfl, ho⟩
theorem int_ok (b : List Int) (i h : Int) (l : List Int) (hi : okc b i) (hl : 0 < l.length) : ∃ r i' h', spec_l1Int.f b i h l = some (r, i', h') ∧ okc b i' ∧ r ∈ l := by
 unfold spec_l1Int.f
 obtain ⟨r, i', h', e, ho, h0, h1, _⟩ := below_ok b i h (l.length : Int) hi
 have h2 := h1 (by omega)
 rw [e, Option.bind_some, if_pos h0, if_pos h2]
 refine ⟨_, _, _, rfl, ho, ?_⟩
 obtain ⟨n, rfl⟩ := Int.eq_ofNat_of_zero_le h0
 rw [rd_at l n (by omega)]
 exact List.getElem_mem _
def okThing (a b c d e : Int) : Bool := inr a 1 999 && inr b 1 8 && inr c 0 7 && inr d 1 50 && inr e 0 10000000
theorem iIsThing (a b c d e : Int) : impl_IsThing.f a b c d e = some (okThing a b c d e) := by
 unfold impl_IsThing.f okThing
 simp only [inRange_eq, Option.bind_some]
 cases inr a 1 999 <;> cases inr b 1 8 <;> cases inr c 0 7 <;> cases inr d 1 50 <;> simp
def okFind (a b c d e p h f : Int) : Bool := okThing a b c d e && inr p 1 30 && inr h 0 100000 && inr f 0 999
theorem iIsFind (a b c d e p h f : Int) : impl_IsFind.f a b c d e p h f = some (okFind a b c d e p h f) := by
 unfold impl_IsFind.f okFind
 simp only [iIsThing, inRange_eq, Option.bind_some]
 cases okThing a b c d e <;> cases inr p 1 30 <;> cases inr h 0 100000 <;> simp
def chk (x : S31) : Bool := okFind x.f0.f0 x.f0.f1 x.f0.f2 x.f0.f3 x.f0.f4 x.f1 x.f2 x.f3
theorem iChk (x : S31) : impl_IsFind.f x.f0.f0 x.f0.f1 x.f0.f2 x.f0.f3 x.f0.f4 x.f1 x.f2 x.f3 = some (chk x) := iIsFind ..
theorem draw_ok (b : List Int) (i h a : Int) (hi : okc b i) : ∃ p q r s i' h', spec_l4Draw.f b i h a = some (a, p, q, r, s, i', h') ∧ okc b i' := by
 unfold spec_l4Draw.f
 obtain ⟨r1, i1, h1, e1, o1, _⟩ := below_ok b i h 8 hi
 obtain ⟨r2, i2, h2, e2, o2, _⟩ := below_ok b i1 h1 8 o1
 obtain ⟨r3, i3, h3, e3, o3, _⟩ := below_ok b i2 h2 20 o2
 obtain ⟨r4, i4, h4, e4, o4, _⟩ := below_ok b i3 h3 500 o3
 simp only [e1, e2, e3, e4, Option.bind_some]
 exact ⟨_, _, _, _, _, _, rfl, o4⟩
theorem any_ok (b : List Int) (i h : Int) (hi : okc b i) : ∃ n p q r s i' h', spec_l4Any.f b i h = some (n, p, q, r, s, i', h') ∧ okc b i' := by
 unfold spec_l4Any.f spec_l4Raw.f
 obtain ⟨r1, i1, h1, e1, o1, _⟩ := below_ok b i h 40 hi
 obtain ⟨p, q, r, s, i2, h2, e2, o2⟩ := draw_ok b i1 h1 (wrap64 (1 + r1)) o1
 obtain ⟨r3, i3, h3, e3, o3, _⟩ := below_ok b i2 h2 14 o2
 simp only [e1, e2, e3, Option.bind_some]
 by_cases c0 : r3 = 0
 ·obtain ⟨r4, i4, h4, e4, o4, _⟩ := int_ok b i3 h3 [0, 999, 1000] o3 (by simp)
  simp only [if_pos c0, e4, Option.bind_some]
  exact ⟨_, _, _, _, _, _, _, rfl, o4⟩
 by_cases c1 : r3 = 1
 ·obtain ⟨r4, i4, h4, e4, o4, _⟩ := int_ok b i3 h3 [0, 8, 9] o3 (by simp)
  simp only [if_neg c0, if_pos c1, e4, Option.bind_some]
  exact ⟨_, _, _, _, _, _, _, rfl, o4⟩
 by_cases c2 : r3 = 2
 ·obtain ⟨r4, i4, h4, e4, o4, _⟩ := int_ok b i3 h3 [(-1), 7, 8] o3 (by simp)
  simp only [if_neg c0, if_neg c1, if_pos c2, e4, Option.bind_some]
  exact ⟨_, _, _, _, _, _, _, rfl, o4⟩
 by_cases c3 : r3 = 3
 ·obtain ⟨r4, i4, h4, e4, o4, _⟩ := int_ok b i3 h3 [(-1), 0, 8, 50, 51, 1000, 9223372036854775807, (-9223372036854775808)] o3 (by simp)
  simp only [if_neg c0, if_neg c1, if_neg c2, if_pos c3, e4, Option.bind_some]
  exact ⟨_, _, _, _, _, _, _, rfl, o4⟩
 by_cases c4 : r3 = 4
 ·obtain ⟨r4, i4, h4, e4, o4, _⟩ := int_ok b i3 h3 [(-1), 10000000, 10000001] o3 (by simp)
  simp only [if_neg c0, if_neg c1, if_neg c2, if_neg c3, if_pos c4, e4, Option.bind_some]
  exact ⟨_, _, _, _, _, _, _, rfl, o4⟩
 ·simp only [if_neg c0, if_neg c1, if_neg c2, if_neg c3, if_neg c4]
  exact ⟨_, _, _, _, _, _, _, rfl, o3⟩
theorem ai_loop (l : List S31) (hl : l.length ≤ 1048577) : ∀ (d k i : Nat), i + d = l.length → d < k → ∃ r, impl_AreFinds.l0 k l l (l.length : Int) (i : Int) = some r := by
 intro d
 induction d with
 | zero =>
  intro k i hi hk
  obtain ⟨k, rfl⟩ : ∃ m, k = m + 1 := ⟨k - 1, by omega⟩
  simp only [impl_AreFinds.l0]
  rw [if_neg (by omega)]
  exact ⟨true, rfl⟩
 | succ d ih =>
  intro k i hi hk
  obtain ⟨k, rfl⟩ : ∃ m, k = m + 1 := ⟨k - 1, by omega⟩
  obtain ⟨r, h1⟩ := ih k (i + 1) (by omega) (by omega)
  simp only [impl_AreFinds.l0]
  rw [if_pos (by omega), if_pos (by omega), if_pos (by omega), iChk, Option.bind_some, succ_at i l.length (by omega) (by omega), h1]
  cases chk (rd_T31 l (i : Int))
  ·exact ⟨false, by simp⟩
  ·simp only [if_true]
   by_cases hp : (i : Int) > 0
   ·have h5 : wrap64 ((i : Int) - 1) = ((i - 1 : Nat) : Int) := by unfold wrap64; omega
    rw [if_pos hp, h5, if_pos (by omega), if_pos (by omega)]
    by_cases hq : (rd_T31 l (i : Int)).f0.f0 ≤ (rd_T31 l ((i - 1 : Nat) : Int)).f0.f0
    ·rw [if_pos hq]
     exact ⟨false, rfl⟩
    ·rw [if_neg hq]
     exact ⟨r, rfl⟩
   ·rw [if_neg hp]
    exact ⟨r, rfl⟩
def arF (l : List S31) : Bool := (impl_AreFinds.f (l.length + 1) l).getD false
theorem arF_i (k : Nat) (l : List S31) (hl : l.length ≤ 1048577) (hk : l.length < k) : impl_AreFinds.f k l = some (arF l) := by
 obtain ⟨r, h1⟩ : ∃ r, impl_AreFinds.f (l.length + 1) l = some r := by
  unfold impl_AreFinds.f
  by_cases c : (l.length : Int) > 20
  ·rw [if_pos c]
   exact ⟨_, rfl⟩
  ·rw [if_neg c]
   exact ai_loop l hl l.length (l.length + 1) 0 (by omega) (by omega)
 have h2 := at_rounds (fun k => impl_AreFinds.mono l k) (show l.length + 1 ≤ k by omega) h1
 rw [h2]
 unfold arF
 rw [h1]
 rfl
theorem ar_up (l : List S31) (hl : l.length ≤ 1048577) : ∀ (d k i : Nat), i + d = l.length → impl_AreFinds.l0 k l l (l.length : Int) (i : Int) = some true → ∀ j, i ≤ j → j < l.length → 0 < j → (rd_T31 l ((j - 1 : Nat) : Int)).f0.f0 < (rd_T31 l (j : Int)).f0.f0 := by
 intro d
 induction d with
 | zero =>
  intro k i hi h j h1 h2
  omega
 | succ d ih =>
  intro k i hi h j h1 h2 h3
  cases k with
  | zero => exact absurd h (by simp [impl_AreFinds.l0])
  | succ k =>
   simp only [impl_AreFinds.l0] at h
   rw [if_pos (by omega), if_pos (by omega), if_pos (by omega), iChk, Option.bind_some, succ_at i l.length (by omega) (by omega)] at h
   cases hc : chk (rd_T31 l (i : Int))
   ·rw [hc] at h
    exact absurd h (by simp)
   ·rw [hc] at h
    simp only [if_true] at h
    by_cases hp : (i : Int) > 0
    ·have h5 : wrap64 ((i : Int) - 1) = ((i - 1 : Nat) : Int) := by unfold wrap64; omega
     rw [if_pos hp, h5, if_pos (by omega), if_pos (by omega)] at h
     by_cases hq : (rd_T31 l (i : Int)).f0.f0 ≤ (rd_T31 l ((i - 1 : Nat) : Int)).f0.f0
     ·rw [if_pos hq] at h
      exact absurd h (by simp)
     ·rw [if_neg hq] at h
      rcases Nat.eq_or_lt_of_le h1 with e | e
      ·subst e
       omega
      ·exact ih k (i + 1) (by omega) h j e h2 h3
    ·rw [if_neg hp] at h
     exact ih k (i + 1) (by omega) h j (by omega) h2 h3
theorem ar_lt (l : List S31) (hl : l.length ≤ 1048577) (h : arF l = true) : ∀ (d i : Nat), i + d + 1 < l.length → (rd_T31 l (i : Int)).f0.f0 < (rd_T31 l ((i + d + 1 : Nat) : Int)).f0.f0 := by
 have h1 : impl_AreFinds.l0 (l.length + 1) l l (l.length : Int) ((0 : Nat) : Int) = some true := by
  have h2 := arF_i (l.length + 1) l hl (by omega)
  rw [h] at h2
  unfold impl_AreFinds.f at h2
  by_cases c : (l.length : Int) > 20
  ·rw [if_pos c] at h2
   exact absurd h2 (by simp)
  ·rw [if_neg c] at h2
   exact h2
 have up := ar_up l hl l.length (l.length + 1) 0 (by omega) h1
 intro d
 induction d with
 | zero =>
  intro i hi
  have := up (i + 1) (by omega) (by omega) (by omega)
  simpa using this
 | succ d ih =>
  intro i hi
  have a := ih i (by omega)
  have b := up (i + d + 1 + 1) (by omega) (by omega) (by omega)
  rw [show i + d + 1 + 1 - 1 = i + d + 1 by omega] at b
  rw [show i + (d + 1) + 1 = i + d + 1 + 1 by omega]
  omega
def insF (l : List S31) (p : Nat) (x : S31) : List S31 := l.take p ++ [x] ++ l.drop p
theorem insF_len (l : List S31) (p : Nat) (x : S31) (hp : p ≤ l.length) : (insF l p x).length = l.length + 1 := by
 unfold insF
 simp only [List.length_append, List.length_take, List.length_drop, List.length_singleton]
 omega
theorem insF_at (l : List S31) (p : Nat) (x : S31) (hp : p ≤ l.length) : rd_T31 (insF l p x) (p : Int) = x := by
 unfold rd_T31 insF
 rw [List.getD_eq_getElem?_getD, Int.toNat_natCast, List.append_assoc, List.getElem?_append_right (by rw [List.length_take]; omega), List.length_take, show p - min p l.length = 0 by omega]
 rfl
theorem insF_lo (l : List S31) (p m : Nat) (x : S31) (hp : p ≤ l.length) (hm : m < p) : rd_T31 (insF l p x) (m : Int) = rd_T31 l (m : Int) := by
 unfold rd_T31 insF
 rw [List.getD_eq_getElem?_getD, List.getD_eq_getElem?_getD, Int.toNat_natCast, List.append_assoc, List.getElem?_append_left (by rw [List.length_take]; omega), List.getElem?_take, if_pos hm]
theorem insF_hi (l : List S31) (p m : Nat) (x : S31) (hp : p ≤ m) (hm : m < l.length) : rd_T31 (insF l p x) ((m + 1 : Nat) : Int) = rd_T31 l (m : Int) := by
 unfold rd_T31 insF
 rw [List.getD_eq_getElem?_getD, List.getD_eq_getElem?_getD, Int.toNat_natCast, Int.toNat_natCast, List.getElem?_append_right (by simp only [List.length_append, List.length_take, List.length_singleton]; omega), List.getElem?_drop]
 congr 2
 simp only [List.length_append, List.length_take, List.length_singleton]
 omega
theorem findF (l : List S31) (id : Int) (hl : l.length ≤ 1048577) : ∀ (d k i : Nat), i + d = l.length → d < k → ∃ r, impl_FindThing.l0 k l id (i : Int) = some r ∧ (r ≥ 0 → ∃ m, m < l.length ∧ r = (m : Int) ∧ (rd_T31 l (m : Int)).f0.f0 = id) ∧ (r < 0 → r = -1 ∧ ∀ m, i ≤ m → m < l.length → (rd_T31 l (m : Int)).f0.f0 ≠ id) := by
 intro d
 induction d with
 | zero =>
  intro k i hi hk
  obtain ⟨k, rfl⟩ : ∃ m, k = m + 1 := ⟨k - 1, by omega⟩
  simp only [impl_FindThing.l0]
  rw [if_neg (by omega)]
  exact ⟨_, rfl, by omega, fun _ => ⟨rfl, fun m h1 h2 => by omega⟩⟩
 | succ d ih =>
  intro k i hi hk
  obtain ⟨k, rfl⟩ : ∃ m, k = m + 1 := ⟨k - 1, by omega⟩
  simp only [impl_FindThing.l0]
  rw [if_pos (by omega), if_pos (by omega), succ_at i l.length (by omega) (by omega)]
  by_cases e : (rd_T31 l (i : Int)).f0.f0 = id
  ·rw [if_pos e]
   exact ⟨_, rfl, fun _ => ⟨i, by omega, rfl, e⟩, by omega⟩
  ·rw [if_neg e]
   obtain ⟨r, h1, h2, h3⟩ := ih k (i + 1) (by omega) (by omega)
   refine ⟨r, h1, h2, fun h => ⟨(h3 h).1, fun m a b => ?_⟩⟩
   rcases Nat.eq_or_lt_of_le a with c | c
   ·subst c
    exact e
   ·exact (h3 h).2 m c b
theorem cloneF (l : List S31) (hl : l.length ≤ 1048577) : impl_Find_41.f l = some l := by
 unfold impl_Find_41.f
 rw [Option.bind_some, if_pos (by simp; omega), List.nil_append]
def putR (l : List S31) (p : Nat) (x : S31) : List S31 × Bool := if arF (insF l p x) = true then (insF l p x, true) else (l, false)
theorem putR_len (l : List S31) (p : Nat) (x : S31) (hp : p ≤ l.length) : (putR l p x).1.length ≤ l.length + 1 := by
 unfold putR
 split
 ·exact Nat.le_of_eq (insF_len l p x hp)
 ·exact Nat.le_succ _
theorem iJoin (k : Nat) (l : List S31) (x : S31) (p : Nat) (hp : p ≤ l.length) (hl : l.length ≤ 1048576) (hk : l.length + 2 < k) : impl_PutFind.j1 k l l (p : Int) x.f0.f0 x.f0.f1 x.f0.f2 x.f0.f3 x.f0.f4 x.f1 x.f2 x.f3 = some (putR l p x) := by
 obtain ⟨k, rfl⟩ : ∃ m, k = m + 1 := ⟨k - 1, by omega⟩
 simp only [impl_PutFind.j1]
 unfold impl_Find_42.f
 rw [if_pos ⟨by omega, by omega, rfl, hl⟩, Option.bind_some, Int.toNat_natCast]
 show ((impl_AreFinds.f k (insF l p x)).bind fun t => (if t = true then (some (insF l p x, true)) else ((impl_Find_41.f l).bind fun t2 => (some (t2, false))))) = _
 rw [arF_i k (insF l p x) (by rw [insF_len l p x hp]; omega) (by rw [insF_len l p x hp]; omega), Option.bind_some, cloneF l (by omega), Option.bind_some]
 unfold putR
 by_cases h : arF (insF l p x) = true
 ·rw [if_pos h, if_pos h]
 ·rw [if_neg h, if_neg h]
theorem put_loop (l : List S31) (x : S31) (hl : l.length ≤ 1048576) : ∀ (d k i : Nat), i + d = l.length → l.length + d + 10 < k → ∃ p, p ≤ l.length ∧ impl_PutFind.l0 k l l (i : Int) x.f0.f0 x.f0.f1 x.f0.f2 x.f0.f3 x.f0.f4 x.f1 x.f2 x.f3 = some (putR l p x) := by
 intro d
 induction d with
 | zero =>
  intro k i hi hk
  obtain ⟨k, rfl⟩ : ∃ m, k = m + 1 := ⟨k - 1, by omega⟩
  refine ⟨i, by omega, ?_⟩
  simp only [impl_PutFind.l0]
  rw [if_neg (by omega)]
  exact iJoin k l x i (by omega) hl (by omega)
 | succ d ih =>
  intro k i hi hk
  obtain ⟨k, rfl⟩ : ∃ m, k = m + 1 := ⟨k - 1, by omega⟩
  by_cases e : (rd_T31 l (i : Int)).f0.f0 < x.f0.f0
  ·obtain ⟨p, hp, h2⟩ := ih k (i + 1) (by omega) (by omega)
   refine ⟨p, hp, ?_⟩
   simp only [impl_PutFind.l0]
   rw [if_pos (by omega), if_pos (by omega), if_pos e, succ_at i l.length (by omega) (by omega)]
   exact h2
  ·refine ⟨i, by omega, ?_⟩
   simp only [impl_PutFind.l0]
   rw [if_pos (by omega), if_pos (by omega), if_neg e]
   exact iJoin k l x i (by omega) hl (by omega)
theorem put_ok (k : Nat) (l : List S31) (x : S31) (hl : l.length ≤ 1048576) (hk : 2 * l.length + 12 < k) : (∃ p, p ≤ l.length ∧ arF (insF l p x) = true ∧ impl_PutFind.f k l x.f0.f0 x.f0.f1 x.f0.f2 x.f0.f3 x.f0.f4 x.f1 x.f2 x.f3 = some (insF l p x, true)) ∨ impl_PutFind.f k l x.f0.f0 x.f0.f1 x.f0.f2 x.f0.f3 x.f0.f4 x.f1 x.f2 x.f3 = some (l, false) := by
 obtain ⟨p, hp, h2⟩ := put_loop l x hl l.length k 0 (by omega) (by omega)
 obtain ⟨r, g1, g2, g3⟩ := findF l x.f0.f0 (by omega) l.length k 0 (by omega) (by omega)
 have g1' : impl_FindThing.f k l x.f0.f0 = some r := g1
 unfold impl_PutFind.f
 rw [cloneF l (by omega), Option.bind_some, g1', Option.bind_some]
 by_cases h : r ≥ 0
 ·rw [if_pos h]
  exact .inr rfl
 ·rw [if_neg h]
  have h2' : impl_PutFind.l0 k l l 0 x.f0.f0 x.f0.f1 x.f0.f2 x.f0.f3 x.f0.f4 x.f1 x.f2 x.f3 = some (putR l p x) := h2
  rw [h2']
  unfold putR
  by_cases q : arF (insF l p x) = true
  ·rw [if_pos q]
   exact .inl ⟨p, hp, q, rfl⟩
  ·rw [if_neg q]
   exact .inr rfl
def fa (a : Int) (l : List S31) : List Int := (l.filter (fun y => decide (y.f1 = a))).map (fun y => y.f0.f0)
def okSpan (a b : Int) : Bool := inr a 0 100000 && inr b 0 100000 && decide (a ≤ b)
theorem iIsSpan (a b : Int) : impl_IsSpan.f a b = some (okSpan a b) := by
 unfold impl_IsSpan.f okSpan
 simp only [inRange_eq, Option.bind_some]
 cases inr a 0 100000 <;> cases inr b 0 100000 <;> simp
def hld (a b x : Int) : Bool := okSpan a b && inr x a b
theorem hld_eq (a b x : Int) : impl_Holds.f a b x = some (hld a b x) := by
 unfold impl_Holds.f hld
 simp only [iIsSpan, inRange_eq, Option.bind_some]
 cases okSpan a b <;> simp
def fi (s e : Int) (l : List S31) : List Int := (l.filter (fun y => hld s e y.f2)).map (fun y => y.f0.f0)
theorem fa_cons (a : Int) (y : S31) (l : List S31) : fa a (y :: l) = if y.f1 = a then y.f0.f0 :: fa a l else fa a l := by
 unfold fa
 rw [List.filter_cons]
 by_cases e : y.f1 = a <;> simp [e]
theorem fi_cons (s e : Int) (y : S31) (l : List S31) : fi s e (y :: l) = if hld s e y.f2 = true then y.f0.f0 :: fi s e l else fi s e l := by
 unfold fi
 rw [List.filter_cons]
 by_cases c : hld s e y.f2 = true <;> simp [c]
theorem rdT_at (l : List S31) (i : Nat) (h : i < l.length) : rd_T31 l (i : Int) = l[i] := by
 unfold rd_T31
 rw [List.getD_eq_getElem?_getD, Int.toNat_natCast, List.getElem?_eq_getElem h]
 rfl
theorem fa_loop (l : List S31) (a : Int) (hl : l.length ≤ 1048577) : ∀ (d k i : Nat) (acc : List Int), i + d = l.length → d < k → acc.length + d ≤ 1048577 → impl_FoundAt.l0 k a acc l (l.length : Int) (i : Int) = some (acc ++ fa a (l.drop i)) := by
 intro d
 induction d with
 | zero =>
  intro k i acc hi hk ha
  obtain ⟨k, rfl⟩ : ∃ m, k = m + 1 := ⟨k - 1, by omega⟩
  simp only [impl_FoundAt.l0]
  rw [if_neg (by omega), List.drop_of_length_le (by omega)]
  simp [fa]
 | succ d ih =>
  intro k i acc hi hk ha
  obtain ⟨k, rfl⟩ : ∃ m, k = m + 1 := ⟨k - 1, by omega⟩
  simp only [impl_FoundAt.l0]
  rw [if_pos (by omega), if_pos (by omega), if_pos (by omega), succ_at i l.length (by omega) (by omega), rdT_at l i (by omega), List.drop_eq_getElem_cons (show i < l.length by omega)]
  by_cases e : (l[i]'(by omega)).f1 = a
  ·rw [if_pos e, if_pos (by omega), ih k (i + 1) _ (by omega) (by omega) (by simp; omega)]
   rw [fa_cons, if_pos e, List.append_assoc]
   rfl
  ·rw [if_neg e, ih k (i + 1) _ (by omega) (by omega) (by omega)]
   rw [fa_cons, if_neg e]
theorem foundAt (k : Nat) (l : List S31) (a : Int) (hl : l.length ≤ 1048577) (hk : l.length < k) : impl_FoundAt.f k l a = some (fa a l) := fa_loop l a hl l.length k 0 [] (by omega) hk (by simp; omega)
theorem fi_loop (l : List S31) (s e : Int) (hl : l.length ≤ 1048577) : ∀ (d k i : Nat) (acc : List Int), i + d = l.length → d < k → acc.length + d ≤ 1048577 → impl_FoundIn.l0 k acc l (l.length : Int) (i : Int) s e = some (acc ++ fi s e (l.drop i)) := by
 intro d
 induction d with
 | zero =>
  intro k i acc hi hk ha
  obtain ⟨k, rfl⟩ : ∃ m, k = m + 1 := ⟨k - 1, by omega⟩
  simp only [impl_FoundIn.l0]
  rw [if_neg (by omega), List.drop_of_length_le (by omega)]
  simp [fi]
 | succ d ih =>
  intro k i acc hi hk ha
  obtain ⟨k, rfl⟩ : ∃ m, k = m + 1 := ⟨k - 1, by omega⟩
  simp only [impl_FoundIn.l0]
  rw [if_pos (by omega), if_pos (by omega), if_pos (by omega), succ_at i l.length (by omega) (by omega), rdT_at l i (by omega), hld_eq, Option.bind_some, List.drop_eq_getElem_cons (show i < l.length by omega)]
  by_cases c : hld s e (l[i]'(by omega)).f2 = true
  ·rw [if_pos c, if_pos (by omega), ih k (i + 1) _ (by omega) (by omega) (by simp; omega)]
   rw [fi_cons, if_pos c, List.append_assoc]
   rfl
  ·rw [if_neg c, ih k (i + 1) _ (by omega) (by omega) (by omega)]
   rw [fi_cons, if_neg c]
theorem foundIn (k : Nat) (l : List S31) (s e : Int) (hl : l.length ≤ 1048577) (hk : l.length < k) : impl_FoundIn.f k l s e = some (fi s e l) := fi_loop l s e hl l.length k 0 [] (by omega) hk (by simp; omega)
theorem has (l : List Int) (a : Int) (hl : l.length ≤ 1048577) : ∀ (d k i : Nat), i + d = l.length → d < k → a ∈ l.drop i → laws_contains.l0 k l a (i : Int) = some true := by
 intro d
 induction d with
 | zero =>
  intro k i hi hk h
  rw [List.drop_of_length_le (by omega)] at h
  cases h
 | succ d ih =>
  intro k i hi hk h
  obtain ⟨k, rfl⟩ : ∃ m, k = m + 1 := ⟨k - 1, by omega⟩
  rw [List.drop_eq_getElem_cons (show i < l.length by omega)] at h
  simp only [laws_contains.l0]
  rw [if_pos (by omega), if_pos (by omega), succ_at i l.length (by omega) (by omega), rd_at l i (by omega)]
  by_cases e : l[i]'(by omega) = a
  ·rw [if_pos e]
  ·rw [if_neg e]
   rcases List.mem_cons.1 h with h | h
   ·exact absurd h.symm e
   ·exact ih k (i + 1) (by omega) (by omega) h
theorem asc_loop (l : List Int) (hl : l.length ≤ 1048577) (hp : l.Pairwise (· < ·)) : ∀ (d k i : Nat), i + d = l.length → 1 ≤ i → d < k → laws_ascends.l0 k l (i : Int) = some true := by
 intro d
 induction d with
 | zero =>
  intro k i hi h1 hk
  obtain ⟨k, rfl⟩ : ∃ m, k = m + 1 := ⟨k - 1, by omega⟩
  simp only [laws_ascends.l0]
  rw [if_neg (by omega)]
 | succ d ih =>
  intro k i hi h1 hk
  obtain ⟨k, rfl⟩ : ∃ m, k = m + 1 := ⟨k - 1, by omega⟩
  have h5 : wrap64 ((i : Int) - 1) = ((i - 1 : Nat) : Int) := by unfold wrap64; omega
  have h6 := (List.pairwise_iff_getElem.1 hp) (i - 1) i (by omega) (by omega) (by omega)
  simp only [laws_ascends.l0]
  rw [if_pos (by omega), h5, if_pos (by omega), if_pos (by omega), if_pos (by omega), rd_at l i (by omega), rd_at l (i - 1) (by omega), if_neg (by omega), succ_at i l.length (by omega) (by omega)]
  exact ih k (i + 1) (by omega) (by omega) (by omega)
theorem asc (k : Nat) (l : List Int) (hl : l.length ≤ 1048577) (hp : l.Pairwise (· < ·)) (hk : l.length + 1 < k) : laws_ascends.f k l = some true := by
 unfold laws_ascends.f
 rcases Nat.eq_zero_or_pos l.length with h | h
 ·obtain ⟨k, rfl⟩ : ∃ m, k = m + 1 := ⟨k - 1, by omega⟩
  simp only [laws_ascends.l0]
  rw [if_neg (by omega)]
 ·exact asc_loop l hl hp (l.length - 1) k 1 (by omega) (by omega) (by omega)
theorem ar_pw (l : List S31) (hl : l.length ≤ 1048577) (h : arF l = true) : l.Pairwise (fun y z => y.f0.f0 < z.f0.f0) := by
 rw [List.pairwise_iff_getElem]
 intro i j hi hj hij
 have := ar_lt l hl h (j - i - 1) i (by omega)
 rw [show i + (j - i - 1) + 1 = j by omega, rdT_at l i hi, rdT_at l j hj] at this
 exact this
theorem fa_pw (l : List S31) (a : Int) (hl : l.length ≤ 1048577) (h : arF l = true) : (fa a l).Pairwise (· < ·) := by
 unfold fa
 rw [List.pairwise_map]
 exact (ar_pw l hl h).filter _
theorem fi_pw (l : List S31) (s e : Int) (hl : l.length ≤ 1048577) (h : arF l = true) : (fi s e l).Pairwise (· < ·) := by
 unfold fi
 rw [List.pairwise_map]
 exact (ar_pw l hl h).filter _
theorem fa_len (l : List S31) (a : Int) : (fa a l).length ≤ l.length := by
 unfold fa
 rw [List.length_map]
 exact List.length_filter_le _ _
theorem fi_len (l : List S31) (s e : Int) : (fi s e l).length ≤ l.length := by
 unfold fi
 rw [List.length_map]
 exact List.length_filter_le _ _
theorem draw6_ok (b : List Int) (i h a : Int) (hi : okc b i) : ∃ p q r s t u v i' h', spec_l6Draw.f b i h a = some (a, p, q, r, s, t, u, v, i', h') ∧ okc b i' := by
 unfold spec_l6Draw.f
 obtain ⟨p, q, r, s, i1, h1, e1, o1⟩ := draw_ok b i h a hi
 obtain ⟨r2, i2, h2, e2, o2, _⟩ := below_ok b i1 h1 6 o1
 obtain ⟨r3, i3, h3, e3, o3, _⟩ := below_ok b i2 h2 80 o2
 obtain ⟨r4, i4, h4, e4, o4, _⟩ := below_ok b i3 h3 5 o3
 simp only [e1, e2, e3, e4, Option.bind_some]
 exact ⟨_, _, _, _, _, _, _, _, _, rfl, o4⟩
theorem list6_ok (b : List Int) : ∀ (d k : Nat) (acc : List S31) (i h : Int), acc.length + d = 8 → d + 2 < k → okc b i → ∃ l i' h', spec_l6List.l0 k acc ((acc.length : Int) + 1) b i h = some (l, i', h') ∧ l.length ≤ 8 ∧ okc b i' := by
 intro d
 induction d with
 | zero =>
  intro k acc i h ha hk ho
  obtain ⟨k, rfl⟩ : ∃ m, k = m + 1 := ⟨k - 1, by omega⟩
  obtain ⟨r1, i1, h1, e1, o1, q1, q2, _⟩ := below_ok b i h 8 ho
  have q3 := q2 (by omega)
  simp only [spec_l6List.l0, e1, Option.bind_some]
  rw [if_neg (by omega)]
  exact ⟨_, _, _, rfl, by omega, o1⟩
 | succ d ih =>
  intro k acc i h ha hk ho
  obtain ⟨k, rfl⟩ : ∃ m, k = m + 1 := ⟨k - 1, by omega⟩
  obtain ⟨r1, i1, h1, e1, o1, q1, q2, _⟩ := below_ok b i h 8 ho
  simp only [spec_l6List.l0, e1, Option.bind_some]
  by_cases c : (acc.length : Int) + 1 ≤ r1
  ·obtain ⟨p, q, r, s, t, u, v, i2, h2, e2, o2⟩ := draw6_ok b i1 h1 (wrap64 (2 * ((acc.length : Int) + 1))) o1
   rw [if_pos c, e2, Option.bind_some, if_pos (by omega), wrap_id ((acc.length : Int) + 1 + 1) (by omega) (by omega)]
   have g := ih k (acc ++ [(⟨⟨wrap64 (2 * ((acc.length : Int) + 1)), p, q, r, s⟩, t, u, v⟩ : S31)]) i2 h2 (by simp; omega) (by omega) o2
   rw [List.length_append, List.length_singleton, show (((acc.length + 1 : Nat) : Int) + 1) = (acc.length : Int) + 1 + 1 by omega] at g
   exact g
  ·rw [if_neg c]
   exact ⟨_, _, _, rfl, by omega, o1⟩
theorem any6_ok (k : Nat) (b : List Int) (i h : Int) (hi : okc b i) (hk : 20 ≤ k) : ∃ l i' h', spec_l6Any.f k b i h = some (l, i', h') ∧ l.length ≤ 8 ∧ okc b i' := by
 obtain ⟨l, i1, h1, e1, q1, o1⟩ := list6_ok b 8 k [] i h rfl (by omega) hi
 have e1' : spec_l6List.f k b i h = some (l, i1, h1) := e1
 unfold spec_l6Any.f
 rw [e1', Option.bind_some]
 by_cases c : (l.length : Int) = 0
 ·simp only [if_pos c]
  exact ⟨_, _, _, rfl, q1, o1⟩
 obtain ⟨r2, i2, h2, e2, o2, q2, q3, _⟩ := below_ok b i1 h1 (l.length : Int) o1
 obtain ⟨r3, i3, h3, e3, o3, _⟩ := below_ok b i2 h2 12 o2
 have q4 := q3 (by omega)
 simp only [if_neg c, e2, e3, Option.bind_some]
 by_cases c0 : r3 = 0
 ·obtain ⟨n, p, q, r, s, i4, h4, e4, o4⟩ := any_ok b i3 h3 o3
  simp only [if_pos c0, e4, Option.bind_some, if_pos q2, if_pos q4]
  exact ⟨_, _, _, rfl, by rw [List.length_set]; exact q1, o4⟩
 by_cases c1 : r3 = 1
 ·obtain ⟨r4, i4, h4, e4, o4, _⟩ := int_ok b i3 h3 [0, 30, 31] o3 (by simp)
  simp only [if_neg c0, if_pos c1, e4, Option.bind_some, if_pos q2, if_pos q4]
  exact ⟨_, _, _, rfl, by rw [List.length_set]; exact q1, o4⟩
 by_cases c2 : r3 = 2
 ·obtain ⟨r4, i4, h4, e4, o4, _⟩ := int_ok b i3 h3 [(-1), 0, 8, 50, 51, 1000, 9223372036854775807, (-9223372036854775808)] o3 (by simp)
  have e5 : spec_l4Raw.f b i3 h3 = some (r4, i4, h4) := by
   unfold spec_l4Raw.f
   simp only [e4, Option.bind_some]
  simp only [if_neg c0, if_neg c1, if_pos c2, e5, Option.bind_some, if_pos q2, if_pos q4]
  exact ⟨_, _, _, rfl, by rw [List.length_set]; exact q1, o4⟩
 by_cases c3 : r3 = 3
 ·obtain ⟨r4, i4, h4, e4, o4, _⟩ := int_ok b i3 h3 [(-1), 999, 1000] o3 (by simp)
  simp only [if_neg c0, if_neg c1, if_neg c2, if_pos c3, e4, Option.bind_some, if_pos q2, if_pos q4]
  exact ⟨_, _, _, rfl, by rw [List.length_set]; exact q1, o4⟩
 ·simp only [if_neg c0, if_neg c1, if_neg c2, if_neg c3]
  exact ⟨_, _, _, rfl, q1, o3⟩
theorem one6_ok (k : Nat) (b : List Int) (i h : Int) (hi : okc b i) (hk : 20 ≤ k) : ∃ a p q r s t u v i' h', spec_l6One.f k b i h = some (a, p, q, r, s, t, u, v, i', h') ∧ okc b i' := by
 obtain ⟨l, i1, h1, e1, q1, o1⟩ := any6_ok k b i h hi hk
 unfold spec_l6One.f
 rw [e1, Option.bind_some]
 by_cases c : (l.length : Int) = 0
 ·simp only [if_pos c]
  exact ⟨_, _, _, _, _, _, _, _, _, _, rfl, o1⟩
 ·simp only [if_neg c]
  rw [if_pos (by omega)]
  exact ⟨_, _, _, _, _, _, _, _, _, _, rfl, o1⟩
theorem draw5_ok (b : List Int) (i h : Int) (hi : okc b i) : ∃ r s i' h', spec_l5Draw.f b i h = some (r, s, i', h') ∧ okc b i' := by
 unfold spec_l5Draw.f
 obtain ⟨r1, i1, h1, e1, o1, _⟩ := below_ok b i h 60 hi
 obtain ⟨r2, i2, h2, e2, o2, _⟩ := below_ok b i1 h1 30 o1
 simp only [e1, e2, Option.bind_some]
 exact ⟨_, _, _, _, rfl, o2⟩
theorem any5_ok (b : List Int) (i h : Int) (hi : okc b i) : ∃ r s i' h', spec_l5Any.f b i h = some (r, s, i', h') ∧ okc b i' := by
 unfold spec_l5Any.f
 obtain ⟨r1, s1, i1, h1, e1, o1⟩ := draw5_ok b i h hi
 obtain ⟨r2, i2, h2, e2, o2, _⟩ := below_ok b i1 h1 10 o1
 simp only [e1, e2, Option.bind_some]
 by_cases c0 : r2 = 0
 ·rw [if_pos c0]
  unfold spec_l4Raw.f
  obtain ⟨r3, i3, h3, e3, o3, _⟩ := int_ok b i2 h2 [(-1), 0, 8, 50, 51, 1000, 9223372036854775807, (-9223372036854775808)] o2 (by simp)
  simp only [e3, Option.bind_some]
  exact ⟨_, _, _, _, rfl, o3⟩
 rw [if_neg c0]
 by_cases c1 : r2 = 1
 ·rw [if_pos c1]
  obtain ⟨r3, i3, h3, e3, o3, _⟩ := int_ok b i2 h2 [(-1), 0, 100000, 100001] o2 (by simp)
  simp only [e3, Option.bind_some]
  exact ⟨_, _, _, _, rfl, o3⟩
 ·rw [if_neg c1]
  exact ⟨_, _, _, _, rfl, o2⟩
theorem end_ok (k : Nat) (l : List Int) (hl : l.length ≤ 1048576) (hk : l.length + 40 < k) (x : List S31) (hx : x.length ≤ 8) (s e : Int) : ((spec_DrawFoundAt.f k l).bind fun bt458 => (if ((fi s e x).length : Int) = ((fi s e x).length : Int) then ((impl_AreFinds.f k x).bind fun t462 => (if t462 = true then ((laws_ascends.f k (fi s e x)).bind fun t463 => (if t463 = true then ((impl_AreFinds.f k bt458.1).bind fun t464 => (if t464 = true then ((impl_FoundAt.f k bt458.1 bt458.2).bind fun t465 => ((laws_ascends.f k t465).bind fun t468 => (some t468))) else (some true))) else (some false))) else ((impl_AreFinds.f k bt458.1).bind fun t469 => (if t469 = true then ((impl_FoundAt.f k bt458.1 bt458.2).bind fun t470 => ((laws_ascends.f k t470).bind fun t473 => (some t473))) else (some true))))) else (some false))) = some true := by
 obtain ⟨h, n1⟩ := new_ok k l hl (by omega)
 obtain ⟨y, i2, h2, n2, y2, o2⟩ := any6_ok k l 0 h (okc_start l hl) (by omega)
 obtain ⟨p, i3, h3, n3, o3, _⟩ := below_ok l i2 h2 8 o2
 unfold spec_DrawFoundAt.f
 have fl := fi_len x s e
 have al := fa_len y p
 have g1 := arF_i k x (by omega) (by omega)
 have g2 := arF_i k y (by omega) (by omega)
 have g3 := foundAt k y p (by omega) (by omega)
 have last : (if arF y = true then ((impl_FoundAt.f k y p).bind fun t470 => ((laws_ascends.f k t470).bind fun t473 => (some t473))) else (some true)) = some true := by
  by_cases c : arF y = true
  ·rw [if_pos c, g3, Option.bind_some, asc k (fa p y) (by omega) (fa_pw y p (by omega) c) (by omega), Option.bind_some]
  ·rw [if_neg c]
 simp only [n1, n2, n3, Option.bind_some, if_true, g1, g2]
 by_cases c : arF x = true
 ·rw [if_pos c, asc k (fi s e x) (by omega) (fi_pw x s e (by omega) c) (by omega), Option.bind_some, if_pos rfl]
  exact last
 ·rw [if_neg c]
  exact last
theorem count_ok (l : List Int) (hl : l.length ≤ 1048576) (x : List S31) (hx : x.length ≤ 8) (s e : Int) : ∀ (d k i n : Nat), i + d = x.length → l.length + 50 + d < k → n + (fi s e (x.drop i)).length = (fi s e x).length → laws_FnFinds.l0 k l x (fi s e x) (n : Int) (i : Int) s e = some true := by
 intro d
 induction d with
 | zero =>
  intro k i n hi hk hn
  obtain ⟨k, rfl⟩ : ∃ m, k = m + 1 := ⟨k - 1, by omega⟩
  simp only [laws_FnFinds.l0]
  rw [if_neg (by omega)]
  have hn2 : n = (fi s e x).length := by
   rw [List.drop_of_length_le (by omega)] at hn
   simpa [fi] using hn
  subst hn2
  exact end_ok k l hl (by omega) x hx s e
 | succ d ih =>
  intro k i n hi hk hn
  obtain ⟨k, rfl⟩ : ∃ m, k = m + 1 := ⟨k - 1, by omega⟩
  simp only [laws_FnFinds.l0]
  rw [if_pos (by omega), if_pos (by omega), hld_eq, Option.bind_some, rdT_at x i (by omega), succ_at i x.length (by omega) (by omega)]
  rw [List.drop_eq_getElem_cons (show i < x.length by omega)] at hn
  by_cases c : hld s e (x[i]'(by omega)).f2 = true
  ·have fl := fi_len x s e
   have hn1 : n + 1 + (fi s e (x.drop (i + 1))).length = (fi s e x).length := by
    rw [← hn]
    simp only [fi, List.filter_cons, c, if_true, List.map_cons, List.length_cons]
    omega
   rw [if_pos c, wrap_id ((n : Int) + 1) (by omega) (by omega), show (n : Int) + 1 = ((n + 1 : Nat) : Int) by omega]
   exact ih k (i + 1) (n + 1) (by omega) (by omega) hn1
  ·have hn1 : n + (fi s e (x.drop (i + 1))).length = (fi s e x).length := by
    rw [← hn]
    simp only [fi, List.filter_cons, c]
    rfl
   rw [if_neg c]
   exact ih k (i + 1) n (by omega) (by omega) hn1
theorem j0_ok (k : Nat) (l : List Int) (hl : l.length ≤ 1048576) (hk : l.length + 70 < k) : laws_FnFinds.j0 k l false = some true := by
 obtain ⟨k, rfl⟩ : ∃ m, k = m + 1 := ⟨k - 1, by omega⟩
 obtain ⟨h, n1⟩ := new_ok k l hl (by omega)
 obtain ⟨x, i2, h2, n2, x2, o2⟩ := any6_ok k l 0 h (okc_start l hl) (by omega)
 obtain ⟨s, e, i3, h3, n3, o3⟩ := any5_ok l i2 h2 o2
 simp only [laws_FnFinds.j0]
 rw [if_neg (by simp)]
 unfold spec_DrawFoundIn.f
 simp only [n1, n2, n3, Option.bind_some, foundIn k x s e (by omega) (by omega)]
 exact count_ok l hl x x2 s e x.length k 0 0 (by omega) (by omega) (by simp)
theorem true_ok (K : Nat) (l : List Int) (y R : List S31) (a b c d e p hh f : Int) (q : Nat) (O : List Int) (hbig : ¬ (l.length : Int) > 1048576) (hd : spec_DrawPutFind.f K l = some (y, a, b, c, d, e, p, hh, f)) (hp : impl_PutFind.f K y a b c d e p hh f = some (R, true)) (e1 : impl_AreFinds.f K R = some true) (e2 : (R.length : Int) = wrap64 ((y.length : Int) + 1)) (e3 : impl_FindThing.f K R a = some (q : Int)) (hq : (q : Int) < (R.length : Int)) (e4 : rd_T31 R (q : Int) = ⟨⟨a, b, c, d, e⟩, p, hh, f⟩) (e5 : impl_FoundAt.f K R p = some O) (e6 : laws_contains.f K O a = some true) (j : laws_FnFinds.j0 K l false = some true) : laws_FnFinds.f K l = some true := by
 unfold laws_FnFinds.f laws_big.f
 rw [Option.bind_some, if_neg (by simp; omega), hd, Option.bind_some, hp, Option.bind_some, if_pos rfl, e1, Option.bind_some, if_pos rfl, if_pos e2, e3, Option.bind_some, if_neg (by omega), Option.bind_some, if_pos (by omega)]
 dsimp only
 rw [if_pos hq, e4, if_neg (by simp), e5, Option.bind_some, e6, Option.bind_some, if_pos rfl]
 exact j
theorem false_ok (K : Nat) (l : List Int) (y : List S31) (a b c d e p hh f : Int) (hbig : ¬ (l.length : Int) > 1048576) (hd : spec_DrawPutFind.f K l = some (y, a, b, c, d, e, p, hh, f)) (hp : impl_PutFind.f K y a b c d e p hh f = some (y, false)) (j : laws_FnFinds.j0 K l false = some true) : laws_FnFinds.f K l = some true := by
 unfold laws_FnFinds.f laws_big.f
 rw [Option.bind_some, if_neg (by simp; omega), hd, Option.bind_some, hp, Option.bind_some, if_neg (by simp)]
 rw [bne_self_eq_false]
 exact j
theorem main : laws_FnFinds.Pure := by
 intro l _ _
 obtain ⟨K, hK⟩ : ∃ K, K = l.length + 120 := ⟨_, rfl⟩
 refine ⟨K, ?_⟩
 by_cases h1 : (l.length : Int) > 1048576
 ·unfold laws_FnFinds.f laws_big.f
  rw [Option.bind_some, if_pos (by simp; omega)]
 obtain ⟨h, n1⟩ := new_ok K l (by omega) (by omega)
 obtain ⟨y, i2, h2, n2, y2, o2⟩ := any6_ok K l 0 h (okc_start l (by omega)) (by omega)
 obtain ⟨a0, b, c, d, e, p, hh, f, i3, h3, n3, o3⟩ := one6_ok K l i2 h2 o2 (by omega)
 have hd : ∃ a, spec_DrawPutFind.f K l = some (y, a, b, c, d, e, p, hh, f) := by
  obtain ⟨t, i4, h4, n4, o4⟩ := once_ok l i3 h3 2 o3
  unfold spec_DrawPutFind.f
  simp only [n1, n2, n3, n4, Option.bind_some]
  cases t
  ·exact ⟨a0, by simp⟩
  ·obtain ⟨r, i5, h5, n5, o5, _⟩ := below_ok l i4 h4 20 o4
   simp only [if_true, n5, Option.bind_some]
   exact ⟨_, rfl⟩
 obtain ⟨a, hd⟩ := hd
 have j := j0_ok K l (by omega) (by omega)
 obtain ⟨x, hx⟩ : ∃ x : S31, x = ⟨⟨a, b, c, d, e⟩, p, hh, f⟩ := ⟨_, rfl⟩
 rcases put_ok K y x (by omega) (by omega) with ⟨q, hq, ha, hp⟩ | hp
 ·have hlen := insF_len y q x hq
  obtain ⟨t, g1, g2, g3⟩ := findF (insF y q x) a (by omega) (insF y q x).length K 0 (by omega) (by omega)
  have g1' : impl_FindThing.f K (insF y q x) a = some t := g1
  have hxa : x.f0.f0 = a := by rw [hx]
  have ht : t = (q : Int) := by
   by_cases c0 : t ≥ 0
   ·obtain ⟨m, m1, m2, m3⟩ := g2 c0
    rw [m2]
    rcases Nat.lt_trichotomy m q with c1 | c1 | c1
    ·have := ar_lt (insF y q x) (by omega) ha (q - m - 1) m (by omega)
     rw [show m + (q - m - 1) + 1 = q by omega, insF_at y q x hq, m3, hxa] at this
     omega
    ·rw [c1]
    ·have := ar_lt (insF y q x) (by omega) ha (m - q - 1) q (by omega)
     rw [show q + (m - q - 1) + 1 = m by omega, insF_at y q x hq, m3, hxa] at this
     omega
   ·have := (g3 (by omega)).2 q (by omega) (by omega)
    rw [insF_at y q x hq] at this
    exact absurd hxa this
  have hin : a ∈ fa p (insF y q x) := by
   unfold fa
   rw [List.mem_map]
   refine ⟨x, ?_, hxa⟩
   rw [List.mem_filter]
   exact ⟨by unfold insF; simp, by rw [hx]; simp⟩
  have fl := fa_len (insF y q x) p
  have hcon : laws_contains.f K (fa p (insF y q x)) a = some true := has _ a (by omega) _ K 0 (Nat.zero_add _) (by omega) hin
  subst ht
  have hl2 : (insF y q x).length ≤ 1048577 := by omega
  have e1 := arF_i K (insF y q x) hl2 (by omega)
  rw [ha] at e1
  have e5 := foundAt K (insF y q x) p hl2 (by omega)
  have e4 := insF_at y q x hq
  rw [hx] at hp e4
  rw [hx] at e1 e5 hcon g1' hlen
  simp only [] at hp
  exact true_ok K l y _ a b c d e p hh f q _ h1 hd hp e1 (by rw [wrap_id ((y.length : Int) + 1) (by omega) (by omega), hlen]; omega) g1' (by rw [hlen]; omega) e4 e5 hcon j
 ·rw [hx] at hp
  simp only [] at hp
  exact false_ok K l y a b c d e p hh f h1 hd hp j

end Go.Proofs.Ytkgdofogalfhjac.PureFnFinds
namespace Go.Proofs.Ytkgdofogalfhjac.Pure
/-- The pure statement. -/
theorem FnFinds : Go.Proofs.Ytkgdofogalfhjac.PureFnFinds.laws_FnFinds.Pure := Go.Proofs.Ytkgdofogalfhjac.PureFnFinds.main
end Go.Proofs.Ytkgdofogalfhjac.Pure

/- The printed law FnThings, as a function of numbers and lists, answers true for all arguments that a call can be given; no conditions beyond the sizes that memory allows. -/
import Derived.Test.YtoocbgjcigadfadDoorCutFnThings
import Derived.Test.YtoocbgjcigadfadDoorDec
import Derived.Lib.Strings
namespace Go.Proofs.YtoocbgjcigadfadDoor.PureFnThings
open Go.RowKit Go.Proofs.YtoocbgjcigadfadDoor.PFnThings Go.Proofs.YtoocbgjcigadfadDoorW.PrintWords Go.Proofs.YtoocbgjcigadfadDoorW.PrintLast Go.Proofs.YtoocbgjcigadfadDoorW.PrintMore
set_option linter.unusedVariables false
set_option linter.unusedSimpArgs false

/-- The pure statement of laws_FnThings, typed by lawfill.py as print.sh types it where it does. -/
def laws_FnThings.Pure : Prop := ∀ (l0 : List Int), l0.length ≤ maxLen → (∀ x ∈ l0, (Lit.int .u8 x).wf = true) → ∃ k, laws_FnThings.f k l0 = some true

def inr (a b c : Int) : Bool := decide (b ≤ a) && decide (a ≤ c)
theorem inr_iff (a b c : Int) : inr a b c = true ↔ b ≤ a ∧ a ≤ c := by unfold inr; simp
theorem inRange_eq (a b c : Int) : impl_InRange.f a b c = some (inr a b c) := by
  unfold impl_InRange.f inr
  by_cases h : b ≤ a <;> simp [h]
theorem rd_at (xs : List Int) (i : Nat) (h : i < xs.length) : rd xs (i : Int) = xs[i] := by
  unfold rd
  simp [List.getD_eq_getElem?_getD, h]
theorem succ_at (i n : Nat) (h : i < n) (hn : n ≤ 4611686018427387904) : wrap64 ((i : Int) + 1) = ((i + 1 : Nat) : Int) := by
  unfold wrap64
  omega
theorem wrap_id (n : Int) (h0 : -9223372036854775808 ≤ n) (h1 : n ≤ 9223372036854775807) : wrap64 n = n := by
  unfold wrap64
  omega
theorem wraps_i64 (n : Int) (h0 : 0 ≤ n) (h1 : n < 2 ^ 63) : IntKind.i64.wrap n = n := by
  rw [IntKind.wrap_i64]
  omega
theorem and127 (n : Int) (h0 : 0 ≤ n) (h1 : n < 2 ^ 63) : Go.bits .and .i64 n 127 = n % 128 :=
  bits_mask .i64 63 (by decide) wraps_i64 7 (by decide) n h0 h1
theorem and127b (n : Int) (h0 : 0 ≤ n) (h1 : n < 2 ^ 8) : Go.bits .and .u8 n 127 = n % 128 :=
  bits_mask .u8 8 (by decide) wraps_u8 7 (by decide) n h0 h1
def okc (b : List Int) (i : Int) : Prop := 0 ≤ i ∧ i ≤ (b.length : Int) ∧ b.length ≤ 1048576
theorem and255 (x : Int) : 0 ≤ Go.bits .and .i64 x 255 ∧ Go.bits .and .i64 x 255 ≤ 255 := by
  have e : Go.bits .and .i64 x 255 = IntKind.i64.wrap (((BitVec.ofInt 64 x &&& BitVec.ofInt 64 255).toNat : Nat) : Int) := rfl
  have h : (BitVec.ofInt 64 x &&& BitVec.ofInt 64 255).toNat ≤ 255 := by
    rw [BitVec.toNat_and]
    exact Nat.and_le_right
  rw [e, wraps_i64 _ (by omega) (by omega)]
  omega
theorem byte_ok (b : List Int) (i h : Int) (hi : okc b i) : ∃ r i' h', spec_l1Byte.f b i h = some (r, i', h') ∧ okc b i' ∧ 0 ≤ r ∧ r ≤ 255 := by
  unfold spec_l1Byte.f
  obtain ⟨h0, h1, h2⟩ := hi
  by_cases c : i < (b.length : Int)
  · rw [if_pos c, if_pos h0, wrap_id (i + 1) (by omega) (by omega)]
    exact ⟨_, _, _, rfl, ⟨by omega, by omega, h2⟩, and255 _⟩
  · rw [if_neg c]
    exact ⟨_, _, _, rfl, ⟨h0, h1, h2⟩, and255 _⟩
theorem below_ok (b : List Int) (i h n : Int) (hi : okc b i) : ∃ r i' h', spec_l1Below.f b i h n = some (r, i', h') ∧ okc b i' ∧ 0 ≤ r ∧ (0 < n → r < n) ∧ (n ≤ 0 → r = 0) := by
  unfold spec_l1Below.f
  by_cases c : n ≤ 0
  · rw [if_pos c]
    exact ⟨0, i, h, rfl, hi, by omega, by omega, fun _ => rfl⟩
  rw [if_neg c]
  by_cases c2 : n ≤ 256
  · obtain ⟨r, i', h', e, ho, hr⟩ := byte_ok b i h hi
    rw [if_pos c2, e, Option.bind_some, if_neg (by omega), Int.tmod_eq_emod_of_nonneg hr.1]
    exact ⟨_, _, _, rfl, ho, Int.emod_nonneg _ (by omega), fun hp => Int.emod_lt_of_pos _ hp, fun hn => by omega⟩
  · obtain ⟨r, i1, h1, e1, ho1, hr1⟩ := byte_ok b i h hi
    obtain ⟨r2, i2, h2, e2, ho2, hr2⟩ := byte_ok b i1 h1 ho1
    obtain ⟨r3, i3, h3, e3, ho3, hr3⟩ := byte_ok b i2 h2 ho2
    rw [if_neg c2, e1, Option.bind_some]
    simp only [e2, e3, Option.bind_some]
    rw [if_neg (by omega), wrap_id (r * 65536) (by omega) (by omega), wrap_id (r2 * 256) (by omega) (by omega), wrap_id (r * 65536 + r2 * 256) (by omega) (by omega), wrap_id (r * 65536 + r2 * 256 + r3) (by omega) (by omega), Int.tmod_eq_emod_of_nonneg (by omega)]
    exact ⟨_, _, _, rfl, ho3, Int.emod_nonneg _ (by omega), fun hp => Int.emod_lt_of_pos _ hp, fun hn => by omega⟩
theorem new_ok (k : Nat) (l : List Int) (hl : l.length ≤ 1048576) (hk : l.length < k) : ∃ h, spec_l1New.f k l = some (l, 0, h) := by
  have loop : ∀ (d k i : Nat) (h : Int), i + d = l.length → d < k → ∃ h', spec_l1New.l0 k l h (i : Int) = some (l, 0, h') := by
    intro d
    induction d with
    | zero =>
      intro k i h hi hk
      obtain ⟨k, rfl⟩ : ∃ m, k = m + 1 := ⟨k - 1, by omega⟩
      simp only [spec_l1New.l0]
      rw [if_neg (by omega)]
      exact ⟨h, rfl⟩
    | succ d ih =>
      intro k i h hi hk
      obtain ⟨k, rfl⟩ : ∃ m, k = m + 1 := ⟨k - 1, by omega⟩
      simp only [spec_l1New.l0]
      rw [if_pos (by omega)]
      by_cases c : (i : Int) < 4000
      · rw [if_pos c, if_pos (by omega), succ_at i l.length (by omega) (by omega)]
        exact ih k (i + 1) _ (by omega) (by omega)
      · rw [if_neg c]
        exact ⟨h, rfl⟩
  unfold spec_l1New.f
  exact loop l.length k 0 _ (by omega) hk
theorem okc_start (l : List Int) (hl : l.length ≤ 1048576) : okc l 0 := ⟨by omega, by omega, hl⟩
theorem once_ok (b : List Int) (i h n : Int) (hi : okc b i) : ∃ r i' h', spec_l1Once.f b i h n = some (r, i', h') ∧ okc b i' := by
  unfold spec_l1Once.f
  obtain ⟨r, i', h', e, ho, _⟩ := below_ok b i h n hi
  rw [e, Option.bind_some]
  exact ⟨_, _, _, rfl, ho⟩
theorem int_ok (b : List Int) (i h : Int) (l : List Int) (hi : okc b i) (hl : 0 < l.length) : ∃ r i' h', spec_l1Int.f b i h l = some (r, i', h') ∧ okc b i' ∧ r ∈ l := by
  unfold spec_l1Int.f
  obtain ⟨r, i', h', e, ho, h0, h1, _⟩ := below_ok b i h (l.length : Int) hi
  have h2 := h1 (by omega)
  rw [e, Option.bind_some, if_pos h0, if_pos h2]
  refine ⟨_, _, _, rfl, ho, ?_⟩
  obtain ⟨n, rfl⟩ := Int.eq_ofNat_of_zero_le h0
  rw [rd_at l n (by omega)]
  exact List.getElem_mem _
def okThing (a b c d e : Int) : Bool := inr a 1 999 && inr b 1 8 && inr c 0 7 && inr d 1 50 && inr e 0 10000000
theorem iIsThing (a b c d e : Int) : impl_IsThing.f a b c d e = some (okThing a b c d e) := by
  unfold impl_IsThing.f okThing
  simp only [inRange_eq, Option.bind_some]
  cases inr a 1 999 <;> cases inr b 1 8 <;> cases inr c 0 7 <;> cases inr d 1 50 <;> simp
theorem draw_ok (b : List Int) (i h a : Int) (hi : okc b i) : ∃ p q r s i' h', spec_l4Draw.f b i h a = some (a, p, q, r, s, i', h') ∧ okc b i' := by
  unfold spec_l4Draw.f
  obtain ⟨r1, i1, h1, e1, o1, _⟩ := below_ok b i h 8 hi
  obtain ⟨r2, i2, h2, e2, o2, _⟩ := below_ok b i1 h1 8 o1
  obtain ⟨r3, i3, h3, e3, o3, _⟩ := below_ok b i2 h2 20 o2
  obtain ⟨r4, i4, h4, e4, o4, _⟩ := below_ok b i3 h3 500 o3
  simp only [e1, e2, e3, e4, Option.bind_some]
  exact ⟨_, _, _, _, _, _, rfl, o4⟩
theorem any_ok (b : List Int) (i h : Int) (hi : okc b i) : ∃ n p q r s i' h', spec_l4Any.f b i h = some (n, p, q, r, s, i', h') ∧ okc b i' := by
  unfold spec_l4Any.f spec_l4Raw.f
  obtain ⟨r1, i1, h1, e1, o1, _⟩ := below_ok b i h 40 hi
  obtain ⟨p, q, r, s, i2, h2, e2, o2⟩ := draw_ok b i1 h1 (wrap64 (1 + r1)) o1
  obtain ⟨r3, i3, h3, e3, o3, _⟩ := below_ok b i2 h2 14 o2
  simp only [e1, e2, e3, Option.bind_some]
  by_cases c0 : r3 = 0
  · obtain ⟨r4, i4, h4, e4, o4, _⟩ := int_ok b i3 h3 [0, 999, 1000] o3 (by simp)
    simp only [if_pos c0, e4, Option.bind_some]
    exact ⟨_, _, _, _, _, _, _, rfl, o4⟩
  by_cases c1 : r3 = 1
  · obtain ⟨r4, i4, h4, e4, o4, _⟩ := int_ok b i3 h3 [0, 8, 9] o3 (by simp)
    simp only [if_neg c0, if_pos c1, e4, Option.bind_some]
    exact ⟨_, _, _, _, _, _, _, rfl, o4⟩
  by_cases c2 : r3 = 2
  · obtain ⟨r4, i4, h4, e4, o4, _⟩ := int_ok b i3 h3 [(-1), 7, 8] o3 (by simp)
    simp only [if_neg c0, if_neg c1, if_pos c2, e4, Option.bind_some]
    exact ⟨_, _, _, _, _, _, _, rfl, o4⟩
  by_cases c3 : r3 = 3
  · obtain ⟨r4, i4, h4, e4, o4, _⟩ := int_ok b i3 h3 [(-1), 0, 8, 50, 51, 1000, 9223372036854775807, (-9223372036854775808)] o3 (by simp)
    simp only [if_neg c0, if_neg c1, if_neg c2, if_pos c3, e4, Option.bind_some]
    exact ⟨_, _, _, _, _, _, _, rfl, o4⟩
  by_cases c4 : r3 = 4
  · obtain ⟨r4, i4, h4, e4, o4, _⟩ := int_ok b i3 h3 [(-1), 10000000, 10000001] o3 (by simp)
    simp only [if_neg c0, if_neg c1, if_neg c2, if_neg c3, if_pos c4, e4, Option.bind_some]
    exact ⟨_, _, _, _, _, _, _, rfl, o4⟩
  · simp only [if_neg c0, if_neg c1, if_neg c2, if_neg c3, if_neg c4]
    exact ⟨_, _, _, _, _, _, _, rfl, o3⟩
theorem list_tail (k : Nat) (acc : List S27) (b : List Int) (i h : Int) (hi : okc b i) (ha : acc.length ≤ 6) (hk : 1 ≤ k) : ∃ l i' h', (if (acc.length : Int) > 0 then ((spec_l1Once.f b i h 8).bind fun bt281 => (spec_l4List.j1 k acc bt281.1 b bt281.2.1 bt281.2.2)) else (spec_l4List.j1 k acc false b i h)) = some (l, i', h') ∧ l.length ≤ 6 := by
  obtain ⟨k, rfl⟩ : ∃ m, k = m + 1 := ⟨k - 1, by omega⟩
  by_cases c1 : (acc.length : Int) > 0
  · obtain ⟨t, i2, h2, e2, o2⟩ := once_ok b i h 8 hi
    rw [if_pos c1, e2, Option.bind_some]
    simp only [spec_l4List.j1]
    cases t
    · simp only [Bool.false_eq_true, if_false]
      exact ⟨_, _, _, rfl, by omega⟩
    · obtain ⟨r3, i3, h3, e3, o3, q4, q5, _⟩ := below_ok b i2 h2 (acc.length : Int) o2
      obtain ⟨n, p, q, r, s, i4, h4, e4, o4⟩ := any_ok b i3 h3 o3
      have q6 := q5 (by omega)
      simp only [if_true, e3, e4, Option.bind_some]
      rw [if_pos q4, if_pos q6]
      exact ⟨_, _, _, rfl, by simp; omega⟩
  · rw [if_neg c1]
    simp only [spec_l4List.j1, Bool.false_eq_true, if_false]
    exact ⟨_, _, _, rfl, by omega⟩
theorem list_ok (k : Nat) (b : List Int) (i h : Int) (hi : okc b i) (hk : 20 ≤ k) : ∃ l i' h', spec_l4List.f k b i h = some (l, i', h') ∧ l.length ≤ 6 := by
  have loop : ∀ (d k : Nat) (acc : List S27) (i h : Int), acc.length + d = 6 → d + 2 < k → okc b i → ∃ l i' h', spec_l4List.l0 k acc ((acc.length : Int) + 1) b i h = some (l, i', h') ∧ l.length ≤ 6 := by
    intro d
    induction d with
    | zero =>
      intro k acc i h ha hk ho
      obtain ⟨k, rfl⟩ : ∃ m, k = m + 1 := ⟨k - 1, by omega⟩
      obtain ⟨r1, i1, h1, e1, o1, q1, q2, _⟩ := below_ok b i h 7 ho
      have q3 := q2 (by omega)
      simp only [spec_l4List.l0, e1, Option.bind_some]
      rw [if_neg (by omega)]
      exact list_tail k acc b i1 h1 o1 (by omega) (by omega)
    | succ d ih =>
      intro k acc i h ha hk ho
      obtain ⟨k, rfl⟩ : ∃ m, k = m + 1 := ⟨k - 1, by omega⟩
      obtain ⟨r1, i1, h1, e1, o1, q1, q2, _⟩ := below_ok b i h 7 ho
      have q3 := q2 (by omega)
      simp only [spec_l4List.l0, e1, Option.bind_some]
      by_cases c : (acc.length : Int) + 1 ≤ r1
      · obtain ⟨p, q, r, s, i2, h2, e2, o2⟩ := draw_ok b i1 h1 (wrap64 (2 * ((acc.length : Int) + 1))) o1
        have hh := ih k (acc ++ [⟨wrap64 (2 * ((acc.length : Int) + 1)), p, q, r, s⟩]) i2 h2 (by simp; omega) (by omega) o2
        rw [show (((acc ++ [(⟨wrap64 (2 * ((acc.length : Int) + 1)), p, q, r, s⟩ : S27)]).length : Int) + 1) = (acc.length : Int) + 1 + 1 by simp] at hh
        rw [if_pos c, e2, Option.bind_some, if_pos (by omega), wrap_id ((acc.length : Int) + 1 + 1) (by omega) (by omega)]
        exact hh
      · rw [if_neg c]
        exact list_tail k acc b i1 h1 o1 (by omega) (by omega)
  exact loop 6 k [] i h (by simp) (by omega) hi
theorem out_at (xs : List S27) (i : Nat) (h : i < xs.length) : rd_T27 xs (i : Int) = xs[i] := by
  unfold rd_T27
  simp [List.getD_eq_getElem?_getD, h]
def chk (x : S27) : Bool := okThing x.f0 x.f1 x.f2 x.f3 x.f4
def fine (l : List S27) (i : Nat) : Prop := ∀ j, i ≤ j → ∀ x, l[j]? = some x → chk x = true ∧ (0 < j → ∀ y, l[j - 1]? = some y → y.f0 < x.f0)
theorem are_loop (l : List S27) (hl : l.length ≤ 1048576) : ∀ (d k i : Nat), i + d = l.length → d < k → ∃ r, impl_AreThings.l0 k l l (l.length : Int) (i : Int) = some r ∧ (r = true ↔ fine l i) := by
  intro d
  induction d with
  | zero =>
    intro k i hi hk
    obtain ⟨k, rfl⟩ : ∃ m, k = m + 1 := ⟨k - 1, by omega⟩
    simp only [impl_AreThings.l0]
    rw [if_neg (by omega)]
    refine ⟨true, rfl, fun _ => ?_, fun _ => rfl⟩
    intro j hj x hx
    rw [List.getElem?_eq_none (by omega)] at hx
    exact absurd hx (by simp)
  | succ d ih =>
    intro k i hi hk
    obtain ⟨k, rfl⟩ : ∃ m, k = m + 1 := ⟨k - 1, by omega⟩
    have hil : i < l.length := by omega
    obtain ⟨r, e, hr⟩ := ih k (i + 1) (by omega) (by omega)
    have hthis : l[i]? = some l[i] := List.getElem?_eq_getElem hil
    simp only [impl_AreThings.l0]
    rw [if_pos (by omega), if_pos (by omega), if_pos (by omega), out_at l i hil, iIsThing, Option.bind_some, succ_at i l.length hil (by omega), e]
    by_cases hc : okThing (l[i]).f0 (l[i]).f1 (l[i]).f2 (l[i]).f3 (l[i]).f4 = true
    · rw [if_pos hc]
      by_cases hp : (i : Int) > 0
      · have hprev : l[i - 1]? = some (l[i - 1]'(by omega)) := List.getElem?_eq_getElem (by omega)
        rw [if_pos hp, wrap_id ((i : Int) - 1) (by omega) (by omega), if_pos (by omega), if_pos (by omega), show (i : Int) - 1 = ((i - 1 : Nat) : Int) by omega, out_at l (i - 1) (by omega)]
        by_cases hq : (l[i]).f0 ≤ (l[i - 1]'(by omega)).f0
        · rw [if_pos hq]
          refine ⟨false, rfl, fun h => absurd h (by decide), fun h => ?_⟩
          have := (h i (Nat.le_refl _) _ hthis).2 (by omega) _ hprev
          omega
        · rw [if_neg hq]
          refine ⟨r, rfl, hr.trans ⟨fun h j hj x hx => ?_, fun h j hj x hx => h j (by omega) x hx⟩⟩
          rcases Nat.lt_or_ge i j with g | g
          · exact h j g x hx
          · obtain rfl : j = i := by omega
            rw [hthis] at hx
            obtain rfl := Option.some.inj hx
            refine ⟨hc, fun _ y hy => ?_⟩
            rw [hprev] at hy
            obtain rfl := Option.some.inj hy
            omega
      · rw [if_neg hp]
        refine ⟨r, rfl, hr.trans ⟨fun h j hj x hx => ?_, fun h j hj x hx => h j (by omega) x hx⟩⟩
        rcases Nat.lt_or_ge i j with g | g
        · exact h j g x hx
        · obtain rfl : j = i := by omega
          rw [hthis] at hx
          obtain rfl := Option.some.inj hx
          exact ⟨hc, fun h0 => absurd h0 (by omega)⟩
    · rw [if_neg hc]
      exact ⟨false, rfl, fun h => absurd h (by decide), fun h => absurd (h i (Nat.le_refl _) _ hthis).1 hc⟩
theorem are_ok (k : Nat) (l : List S27) (hl : l.length ≤ 6) (hk : l.length < k) : ∃ r, impl_AreThings.f k l = some r ∧ (r = true ↔ fine l 0) := by
  unfold impl_AreThings.f
  rw [if_neg (by omega)]
  exact are_loop l (by omega) l.length k 0 (by omega) hk
theorem fine_drop (l : List S27) (h : fine l 0) : fine (l.drop 1) 0 := by
  intro j _ x hx
  rw [List.getElem?_drop] at hx
  obtain ⟨h1, h2⟩ := h (1 + j) (by omega) x hx
  refine ⟨h1, fun hj y hy => ?_⟩
  rw [List.getElem?_drop] at hy
  exact h2 (by omega) y (by rw [show 1 + j - 1 = 1 + (j - 1) by omega]; exact hy)
theorem kind_at (a : Int) (h : inr a 1 8 = true) : ∃ s, impl_KindText.f a = some s ∧ s.size ≤ 8 := by
  obtain ⟨h0, h1⟩ := (inr_iff _ _ _).1 h
  have : a = 1 ∨ a = 2 ∨ a = 3 ∨ a = 4 ∨ a = 5 ∨ a = 6 ∨ a = 7 ∨ a = 8 := by omega
  rcases this with rfl | rfl | rfl | rfl | rfl | rfl | rfl | rfl <;> exact ⟨_, rfl, by decide⟩
theorem colour_at (a : Int) (h : inr a 0 7 = true) : ∃ s, impl_ColourText.f a = some s ∧ s.size ≤ 8 := by
  obtain ⟨h0, h1⟩ := (inr_iff _ _ _).1 h
  have : a = 0 ∨ a = 1 ∨ a = 2 ∨ a = 3 ∨ a = 4 ∨ a = 5 ∨ a = 6 ∨ a = 7 := by omega
  rcases this with rfl | rfl | rfl | rfl | rfl | rfl | rfl | rfl <;> exact ⟨_, rfl, by decide⟩
def kindName (a : Int) : List UInt8 := if a = 1 then [98, 97, 103] else if a = 2 then [99, 111, 97, 116] else if a = 3 then [107, 101, 121, 115] else if a = 4 then [109, 111, 110, 101, 121] else if a = 5 then [112, 104, 111, 110, 101] else if a = 6 then [117, 109, 98, 114, 101, 108, 108, 97] else if a = 7 then [102, 111, 111, 100] else [111, 116, 104, 101, 114]
def colourName (a : Int) : List UInt8 := if a = 1 then [98, 108, 97, 99, 107] else if a = 2 then [119, 104, 105, 116, 101] else if a = 3 then [114, 101, 100] else if a = 4 then [103, 114, 101, 101, 110] else if a = 5 then [98, 108, 117, 101] else if a = 6 then [121, 101, 108, 108, 111, 119] else if a = 7 then [98, 114, 111, 119, 110] else [103, 114, 101, 121]
theorem names_at (a : Int) (h : 1 ≤ a ∧ a ≤ 8) : ∃ s t, impl_KindText.f a = some s ∧ impl_ColourText.f (wrap64 (a - 1)) = some t ∧ s.toList = kindName a ∧ t.toList = colourName a := by
  refine ⟨⟨(kindName a).toArray⟩, ⟨(colourName a).toArray⟩, ?_, ?_, by rw [Go.Lib.toList_data], by rw [Go.Lib.toList_data]⟩
  · have : a = 1 ∨ a = 2 ∨ a = 3 ∨ a = 4 ∨ a = 5 ∨ a = 6 ∨ a = 7 ∨ a = 8 := by omega
    rcases this with rfl | rfl | rfl | rfl | rfl | rfl | rfl | rfl <;> rfl
  · rw [wrap_id (a - 1) (by omega) (by omega)]
    have : a = 1 ∨ a = 2 ∨ a = 3 ∨ a = 4 ∨ a = 5 ∨ a = 6 ∨ a = 7 ∨ a = 8 := by omega
    rcases this with rfl | rfl | rfl | rfl | rfl | rfl | rfl | rfl <;> rfl
theorem names_differ (a b : Int) (ha : 1 ≤ a ∧ a ≤ 8) (hb : 1 ≤ b ∧ b < a) : kindName a ≠ kindName b ∧ kindName a ≠ [] ∧ colourName a ≠ colourName b := by
  have h1 : a = 1 ∨ a = 2 ∨ a = 3 ∨ a = 4 ∨ a = 5 ∨ a = 6 ∨ a = 7 ∨ a = 8 := by omega
  have h2 : b = 1 ∨ b = 2 ∨ b = 3 ∨ b = 4 ∨ b = 5 ∨ b = 6 ∨ b = 7 := by omega
  rcases h1 with rfl | rfl | rfl | rfl | rfl | rfl | rfl | rfl <;> rcases h2 with rfl | rfl | rfl | rfl | rfl | rfl | rfl <;> first | (exfalso; omega) | decide
theorem inner_ok (x : List Int) (a : Nat) (ha : 1 ≤ a ∧ a ≤ 8) : ∀ (d k i : Nat), i + d = a → 1 ≤ i → laws_FnThings.l1 (k + d + 1) x (a : Int) (i : Int) = laws_FnThings.l0 k x ((a + 1 : Nat) : Int) := by
  intro d
  induction d with
  | zero =>
    intro k i hi h1
    rw [show k + 0 + 1 = k + 1 by omega]
    simp only [laws_FnThings.l1]
    rw [if_neg (by omega), wrap_id _ (by omega) (by omega)]
    rfl
  | succ d ih =>
    intro k i hi h1
    obtain ⟨s, t, e1, e2, e3, e4⟩ := names_at (a : Int) (by omega)
    obtain ⟨s', t', e1', e2', e3', e4'⟩ := names_at (i : Int) (by omega)
    obtain ⟨n1, n2, n3⟩ := names_differ (a : Int) (i : Int) (by omega) (by omega)
    have hh := ih k (i + 1) (by omega) (by omega)
    generalize hK : k + d + 1 = K at hh
    have hk2 : k + (d + 1) + 1 = K + 1 := by omega
    try rw [hk2]
    simp only [laws_FnThings.l1]
    rw [if_pos (by omega), e1, Option.bind_some, e1', Option.bind_some, e3, e3', if_neg n1, Option.bind_some, e3, if_neg n2, e2, Option.bind_some, e2', Option.bind_some, e4, e4', if_neg n3, wrap_id ((i : Int) + 1) (by omega) (by omega)]
    exact hh
theorem outer_ok (x : List Int) (k : Nat) : ∀ (d a : Nat), a + d = 9 → 1 ≤ a → ∃ m, laws_FnThings.l0 (k + m) x (a : Int) = laws_FnThings.l0 k x 9 := by
  intro d
  induction d with
  | zero =>
    intro a ha _
    obtain rfl : a = 9 := by omega
    exact ⟨0, rfl⟩
  | succ d ih =>
    intro a ha h1
    obtain ⟨m, e⟩ := ih (a + 1) (by omega) (by omega)
    refine ⟨m + (a - 1) + 2, ?_⟩
    rw [show k + (m + (a - 1) + 2) = ((k + m) + (a - 1) + 1) + 1 by omega]
    have h := inner_ok x a (by omega) (a - 1) (k + m) 1 (by omega) (by omega)
    rw [← e, ← h]
    simp only [laws_FnThings.l0]
    rw [if_pos (by omega)]
    rfl
def sameKind (a b c d e a' b' c' d' e' : Int) : Bool := okThing a b c d e && okThing a' b' c' d' e' && (b == b')
theorem iSame (a b c d e a' b' c' d' e' : Int) : impl_SameKind.f a b c d e a' b' c' d' e' = some (sameKind a b c d e a' b' c' d' e') := by
  unfold impl_SameKind.f sameKind
  simp only [iIsThing, Option.bind_some]
  cases okThing a b c d e <;> cases okThing a' b' c' d' e' <;> simp
theorem end_ok (k : Nat) (x : List Int) (hx : x.length ≤ 1048576) (hk : x.length + 40 ≤ k) : laws_FnThings.l0 k x 9 = some true := by
  obtain ⟨k, rfl⟩ : ∃ m, k = m + 1 := ⟨k - 1, by omega⟩
  obtain ⟨h, n1⟩ := new_ok k x (by omega) (by omega)
  obtain ⟨a, b, c, d, e, i2, h2, n2, o2⟩ := any_ok x 0 h (okc_start x (by omega))
  obtain ⟨a', b', c', d', e', i3, h3, n3, o3⟩ := any_ok x i2 h2 o2
  obtain ⟨l, i4, h4, n4, hl⟩ := list_ok k x 0 h (okc_start x (by omega)) (by omega)
  have hs : spec_DrawSameKind.f k x = some (a, b, c, d, e, a', b', c', d', e') := by
    unfold spec_DrawSameKind.f
    simp only [n1, n2, n3, Option.bind_some]
  have ht : spec_DrawAreThings.f k x = some l := by
    unfold spec_DrawAreThings.f
    simp only [n1, n4, Option.bind_some]
  obtain ⟨r, r1, r2⟩ := are_ok k l hl (by omega)
  obtain ⟨r', r1', r2'⟩ := are_ok k (l.drop 1) (by simp; omega) (by simp; omega)
  simp only [laws_FnThings.l0]
  rw [if_neg (by omega)]
  simp only [hs, ht, iSame, iIsThing, r1, Option.bind_some]
  have q1 : (sameKind a b c d e a' b' c' d' e' == sameKind a' b' c' d' e' a b c d e) = true := by
    unfold sameKind
    rw [show (b == b') = (b' == b) by rw [Bool.eq_iff_iff, beq_iff_eq, beq_iff_eq]; exact ⟨Eq.symm, Eq.symm⟩]
    cases okThing a b c d e <;> cases okThing a' b' c' d' e' <;> simp
  have q2 : (sameKind a b c d e a b c d e == okThing a b c d e) = true := by
    unfold sameKind
    cases okThing a b c d e <;> simp
  rw [if_pos q1, if_pos q2]
  by_cases hr : r = true
  · rw [if_pos hr]
    by_cases h0 : (l.length : Int) = 0
    · rw [if_pos h0]
    · rw [if_neg h0, if_pos (by omega), r1', Option.bind_some]
      rw [r2'.2 (fine_drop l (r2.1 hr))]
  · rw [if_neg hr]
theorem iFormat (k : Nat) (n : Int) (h0 : -9223372036854775808 ≤ n) (h1 : n ≤ 9223372036854775807) : impl_FormatInt.f k n = some ⟨(Go.Lib.itoa n).toArray⟩ := by
  unfold impl_FormatInt.f
  rw [if_pos ⟨h0, h1⟩]
theorem digits_len : ∀ (f x : Nat), x < 10 ^ f → (Go.Lib.decDigits x).length ≤ f + 1 := by
  intro f
  induction f with
  | zero =>
    intro x h
    rw [Dec.decDigits_small (by simp at h; omega)]
    simp
  | succ f ih =>
    intro x h
    by_cases h1 : x < 10
    · rw [Dec.decDigits_small h1]
      simp
    · rw [Dec.decDigits_big h1, List.length_append]
      have := ih (x / 10) (by rw [Nat.pow_succ] at h; omega)
      simp
      omega
theorem itoa_len (n : Int) (h0 : 0 ≤ n) (h1 : n ≤ 999) : (⟨(Go.Lib.itoa n).toArray⟩ : ByteArray).size ≤ 20 := by
  rw [Dec.mk_size]
  unfold Go.Lib.itoa
  rw [if_neg (by omega)]
  have := digits_len 3 n.toNat (by omega)
  omega
theorem size_list (s : ByteArray) : s.toList.length = s.size := by rw [Go.Lib.toList_data]; rfl
theorem text_ok (k : Nat) (a b c d e : Int) : ∃ s, impl_ThingText.f k a b c d e = some s ∧ (s.toList != ([] : List UInt8)) = okThing a b c d e := by
  by_cases h : okThing a b c d e = true
  · have h' := h
    unfold okThing at h'
    simp only [Bool.and_eq_true, inr_iff] at h'
    obtain ⟨⟨⟨⟨⟨a0, a1⟩, b0⟩, c0⟩, d0, d1⟩, _⟩ := h'
    obtain ⟨s1, e1, q1⟩ := kind_at b ((inr_iff _ _ _).2 b0)
    obtain ⟨s2, e2, q2⟩ := colour_at c ((inr_iff _ _ _).2 c0)
    have l1 := itoa_len a (by omega) (by omega)
    have l2 := itoa_len d (by omega) (by omega)
    have g1 := iFormat k a (by omega) (by omega)
    have g2 := iFormat k d (by omega) (by omega)
    generalize (⟨(Go.Lib.itoa a).toArray⟩ : ByteArray) = x at g1 l1
    generalize (⟨(Go.Lib.itoa d).toArray⟩ : ByteArray) = y at g2 l2
    have h32 : (⟨#[32]⟩ : ByteArray).size = 1 := rfl
    refine ⟨x ++ (⟨#[32]⟩ : ByteArray) ++ s2 ++ (⟨#[32]⟩ : ByteArray) ++ s1 ++ (⟨#[32]⟩ : ByteArray) ++ y, ?_, ?_⟩
    · unfold impl_ThingText.f
      simp only [iIsThing, h, g1, g2, e1, e2, Option.bind_some, if_true]
      iterate 6 rw [if_pos (by first | omega | (simp only [ByteArray.size_append, h32]; omega))]
    · rw [h, bne_iff_ne]
      intro hh
      have hz := congrArg List.length hh
      rw [size_list] at hz
      simp only [ByteArray.size_append, h32, List.length_nil] at hz
      omega
  · refine ⟨⟨#[]⟩, ?_, ?_⟩
    · unfold impl_ThingText.f
      simp only [iIsThing, h, Option.bind_some, Bool.false_eq_true, if_false]
    · rw [Go.Lib.toList_data]
      simp only [Bool.not_eq_true] at h
      rw [h]
      rfl
theorem main : laws_FnThings.Pure := by
  intro l _ _
  by_cases h1 : (l.length : Int) > 1048576
  · refine ⟨1, ?_⟩
    unfold laws_FnThings.f laws_big.f
    rw [Option.bind_some, if_pos (by simp; omega)]
  obtain ⟨m, e⟩ := outer_ok l (l.length + 60) 8 1 (by omega) (by omega)
  refine ⟨l.length + 60 + m, ?_⟩
  unfold laws_FnThings.f laws_big.f
  rw [Option.bind_some, if_neg (by simp; omega)]
  obtain ⟨h, n1⟩ := new_ok (l.length + 60 + m) l (by omega) (by omega)
  obtain ⟨a, b, c, d, f, i2, h2, n2, o2⟩ := any_ok l 0 h (okc_start l (by omega))
  have hd : spec_DrawIsThing.f (l.length + 60 + m) l = some (a, b, c, d, f) := by
    unfold spec_DrawIsThing.f
    simp only [n1, n2, Option.bind_some]
  obtain ⟨s, s1, s2⟩ := text_ok (l.length + 60 + m) a b c d f
  simp only [hd, iIsThing, s1, s2, Option.bind_some]
  rw [bne_self_eq_false, if_neg (by simp)]
  rw [show (1 : Int) = ((1 : Nat) : Int) from rfl, e]
  exact end_ok _ l (by omega) (by omega)

end Go.Proofs.YtoocbgjcigadfadDoor.PureFnThings
namespace Go.Proofs.YtoocbgjcigadfadDoor.Pure
/-- The pure statement. -/
theorem FnThings : Go.Proofs.YtoocbgjcigadfadDoor.PureFnThings.laws_FnThings.Pure := Go.Proofs.YtoocbgjcigadfadDoor.PureFnThings.main
end Go.Proofs.YtoocbgjcigadfadDoor.Pure

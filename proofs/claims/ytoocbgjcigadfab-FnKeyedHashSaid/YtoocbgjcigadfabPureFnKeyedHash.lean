/- The printed law FnKeyedHash, as a function of numbers and lists, answers true for all arguments that a call can be given; no conditions beyond the sizes that memory allows. -/
import Derived.Test.YtoocbgjcigadfabWkFnKeyedHashx3
namespace Go.Proofs.Ytoocbgjcigadfab.PureFnKeyedHash
open Go.RowKit Go.Proofs.Ytoocbgjcigadfab.PFnKeyedHash Go.Proofs.YtoocbgjcigadfabW.PrintWords Go.Proofs.YtoocbgjcigadfabW.PrintLast Go.Proofs.YtoocbgjcigadfabW.PrintMore
set_option linter.unusedVariables false
set_option linter.unusedSimpArgs false

/-- The pure statement of laws_FnKeyedHash, typed by lawfill.py as print.sh types it where it does. -/
def laws_FnKeyedHash.Pure : Prop := ∀ (l0 : List Int), l0.length ≤ maxLen → (∀ x ∈ l0, (Lit.int .u8 x).wf = true) → ∃ k, laws_FnKeyedHash.f k l0 = some true

def inr (a b c : Int) : Bool := decide (b ≤ a) && decide (a ≤ c)
theorem inr_iff (a b c : Int) : inr a b c = true ↔ b ≤ a ∧ a ≤ c := by unfold inr; simp
theorem inRange_eq (a b c : Int) : impl_InRange.f a b c = some (inr a b c) := by
  unfold impl_InRange.f inr
  by_cases h : b ≤ a <;> simp [h]
theorem rd_at (xs : List Int) (i : Nat) (h : i < xs.length) : rd xs (i : Int) = xs[i] := by
  unfold rd
  simp [List.getD_eq_getElem?_getD, h]
theorem succ_at (i n : Nat) (h : i < n) (hn : n ≤ 4611686018427387904) : wrap64 ((i : Int) + 1) = ((i + 1 : Nat) : Int) := by
  unfold wrap64
  omega
theorem wrap_id (n : Int) (h0 : -9223372036854775808 ≤ n) (h1 : n ≤ 9223372036854775807) : wrap64 n = n := by
  unfold wrap64
  omega
theorem u8_range {z : Int} (h : (Lit.int .u8 z).wf = true) : 0 ≤ z ∧ z ≤ 255 := by
  simp only [Lit.wf, Bool.and_eq_true, decide_eq_true_eq] at h
  have e1 : IntKind.u8.min = 0 := by decide
  have e2 : IntKind.u8.max = 255 := by decide
  omega
theorem i64_range {z : Int} (h : (Lit.int .i64 z).wf = true) : -9223372036854775808 ≤ z ∧ z ≤ 9223372036854775807 := by
  simp only [Lit.wf, Bool.and_eq_true, decide_eq_true_eq] at h
  have e1 : IntKind.i64.min = -9223372036854775808 := by decide
  have e2 : IntKind.i64.max = 9223372036854775807 := by decide
  omega
theorem tmod_range (a b : Int) (hb : 0 < b) : -b < Int.tmod a b ∧ Int.tmod a b < b := by
  rcases Int.le_total 0 a with h | h
  · have h1 := Int.tmod_nonneg b h
    have h2 := Int.tmod_lt_of_pos a hb
    omega
  · have h1 := Int.tmod_nonneg b (a := -a) (by omega)
    have h2 := Int.tmod_lt_of_pos (-a) hb
    rw [Int.neg_tmod] at h1 h2
    omega
def modOf (a b : Int) : Int := if inr b 1 1000000000000 = true then (if Int.tmod a b < 0 then Int.tmod a b + b else Int.tmod a b) else 0
theorem iMod (a b : Int) : impl_Mod.f a b = some (modOf a b) := by
  unfold impl_Mod.f modOf
  simp only [inRange_eq, Option.bind_some]
  by_cases h : inr b 1 1000000000000 = true
  · rw [if_pos h, if_pos h]
    rw [inr_iff] at h
    have hr := tmod_range a b (by omega)
    rw [if_neg (by omega)]
    by_cases n : Int.tmod a b < 0
    · rw [if_pos n, if_pos n]
      congr 1
      unfold wrap64
      omega
    · rw [if_neg n, if_neg n]
  · rw [if_neg h, if_neg h]
theorem l1In_eq (a b c : Int) : spec_l1In.f a b c = some (inr a b c) := by
  unfold spec_l1In.f inr
  by_cases h : b ≤ a <;> simp [h]
def step (d v : Int) : Int := Int.tmod (wrap64 ((wrap64 ((wrap64 (d * 1000003)) + modOf v 2147483647)) + 13)) 2147483647
def hashFrom (d : Int) (l : List Int) : Int := l.foldl step d
theorem fold_eq (d v : Int) : impl_fold.f d v = some (step d v) := by
  unfold impl_fold.f step
  rw [iMod]
  rfl
def keyed (s : Int) (l : List Int) : Int := step (hashFrom (step 11 s) l) s
theorem iKeyed_loop (s : Int) (l : List Int) (hl : l.length ≤ 4611686018427387904) : ∀ (d k i : Nat) (x : Int), i + d = l.length → d < k → impl_KeyedHash.l0 k s x l (l.length : Int) (i : Int) = some (step (hashFrom x (l.drop i)) s) := by
  intro d
  induction d with
  | zero =>
    intro k i x hi hk
    obtain ⟨k, rfl⟩ : ∃ m, k = m + 1 := ⟨k - 1, by omega⟩
    simp only [impl_KeyedHash.l0]
    rw [if_neg (by omega), List.drop_of_length_le (by omega), fold_eq, Option.bind_some]
    rfl
  | succ d ih =>
    intro k i x hi hk
    obtain ⟨k, rfl⟩ : ∃ m, k = m + 1 := ⟨k - 1, by omega⟩
    simp only [impl_KeyedHash.l0]
    rw [if_pos (by omega), if_pos (by omega), if_pos (by omega), fold_eq, Option.bind_some, succ_at i l.length (by omega) hl, rd_at l i (by omega), List.drop_eq_getElem_cons (by omega)]
    exact ih k (i + 1) _ (by omega) (by omega)
theorem iKeyed (k : Nat) (s : Int) (l : List Int) (hl : l.length ≤ 4611686018427387904) (hk : l.length < k) : impl_KeyedHash.f k s l = some (keyed s l) := by
  unfold impl_KeyedHash.f
  rw [fold_eq, Option.bind_some]
  exact iKeyed_loop s l hl l.length k 0 _ (by omega) (by omega)
theorem modOf_emod (a m : Int) (h : 1 ≤ m ∧ m ≤ 1000000000000) : modOf a m = a % m := by
  unfold modOf
  rw [if_pos (by rw [inr_iff]; exact h)]
  have hr := tmod_range a m (by omega)
  have he : a % m = Int.tmod a m % m := by
    have h2 := Int.mul_tdiv_add_tmod a m
    rw [← Int.mul_add_emod_self_left m (Int.tdiv a m) (Int.tmod a m), h2]
  rw [he]
  by_cases n : Int.tmod a m < 0
  · rw [if_pos n, ← Int.add_emod_right, Int.emod_eq_of_lt (by omega) (by omega)]
  · rw [if_neg n, Int.emod_eq_of_lt (by omega) (by omega)]
theorem step_eq (d v : Int) (h : 0 ≤ d ∧ d < 2147483647) : step d v = (d * 1000003 + v % 2147483647 + 13) % 2147483647 := by
  unfold step
  rw [modOf_emod v 2147483647 (by omega)]
  have : 0 ≤ v % 2147483647 ∧ v % 2147483647 < 2147483647 := ⟨by omega, by omega⟩
  rw [show wrap64 (d * 1000003) = d * 1000003 by unfold wrap64; omega, show wrap64 (d * 1000003 + v % 2147483647) = d * 1000003 + v % 2147483647 by unfold wrap64; omega, show wrap64 (d * 1000003 + v % 2147483647 + 13) = d * 1000003 + v % 2147483647 + 13 by unfold wrap64; omega, Int.tmod_eq_emod_of_nonneg (by omega)]
theorem step_range (d v : Int) (h : 0 ≤ d ∧ d < 2147483647) : 0 ≤ step d v ∧ step d v < 2147483647 := by
  rw [step_eq d v h]
  omega
theorem hashFrom_range (l : List Int) : ∀ d : Int, 0 ≤ d ∧ d < 2147483647 → 0 ≤ hashFrom d l ∧ hashFrom d l < 2147483647 := by
  induction l with
  | nil => intro d h; exact h
  | cons v l ih => intro d h; exact ih (step d v) (step_range d v h)
theorem keyed_range (s : Int) (l : List Int) : 0 ≤ keyed s l ∧ keyed s l < 2147483647 := step_range _ _ (hashFrom_range l _ (step_range 11 s (by omega)))
theorem wraps_i64 (n : Int) (h0 : 0 ≤ n) (h1 : n < 2 ^ 63) : IntKind.i64.wrap n = n := by
  rw [IntKind.wrap_i64]
  omega
theorem and127 (n : Int) (h0 : 0 ≤ n) (h1 : n < 2 ^ 63) : Go.bits .and .i64 n 127 = n % 128 :=
  bits_mask .i64 63 (by decide) wraps_i64 7 (by decide) n h0 h1
theorem and127b (n : Int) (h0 : 0 ≤ n) (h1 : n < 2 ^ 8) : Go.bits .and .u8 n 127 = n % 128 :=
  bits_mask .u8 8 (by decide) wraps_u8 7 (by decide) n h0 h1
def okc (b : List Int) (i : Int) : Prop := 0 ≤ i ∧ i ≤ (b.length : Int) ∧ b.length ≤ 1048576
theorem and255 (x : Int) : 0 ≤ Go.bits .and .i64 x 255 ∧ Go.bits .and .i64 x 255 ≤ 255 := by
  have e : Go.bits .and .i64 x 255 = IntKind.i64.wrap (((BitVec.ofInt 64 x &&& BitVec.ofInt 64 255).toNat : Nat) : Int) := rfl
  have h : (BitVec.ofInt 64 x &&& BitVec.ofInt 64 255).toNat ≤ 255 := by
    rw [BitVec.toNat_and]
    exact Nat.and_le_right
  rw [e, wraps_i64 _ (by omega) (by omega)]
  omega
theorem byte_ok (b : List Int) (i h : Int) (hi : okc b i) : ∃ r i' h', spec_l1Byte.f b i h = some (r, i', h') ∧ okc b i' ∧ 0 ≤ r ∧ r ≤ 255 := by
  unfold spec_l1Byte.f
  obtain ⟨h0, h1, h2⟩ := hi
  by_cases c : i < (b.length : Int)
  · rw [if_pos c, if_pos h0, wrap_id (i + 1) (by omega) (by omega)]
    exact ⟨_, _, _, rfl, ⟨by omega, by omega, h2⟩, and255 _⟩
  · rw [if_neg c]
    exact ⟨_, _, _, rfl, ⟨h0, h1, h2⟩, and255 _⟩
theorem below_ok (b : List Int) (i h n : Int) (hi : okc b i) : ∃ r i' h', spec_l1Below.f b i h n = some (r, i', h') ∧ okc b i' ∧ 0 ≤ r ∧ (0 < n → r < n) ∧ (n ≤ 0 → r = 0) := by
  unfold spec_l1Below.f
  by_cases c : n ≤ 0
  · rw [if_pos c]
    exact ⟨0, i, h, rfl, hi, by omega, by omega, fun _ => rfl⟩
  rw [if_neg c]
  by_cases c2 : n ≤ 256
  · obtain ⟨r, i', h', e, ho, hr⟩ := byte_ok b i h hi
    rw [if_pos c2, e, Option.bind_some, if_neg (by omega), Int.tmod_eq_emod_of_nonneg hr.1]
    exact ⟨_, _, _, rfl, ho, Int.emod_nonneg _ (by omega), fun hp => Int.emod_lt_of_pos _ hp, fun hn => by omega⟩
  · obtain ⟨r, i1, h1, e1, ho1, hr1⟩ := byte_ok b i h hi
    obtain ⟨r2, i2, h2, e2, ho2, hr2⟩ := byte_ok b i1 h1 ho1
    obtain ⟨r3, i3, h3, e3, ho3, hr3⟩ := byte_ok b i2 h2 ho2
    rw [if_neg c2, e1, Option.bind_some]
    simp only [e2, e3, Option.bind_some]
    rw [if_neg (by omega), wrap_id (r * 65536) (by omega) (by omega), wrap_id (r2 * 256) (by omega) (by omega), wrap_id (r * 65536 + r2 * 256) (by omega) (by omega), wrap_id (r * 65536 + r2 * 256 + r3) (by omega) (by omega), Int.tmod_eq_emod_of_nonneg (by omega)]
    exact ⟨_, _, _, rfl, ho3, Int.emod_nonneg _ (by omega), fun hp => Int.emod_lt_of_pos _ hp, fun hn => by omega⟩
theorem new_ok (k : Nat) (l : List Int) (hl : l.length ≤ 1048576) (hk : l.length < k) : ∃ h, spec_l1New.f k l = some (l, 0, h) := by
  have loop : ∀ (d k i : Nat) (h : Int), i + d = l.length → d < k → ∃ h', spec_l1New.l0 k l h (i : Int) = some (l, 0, h') := by
    intro d
    induction d with
    | zero =>
      intro k i h hi hk
      obtain ⟨k, rfl⟩ : ∃ m, k = m + 1 := ⟨k - 1, by omega⟩
      simp only [spec_l1New.l0]
      rw [if_neg (by omega)]
      exact ⟨h, rfl⟩
    | succ d ih =>
      intro k i h hi hk
      obtain ⟨k, rfl⟩ : ∃ m, k = m + 1 := ⟨k - 1, by omega⟩
      simp only [spec_l1New.l0]
      rw [if_pos (by omega)]
      by_cases c : (i : Int) < 4000
      · rw [if_pos c, if_pos (by omega), succ_at i l.length (by omega) (by omega)]
        exact ih k (i + 1) _ (by omega) (by omega)
      · rw [if_neg c]
        exact ⟨h, rfl⟩
  unfold spec_l1New.f
  exact loop l.length k 0 _ (by omega) hk
theorem okc_start (l : List Int) (hl : l.length ≤ 1048576) : okc l 0 := ⟨by omega, by omega, hl⟩
theorem once_ok (b : List Int) (i h n : Int) (hi : okc b i) : ∃ r i' h', spec_l1Once.f b i h n = some (r, i', h') ∧ okc b i' := by
  unfold spec_l1Once.f
  obtain ⟨r, i', h', e, ho, _⟩ := below_ok b i h n hi
  rw [e, Option.bind_some]
  exact ⟨_, _, _, rfl, ho⟩
theorem int_ok (b : List Int) (i h : Int) (l : List Int) (hi : okc b i) (hl : 0 < l.length) : ∃ r i' h', spec_l1Int.f b i h l = some (r, i', h') ∧ okc b i' ∧ r ∈ l := by
  unfold spec_l1Int.f
  obtain ⟨r, i', h', e, ho, h0, h1, _⟩ := below_ok b i h (l.length : Int) hi
  have h2 := h1 (by omega)
  rw [e, Option.bind_some, if_pos h0, if_pos h2]
  refine ⟨_, _, _, rfl, ho, ?_⟩
  obtain ⟨n, rfl⟩ := Int.eq_ofNat_of_zero_le h0
  rw [rd_at l n (by omega)]
  exact List.getElem_mem _
theorem sModM (a : Int) (h : -9223372036854775808 ≤ a ∧ a ≤ 9223372036854775807 - 2147483647) : spec_Mod.f a 2147483647 = some (a % 2147483647) := by
  unfold spec_Mod.f
  rw [l1In_eq, Option.bind_some, show inr 2147483647 1 1000000000000 = true by decide, if_pos rfl, if_neg (by decide)]
  have hr := tmod_range a 2147483647 (by omega)
  rw [wrap_id (Int.tmod a 2147483647 + 2147483647) (by omega) (by omega), Int.tmod_eq_emod_of_nonneg (by omega), Int.add_emod_right]
  congr 1
  have h2 := Int.mul_tdiv_add_tmod a 2147483647
  rw [← Int.mul_add_emod_self_left 2147483647 (Int.tdiv a 2147483647) (Int.tmod a 2147483647), h2]
theorem word_ok (b : List Int) (i h : Int) (hi : okc b i) : ∃ r i' h', spec_l3Word.f b i h = some (r, i', h') ∧ okc b i' ∧ -1 ≤ r ∧ r ≤ 2147483648 := by
  unfold spec_l3Word.f
  obtain ⟨r1, i1, h1, e1, o1⟩ := once_ok b i h 10 hi
  rw [e1, Option.bind_some]
  cases r1
  · obtain ⟨r2, i2, h2, e2, o2⟩ := once_ok b i1 h1 4 o1
    simp only [Bool.false_eq_true, if_false, e2, Option.bind_some]
    cases r2
    · obtain ⟨r3, i3, h3, e3, o3, a1, a2, _⟩ := below_ok b i2 h2 1000000 o2
      obtain ⟨r4, i4, h4, e4, o4, c1, c2, _⟩ := below_ok b i3 h3 2000 o3
      simp only [Bool.false_eq_true, if_false, e3, e4, Option.bind_some]
      have a3 := a2 (by omega)
      have c3 := c2 (by omega)
      have p1 : 0 ≤ r3 * r4 := Int.mul_nonneg a1 c1
      have p2 : r3 * r4 ≤ 1000000 * 2000 := Int.mul_le_mul (by omega) (by omega) c1 (by omega)
      rw [wrap_id _ (by omega) (by omega)]
      exact ⟨_, _, _, rfl, o4, by omega, by omega⟩
    · obtain ⟨r3, i3, h3, e3, o3, m⟩ := int_ok b i2 h2 [0, 1, 2147483646] o2 (by simp)
      simp only [if_true, e3, Option.bind_some]
      simp only [List.mem_cons, List.not_mem_nil, or_false] at m
      exact ⟨_, _, _, rfl, o3, by omega, by omega⟩
  · obtain ⟨r3, i3, h3, e3, o3, m⟩ := int_ok b i1 h1 [(-1), 2147483647, 2147483648] o1 (by simp)
    simp only [if_true, e3, Option.bind_some]
    simp only [List.mem_cons, List.not_mem_nil, or_false] at m
    exact ⟨_, _, _, rfl, o3, by omega, by omega⟩
theorem words_ok (k : Nat) (b : List Int) (i h : Int) (hi : okc b i) (hk : 6 ≤ k) : ∃ r i' h', spec_l3Words.f k b i h = some (r, i', h') ∧ okc b i' ∧ r.length ≤ 5 ∧ ∀ z ∈ r, -1 ≤ z ∧ z ≤ 2147483648 := by
  have loop : ∀ (d k : Nat) (acc : List Int) (i h : Int), d < k → okc b i → acc.length + d ≤ 5 → (∀ z ∈ acc, -1 ≤ z ∧ z ≤ 2147483648) → ∃ r i' h', spec_l3Words.l0 k acc (d : Int) b i h = some (r, i', h') ∧ okc b i' ∧ r.length ≤ 5 ∧ ∀ z ∈ r, -1 ≤ z ∧ z ≤ 2147483648 := by
    intro d
    induction d with
    | zero =>
      intro k acc i h hk ho ha hz
      obtain ⟨k, rfl⟩ : ∃ m, k = m + 1 := ⟨k - 1, by omega⟩
      simp only [spec_l3Words.l0]
      rw [if_neg (by omega)]
      exact ⟨_, _, _, rfl, ho, by omega, hz⟩
    | succ d ih =>
      intro k acc i h hk ho ha hz
      obtain ⟨k, rfl⟩ : ∃ m, k = m + 1 := ⟨k - 1, by omega⟩
      obtain ⟨r, i', h', e, o, q⟩ := word_ok b i h ho
      simp only [spec_l3Words.l0]
      rw [if_pos (by omega), e, Option.bind_some, if_pos (by omega), wrap_id _ (by omega) (by omega), show (((d + 1 : Nat) : Int) - 1) = (d : Int) by omega]
      refine ih k (acc ++ [r]) i' h' (by omega) o (by simp; omega) ?_
      intro z hm
      rcases List.mem_append.1 hm with hm | hm
      · exact hz z hm
      · rw [List.mem_singleton.1 hm]
        exact q
  unfold spec_l3Words.f
  obtain ⟨r, i', h', e, o, q1, q2, _⟩ := below_ok b i h 5 hi
  have q3 := q2 (by omega)
  rw [e, Option.bind_some]
  obtain ⟨n, rfl⟩ := Int.eq_ofNat_of_zero_le q1
  exact loop n k [] i' h' (by omega) o (by simp; omega) (by simp)
theorem str_ok (b : List Int) (i h : Int) (l : List ByteArray) (hi : okc b i) (hl : 0 < l.length) : ∃ r i' h', spec_l1Str.f b i h l = some (r, i', h') ∧ okc b i' ∧ r ∈ l := by
  unfold spec_l1Str.f
  obtain ⟨r, i', h', e, ho, h0, h1, _⟩ := below_ok b i h (l.length : Int) hi
  have h2 := h1 (by omega)
  rw [e, Option.bind_some, if_pos h0, if_pos h2]
  refine ⟨_, _, _, rfl, ho, ?_⟩
  obtain ⟨n, rfl⟩ := Int.eq_ofNat_of_zero_le h0
  have hn : n < l.length := by omega
  unfold rdOf
  rw [show (((n : Nat) : Int)).toNat = n by omega, List.getD_eq_getElem?_getD, List.getElem?_eq_getElem hn]
  exact List.getElem_mem hn
theorem iHash_loop (l : List Int) (hl : l.length ≤ 4611686018427387904) : ∀ (d k i : Nat) (x : Int), i + d = l.length → d < k → impl_Hash.l0 k x l (l.length : Int) (i : Int) = some (hashFrom x (l.drop i)) := by
  intro d
  induction d with
  | zero =>
    intro k i x hi hk
    obtain ⟨k, rfl⟩ : ∃ m, k = m + 1 := ⟨k - 1, by omega⟩
    simp only [impl_Hash.l0]
    rw [if_neg (by omega), List.drop_of_length_le (by omega)]
    rfl
  | succ d ih =>
    intro k i x hi hk
    obtain ⟨k, rfl⟩ : ∃ m, k = m + 1 := ⟨k - 1, by omega⟩
    simp only [impl_Hash.l0]
    rw [if_pos (by omega), if_pos (by omega), if_pos (by omega), fold_eq, Option.bind_some, succ_at i l.length (by omega) hl, rd_at l i (by omega), List.drop_eq_getElem_cons (by omega)]
    exact ih k (i + 1) _ (by omega) (by omega)
theorem iHash (k : Nat) (l : List Int) (hl : l.length ≤ 4611686018427387904) (hk : l.length < k) : impl_Hash.f k l = some (hashFrom 11 l) := by
  unfold impl_Hash.f
  exact iHash_loop l hl l.length k 0 _ (by omega) (by omega)
theorem hash_around (s : Int) (l : List Int) : hashFrom 11 ([s] ++ l ++ [s]) = keyed s l := by
  unfold hashFrom keyed hashFrom
  rw [List.foldl_append, List.foldl_append]
  rfl
theorem inverse (x t : Int) (h : x * 1000003 = 2147483647 * t) : x = 2147483647 * (1523789695 * t - 709572 * x) := by
  rw [Int.mul_sub, Int.mul_left_comm, ← h, ← Int.mul_assoc 2147483647, Int.mul_left_comm, Int.mul_comm (2147483647 * 709572) x, ← Int.mul_sub]
  exact (Int.mul_one x).symm
theorem step_inj (d e v : Int) (h : 0 ≤ d ∧ d < 2147483647) (g : 0 ≤ e ∧ e < 2147483647) (q : step d v = step e v) : d = e := by
  rw [step_eq d v h, step_eq e v g] at q
  generalize v % 2147483647 = c at q
  obtain ⟨t, ht⟩ : ∃ t, (d - e) * 1000003 = 2147483647 * t := ⟨(d * 1000003 + c + 13) / 2147483647 - (e * 1000003 + c + 13) / 2147483647, by omega⟩
  clear q
  have h2 := inverse (d - e) t ht
  generalize 1523789695 * t - 709572 * (d - e) = z at h2
  clear ht
  omega
theorem step_inj2 (d v u : Int) (h : 0 ≤ d ∧ d < 2147483647) (q : step d v = step d u) : v % 2147483647 = u % 2147483647 := by
  rw [step_eq d v h, step_eq d u h] at q
  have h1 : 0 ≤ v % 2147483647 ∧ v % 2147483647 < 2147483647 := ⟨by omega, by omega⟩
  have h2 : 0 ≤ u % 2147483647 ∧ u % 2147483647 < 2147483647 := ⟨by omega, by omega⟩
  generalize v % 2147483647 = c at q h1 ⊢
  generalize u % 2147483647 = e at q h2 ⊢
  omega
theorem hash_inj (l : List Int) : ∀ d e : Int, 0 ≤ d ∧ d < 2147483647 → 0 ≤ e ∧ e < 2147483647 → hashFrom d l = hashFrom e l → d = e := by
  induction l with
  | nil => intro d e _ _ h; exact h
  | cons v l ih => intro d e hd he h; exact step_inj d e v hd he (ih (step d v) (step e v) (step_range d v hd) (step_range e v he) h)
theorem hash_set (l : List Int) : ∀ (d : Int) (i : Nat) (u : Int) (hi : i < l.length), 0 ≤ d ∧ d < 2147483647 → hashFrom d l = hashFrom d (l.set i u) → (l[i]) % 2147483647 = u % 2147483647 := by
  induction l with
  | nil => intro d i u hi; simp at hi
  | cons v l ih =>
    intro d i u hi hd h
    cases i with
    | zero => exact step_inj2 d v u hd (hash_inj l _ _ (step_range d v hd) (step_range d u hd) h)
    | succ i => exact ih (step d v) i u (by simpa using hi) (step_range d v hd) h
theorem keyed_set (s : Int) (l : List Int) (i : Nat) (u : Int) (hi : i < l.length) (h : keyed s (l.set i u) = keyed s l) : (l[i]) % 2147483647 = u % 2147483647 := by
  have r0 := step_range 11 s (by omega)
  exact hash_set l _ i u hi r0 (step_inj _ _ s (hashFrom_range _ _ r0) (hashFrom_range _ _ r0) h).symm
theorem at_ok (l : List Int) (a : Int) (ha : 0 ≤ a ∧ a ≤ 1) (hw : ∀ x ∈ l, (Lit.int .u8 x).wf = true) : ∃ t, laws_at.f l a = some t ∧ 0 ≤ t ∧ t ≤ 255 := by
  unfold laws_at.f
  obtain ⟨n, rfl⟩ := Int.eq_ofNat_of_zero_le ha.1
  by_cases h : (n : Int) < (l.length : Int)
  · rw [if_pos h, if_pos ha.1, rd_at l n (by omega)]
    have hz := u8_range (hw _ (List.getElem_mem (show n < l.length by omega)))
    rw [wrap_id _ (by omega) (by omega)]
    exact ⟨_, rfl, hz⟩
  · rw [if_neg h]
    rw [wrap_id ((n : Int) * 31) (by omega) (by omega), wrap_id ((l.length : Int) * 7) (by omega) (by omega), wrap_id ((n : Int) * 31 + (l.length : Int) * 7) (by omega) (by omega), Int.tmod_eq_emod_of_nonneg (by omega)]
    exact ⟨_, rfl, by omega, by omega⟩
theorem bytes_loop (l : List Int) (hl : l.length ≤ 1048576) : ∀ (d k i : Nat) (acc : List Int), i + d = l.length → d < k → acc.length + d ≤ 2097152 → ∃ r, impl_BytesToInts.l0 k acc l (l.length : Int) (i : Int) = some r ∧ r.length = acc.length + d := by
  intro d
  induction d with
  | zero =>
    intro k i acc hi hk ha
    obtain ⟨k, rfl⟩ : ∃ m, k = m + 1 := ⟨k - 1, by omega⟩
    have h1 : ¬ (i : Int) < (l.length : Int) := by omega
    simp only [impl_BytesToInts.l0, if_neg h1]
    exact ⟨acc, rfl, rfl⟩
  | succ d ih =>
    intro k i acc hi hk ha
    obtain ⟨k, rfl⟩ : ∃ m, k = m + 1 := ⟨k - 1, by omega⟩
    have h1 : (i : Int) < (l.length : Int) := by omega
    have h2 : (0 : Int) ≤ (i : Int) := by omega
    have h3 : acc.length < 17592186044416 := by omega
    simp only [impl_BytesToInts.l0, if_pos h1, if_pos h2, if_pos h3, succ_at i l.length (by omega) (by omega)]
    obtain ⟨r, e2, e3⟩ := ih k (i + 1) (acc ++ [wrap64 (rd l (i : Int))]) (by omega) (by omega) (by simp; omega)
    exact ⟨r, e2, by simp at e3; omega⟩
theorem derive_ok (k : Nat) (a : Int) (s : ByteArray) (hs : s.size ≤ 100) (hk : 110 ≤ k) : ∃ n, impl_DeriveFromString.f k a s = some n ∧ 1 ≤ n ∧ n ≤ 2147483646 := by
  have hl := numsOf_length s
  obtain ⟨l, e2, e3⟩ := bytes_loop (numsOf s) (by omega) (numsOf s).length k 0 [((numsOf s).length : Int)] (by omega) (by omega) (by simp; omega)
  have e2' : impl_BytesToInts.f k (numsOf s) = some l := e2
  have e4 : l.length = s.size + 1 := by simp at e3; omega
  have hr := keyed_range a l
  unfold impl_DeriveFromString.f
  rw [if_pos (by omega), e2', Option.bind_some, iKeyed _ a l (by omega) (by omega), Option.bind_some]
  refine ⟨_, rfl, ?_⟩
  by_cases h : keyed a l = 0
  · rw [if_pos h]
    omega
  · rw [if_neg h]
    omega
theorem last_ok (k : Nat) (l : List Int) (hl : l.length ≤ 1048576) (hk : l.length + 110 ≤ k) : ((spec_DrawDeriveFromString.f k l).bind fun bt242 => ((impl_DeriveFromString.f k bt242.1 bt242.2).bind fun t244 => ((impl_IsValidKey.f t244).bind fun t245 => (some t245)))) = some true := by
  unfold spec_DrawDeriveFromString.f
  obtain ⟨h, n1⟩ := new_ok k l (by omega) (by omega)
  obtain ⟨s, i2, h2, n2, o2, _⟩ := word_ok l 0 h (okc_start l (by omega))
  obtain ⟨t, i3, h3, n3, o3, m3⟩ := str_ok l i2 h2 [(⟨#[]⟩ : ByteArray), (⟨#[97]⟩ : ByteArray), (⟨#[98]⟩ : ByteArray), (⟨#[97, 98]⟩ : ByteArray), (⟨#[110, 101, 119, 115]⟩ : ByteArray), (⟨#[120]⟩ : ByteArray)] o2 (by simp)
  have ht : t.size ≤ 100 := by
    simp only [List.mem_cons, List.not_mem_nil, or_false] at m3
    rcases m3 with rfl | rfl | rfl | rfl | rfl | rfl <;> decide
  obtain ⟨n, e1, e2, e3⟩ := derive_ok k s t ht (by omega)
  have e4 : impl_IsValidKey.f n = some true := by
    unfold impl_IsValidKey.f
    rw [inRange_eq, Option.bind_some]
    congr 1
    rw [inr_iff]
    omega
  simp only [n1, n2, n3, e1, e4, Option.bind_some]
theorem set_nat (l : List Int) (i : Nat) (u : Int) : l.set ((i : Int) : Int).toNat u = l.set i u := by rw [Int.toNat_natCast]
theorem j0_ok (k : Nat) (l : List Int) (s : Int) (m : List Int) (hl : l.length ≤ 1048576) (hw : ∀ x ∈ l, (Lit.int .u8 x).wf = true) (hm : m.length ≤ 5) (hz : ∀ z ∈ m, -1 ≤ z ∧ z ≤ 2147483648) (hk : l.length + 111 ≤ k) : laws_FnKeyedHash.j0 k l s m (keyed s m) false = some true := by
  obtain ⟨k, rfl⟩ : ∃ q, k = q + 1 := ⟨k - 1, by omega⟩
  have hlast := last_ok k l hl (by omega)
  simp only [laws_FnKeyedHash.j0]
  rw [if_neg (by simp)]
  by_cases h : (m.length : Int) > 0
  · rw [if_pos h, Option.bind_some, if_pos (by simp; omega), Option.bind_some]
    obtain ⟨t0, a0, a1, a2⟩ := at_ok l 0 (by omega) hw
    obtain ⟨t1, b0, b1, b2⟩ := at_ok l 1 (by omega) hw
    rw [List.nil_append, a0, Option.bind_some, if_neg (by omega), Int.tmod_eq_emod_of_nonneg a1]
    have c1 : 0 ≤ t0 % (m.length : Int) := Int.emod_nonneg _ (by omega)
    have c2 : t0 % (m.length : Int) < (m.length : Int) := Int.emod_lt_of_pos _ (by omega)
    rw [if_pos c1, if_pos c2, b0, Option.bind_some]
    generalize t0 % (m.length : Int) = i at c1 c2 ⊢
    obtain ⟨i, rfl⟩ := Int.eq_ofNat_of_zero_le c1
    have hi : i < m.length := by omega
    have hq := hz _ (List.getElem_mem hi)
    rw [rd_at m i hi, wrap_id (m[i] + 1) (by omega) (by omega), wrap_id (m[i] + 1 + t1) (by omega) (by omega), sModM _ (by omega), Option.bind_some, set_nat, iKeyed _ s _ (by simp; omega) (by simp; omega), Option.bind_some]
    rw [if_neg, hlast]
    intro hh
    have := keyed_set s m i _ hi hh
    omega
  · rw [if_neg h]
    exact hlast
theorem main : laws_FnKeyedHash.Pure := by
  intro l _ hw
  obtain ⟨K, hK⟩ : ∃ K, K = l.length + 200 := ⟨_, rfl⟩
  refine ⟨K, ?_⟩
  unfold laws_FnKeyedHash.f laws_big.f
  rw [Option.bind_some]
  by_cases h1 : (l.length : Int) > 1048576
  · rw [if_pos (by simp; omega)]
  rw [if_neg (by simp; omega)]
  obtain ⟨h, n1⟩ := new_ok K l (by omega) (by omega)
  obtain ⟨s, i2, h2, n2, o2, _⟩ := word_ok l 0 h (okc_start l (by omega))
  obtain ⟨m, i3, h3, n3, o3, q1, q2⟩ := words_ok K l i2 h2 o2 (by omega)
  have hd : spec_DrawKeyedHash.f K l = some (s, m) := by
    unfold spec_DrawKeyedHash.f
    simp only [n1, n2, n3, Option.bind_some]
  have hr := keyed_range s m
  rw [hd, Option.bind_some, iKeyed K s m (by omega) (by omega), Option.bind_some, if_neg (by omega), if_neg (by omega), Option.bind_some, if_pos (by simp; omega), Option.bind_some, if_pos (by simp; omega), iHash K _ (by simp; omega) (by simp; omega), Option.bind_some, hash_around, bne_self_eq_false]
  exact j0_ok K l s m (by omega) hw q1 q2 (by omega)

end Go.Proofs.Ytoocbgjcigadfab.PureFnKeyedHash
namespace Go.Proofs.Ytoocbgjcigadfab.Pure
/-- The pure statement. -/
theorem FnKeyedHash : Go.Proofs.Ytoocbgjcigadfab.PureFnKeyedHash.laws_FnKeyedHash.Pure := Go.Proofs.Ytoocbgjcigadfab.PureFnKeyedHash.main
end Go.Proofs.Ytoocbgjcigadfab.Pure

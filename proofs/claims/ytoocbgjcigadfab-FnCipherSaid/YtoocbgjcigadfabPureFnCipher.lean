/- The printed law FnCipher, as a function of numbers and lists, answers true for all arguments that a call can be given; no conditions beyond the sizes that memory allows. -/
import Derived.Test.YtoocbgjcigadfabWkFnCipherx2
namespace Go.Proofs.Ytoocbgjcigadfab.PureFnCipher
open Go.RowKit Go.Proofs.Ytoocbgjcigadfab.PFnCipher Go.Proofs.YtoocbgjcigadfabW.PrintWords Go.Proofs.YtoocbgjcigadfabW.PrintLast Go.Proofs.YtoocbgjcigadfabW.PrintMore
set_option linter.unusedVariables false
set_option linter.unusedSimpArgs false

/-- The pure statement of laws_FnCipher, typed by lawfill.py as print.sh types it where it does. -/
def laws_FnCipher.Pure : Prop := ∀ (l0 : List Int), l0.length ≤ maxLen → (∀ x ∈ l0, (Lit.int .u8 x).wf = true) → ∃ k, laws_FnCipher.f k l0 = some true

def inr (a b c : Int) : Bool := decide (b ≤ a) && decide (a ≤ c)
theorem inr_iff (a b c : Int) : inr a b c = true ↔ b ≤ a ∧ a ≤ c := by unfold inr; simp
theorem inRange_eq (a b c : Int) : impl_InRange.f a b c = some (inr a b c) := by
  unfold impl_InRange.f inr
  by_cases h : b ≤ a <;> simp [h]
theorem rd_at (xs : List Int) (i : Nat) (h : i < xs.length) : rd xs (i : Int) = xs[i] := by
  unfold rd
  simp [List.getD_eq_getElem?_getD, h]
theorem succ_at (i n : Nat) (h : i < n) (hn : n ≤ 4611686018427387904) : wrap64 ((i : Int) + 1) = ((i + 1 : Nat) : Int) := by
  unfold wrap64
  omega
theorem wrap_id (n : Int) (h0 : -9223372036854775808 ≤ n) (h1 : n ≤ 9223372036854775807) : wrap64 n = n := by
  unfold wrap64
  omega
theorem u8_range {z : Int} (h : (Lit.int .u8 z).wf = true) : 0 ≤ z ∧ z ≤ 255 := by
  simp only [Lit.wf, Bool.and_eq_true, decide_eq_true_eq] at h
  have e1 : IntKind.u8.min = 0 := by decide
  have e2 : IntKind.u8.max = 255 := by decide
  omega
theorem i64_range {z : Int} (h : (Lit.int .i64 z).wf = true) : -9223372036854775808 ≤ z ∧ z ≤ 9223372036854775807 := by
  simp only [Lit.wf, Bool.and_eq_true, decide_eq_true_eq] at h
  have e1 : IntKind.i64.min = -9223372036854775808 := by decide
  have e2 : IntKind.i64.max = 9223372036854775807 := by decide
  omega
theorem tmod_range (a b : Int) (hb : 0 < b) : -b < Int.tmod a b ∧ Int.tmod a b < b := by
  rcases Int.le_total 0 a with h | h
  · have h1 := Int.tmod_nonneg b h
    have h2 := Int.tmod_lt_of_pos a hb
    omega
  · have h1 := Int.tmod_nonneg b (a := -a) (by omega)
    have h2 := Int.tmod_lt_of_pos (-a) hb
    rw [Int.neg_tmod] at h1 h2
    omega
def modOf (a b : Int) : Int := if inr b 1 1000000000000 = true then (if Int.tmod a b < 0 then Int.tmod a b + b else Int.tmod a b) else 0
theorem iMod (a b : Int) : impl_Mod.f a b = some (modOf a b) := by
  unfold impl_Mod.f modOf
  simp only [inRange_eq, Option.bind_some]
  by_cases h : inr b 1 1000000000000 = true
  · rw [if_pos h, if_pos h]
    rw [inr_iff] at h
    have hr := tmod_range a b (by omega)
    rw [if_neg (by omega)]
    by_cases n : Int.tmod a b < 0
    · rw [if_pos n, if_pos n]
      congr 1
      unfold wrap64
      omega
    · rw [if_neg n, if_neg n]
  · rw [if_neg h, if_neg h]
def step (d v : Int) : Int := Int.tmod (wrap64 ((wrap64 ((wrap64 (d * 1000003)) + modOf v 2147483647)) + 13)) 2147483647
def hashFrom (d : Int) (l : List Int) : Int := l.foldl step d
theorem fold_eq (d v : Int) : impl_fold.f d v = some (step d v) := by
  unfold impl_fold.f step
  rw [iMod]
  rfl
def keyed (s : Int) (l : List Int) : Int := step (hashFrom (step 11 s) l) s
theorem iKeyed_loop (s : Int) (l : List Int) (hl : l.length ≤ 4611686018427387904) : ∀ (d k i : Nat) (x : Int), i + d = l.length → d < k → impl_KeyedHash.l0 k s x l (l.length : Int) (i : Int) = some (step (hashFrom x (l.drop i)) s) := by
  intro d
  induction d with
  | zero =>
    intro k i x hi hk
    obtain ⟨k, rfl⟩ : ∃ m, k = m + 1 := ⟨k - 1, by omega⟩
    simp only [impl_KeyedHash.l0]
    rw [if_neg (by omega), List.drop_of_length_le (by omega), fold_eq, Option.bind_some]
    rfl
  | succ d ih =>
    intro k i x hi hk
    obtain ⟨k, rfl⟩ : ∃ m, k = m + 1 := ⟨k - 1, by omega⟩
    simp only [impl_KeyedHash.l0]
    rw [if_pos (by omega), if_pos (by omega), if_pos (by omega), fold_eq, Option.bind_some, succ_at i l.length (by omega) hl, rd_at l i (by omega), List.drop_eq_getElem_cons (by omega)]
    exact ih k (i + 1) _ (by omega) (by omega)
theorem iKeyed (k : Nat) (s : Int) (l : List Int) (hl : l.length ≤ 4611686018427387904) (hk : l.length < k) : impl_KeyedHash.f k s l = some (keyed s l) := by
  unfold impl_KeyedHash.f
  rw [fold_eq, Option.bind_some]
  exact iKeyed_loop s l hl l.length k 0 _ (by omega) (by omega)
theorem modOf_emod (a m : Int) (h : 1 ≤ m ∧ m ≤ 1000000000000) : modOf a m = a % m := by
  unfold modOf
  rw [if_pos (by rw [inr_iff]; exact h)]
  have hr := tmod_range a m (by omega)
  have he : a % m = Int.tmod a m % m := by
    have h2 := Int.mul_tdiv_add_tmod a m
    rw [← Int.mul_add_emod_self_left m (Int.tdiv a m) (Int.tmod a m), h2]
  rw [he]
  by_cases n : Int.tmod a m < 0
  · rw [if_pos n, ← Int.add_emod_right, Int.emod_eq_of_lt (by omega) (by omega)]
  · rw [if_neg n, Int.emod_eq_of_lt (by omega) (by omega)]
theorem step_eq (d v : Int) (h : 0 ≤ d ∧ d < 2147483647) : step d v = (d * 1000003 + v % 2147483647 + 13) % 2147483647 := by
  unfold step
  rw [modOf_emod v 2147483647 (by omega)]
  have : 0 ≤ v % 2147483647 ∧ v % 2147483647 < 2147483647 := ⟨by omega, by omega⟩
  rw [show wrap64 (d * 1000003) = d * 1000003 by unfold wrap64; omega, show wrap64 (d * 1000003 + v % 2147483647) = d * 1000003 + v % 2147483647 by unfold wrap64; omega, show wrap64 (d * 1000003 + v % 2147483647 + 13) = d * 1000003 + v % 2147483647 + 13 by unfold wrap64; omega, Int.tmod_eq_emod_of_nonneg (by omega)]
theorem step_range (d v : Int) (h : 0 ≤ d ∧ d < 2147483647) : 0 ≤ step d v ∧ step d v < 2147483647 := by
  rw [step_eq d v h]
  omega
theorem hashFrom_range (l : List Int) : ∀ d : Int, 0 ≤ d ∧ d < 2147483647 → 0 ≤ hashFrom d l ∧ hashFrom d l < 2147483647 := by
  induction l with
  | nil => intro d h; exact h
  | cons v l ih => intro d h; exact ih (step d v) (step_range d v h)
theorem keyed_range (s : Int) (l : List Int) : 0 ≤ keyed s l ∧ keyed s l < 2147483647 := step_range _ _ (hashFrom_range l _ (step_range 11 s (by omega)))
theorem wraps_i64 (n : Int) (h0 : 0 ≤ n) (h1 : n < 2 ^ 63) : IntKind.i64.wrap n = n := by
  rw [IntKind.wrap_i64]
  omega
theorem and127 (n : Int) (h0 : 0 ≤ n) (h1 : n < 2 ^ 63) : Go.bits .and .i64 n 127 = n % 128 :=
  bits_mask .i64 63 (by decide) wraps_i64 7 (by decide) n h0 h1
theorem and127b (n : Int) (h0 : 0 ≤ n) (h1 : n < 2 ^ 8) : Go.bits .and .u8 n 127 = n % 128 :=
  bits_mask .u8 8 (by decide) wraps_u8 7 (by decide) n h0 h1
def okc (b : List Int) (i : Int) : Prop := 0 ≤ i ∧ i ≤ (b.length : Int) ∧ b.length ≤ 1048576
theorem and255 (x : Int) : 0 ≤ Go.bits .and .i64 x 255 ∧ Go.bits .and .i64 x 255 ≤ 255 := by
  have e : Go.bits .and .i64 x 255 = IntKind.i64.wrap (((BitVec.ofInt 64 x &&& BitVec.ofInt 64 255).toNat : Nat) : Int) := rfl
  have h : (BitVec.ofInt 64 x &&& BitVec.ofInt 64 255).toNat ≤ 255 := by
    rw [BitVec.toNat_and]
    exact Nat.and_le_right
  rw [e, wraps_i64 _ (by omega) (by omega)]
  omega
theorem byte_ok (b : List Int) (i h : Int) (hi : okc b i) : ∃ r i' h', spec_l1Byte.f b i h = some (r, i', h') ∧ okc b i' ∧ 0 ≤ r ∧ r ≤ 255 := by
  unfold spec_l1Byte.f
  obtain ⟨h0, h1, h2⟩ := hi
  by_cases c : i < (b.length : Int)
  · rw [if_pos c, if_pos h0, wrap_id (i + 1) (by omega) (by omega)]
    exact ⟨_, _, _, rfl, ⟨by omega, by omega, h2⟩, and255 _⟩
  · rw [if_neg c]
    exact ⟨_, _, _, rfl, ⟨h0, h1, h2⟩, and255 _⟩
theorem below_ok (b : List Int) (i h n : Int) (hi : okc b i) : ∃ r i' h', spec_l1Below.f b i h n = some (r, i', h') ∧ okc b i' ∧ 0 ≤ r ∧ (0 < n → r < n) ∧ (n ≤ 0 → r = 0) := by
  unfold spec_l1Below.f
  by_cases c : n ≤ 0
  · rw [if_pos c]
    exact ⟨0, i, h, rfl, hi, by omega, by omega, fun _ => rfl⟩
  rw [if_neg c]
  by_cases c2 : n ≤ 256
  · obtain ⟨r, i', h', e, ho, hr⟩ := byte_ok b i h hi
    rw [if_pos c2, e, Option.bind_some, if_neg (by omega), Int.tmod_eq_emod_of_nonneg hr.1]
    exact ⟨_, _, _, rfl, ho, Int.emod_nonneg _ (by omega), fun hp => Int.emod_lt_of_pos _ hp, fun hn => by omega⟩
  · obtain ⟨r, i1, h1, e1, ho1, hr1⟩ := byte_ok b i h hi
    obtain ⟨r2, i2, h2, e2, ho2, hr2⟩ := byte_ok b i1 h1 ho1
    obtain ⟨r3, i3, h3, e3, ho3, hr3⟩ := byte_ok b i2 h2 ho2
    rw [if_neg c2, e1, Option.bind_some]
    simp only [e2, e3, Option.bind_some]
    rw [if_neg (by omega), wrap_id (r * 65536) (by omega) (by omega), wrap_id (r2 * 256) (by omega) (by omega), wrap_id (r * 65536 + r2 * 256) (by omega) (by omega), wrap_id (r * 65536 + r2 * 256 + r3) (by omega) (by omega), Int.tmod_eq_emod_of_nonneg (by omega)]
    exact ⟨_, _, _, rfl, ho3, Int.emod_nonneg _ (by omega), fun hp => Int.emod_lt_of_pos _ hp, fun hn => by omega⟩
theorem new_ok (k : Nat) (l : List Int) (hl : l.length ≤ 1048576) (hk : l.length < k) : ∃ h, spec_l1New.f k l = some (l, 0, h) := by
  have loop : ∀ (d k i : Nat) (h : Int), i + d = l.length → d < k → ∃ h', spec_l1New.l0 k l h (i : Int) = some (l, 0, h') := by
    intro d
    induction d with
    | zero =>
      intro k i h hi hk
      obtain ⟨k, rfl⟩ : ∃ m, k = m + 1 := ⟨k - 1, by omega⟩
      simp only [spec_l1New.l0]
      rw [if_neg (by omega)]
      exact ⟨h, rfl⟩
    | succ d ih =>
      intro k i h hi hk
      obtain ⟨k, rfl⟩ : ∃ m, k = m + 1 := ⟨k - 1, by omega⟩
      simp only [spec_l1New.l0]
      rw [if_pos (by omega)]
      by_cases c : (i : Int) < 4000
      · rw [if_pos c, if_pos (by omega), succ_at i l.length (by omega) (by omega)]
        exact ih k (i + 1) _ (by omega) (by omega)
      · rw [if_neg c]
        exact ⟨h, rfl⟩
  unfold spec_l1New.f
  exact loop l.length k 0 _ (by omega) hk
theorem okc_start (l : List Int) (hl : l.length ≤ 1048576) : okc l 0 := ⟨by omega, by omega, hl⟩
theorem once_ok (b : List Int) (i h n : Int) (hi : okc b i) : ∃ r i' h', spec_l1Once.f b i h n = some (r, i', h') ∧ okc b i' := by
  unfold spec_l1Once.f
  obtain ⟨r, i', h', e, ho, _⟩ := below_ok b i h n hi
  rw [e, Option.bind_some]
  exact ⟨_, _, _, rfl, ho⟩
theorem int_ok (b : List Int) (i h : Int) (l : List Int) (hi : okc b i) (hl : 0 < l.length) : ∃ r i' h', spec_l1Int.f b i h l = some (r, i', h') ∧ okc b i' ∧ r ∈ l := by
  unfold spec_l1Int.f
  obtain ⟨r, i', h', e, ho, h0, h1, _⟩ := below_ok b i h (l.length : Int) hi
  have h2 := h1 (by omega)
  rw [e, Option.bind_some, if_pos h0, if_pos h2]
  refine ⟨_, _, _, rfl, ho, ?_⟩
  obtain ⟨n, rfl⟩ := Int.eq_ofNat_of_zero_le h0
  rw [rd_at l n (by omega)]
  exact List.getElem_mem _
theorem bytes_ok (k : Nat) (b : List Int) (i h n : Int) (hi : okc b i) (hn : 0 ≤ n ∧ n ≤ 1000) (hk : n < (k : Int)) : ∃ r i' h', spec_l1Bytes.f k b i h n = some (r, i', h') ∧ okc b i' ∧ (r.length : Int) = n ∧ ∀ z ∈ r, 0 ≤ z ∧ z ≤ 255 := by
  have loop : ∀ (d k j : Nat) (acc : List Int) (i h : Int), (j : Int) + d = n → d < k → okc b i → acc.length = j → (∀ z ∈ acc, 0 ≤ z ∧ z ≤ 255) → ∃ r i' h', spec_l1Bytes.l0 k n acc (j : Int) b i h = some (r, i', h') ∧ okc b i' ∧ (r.length : Int) = n ∧ ∀ z ∈ r, 0 ≤ z ∧ z ≤ 255 := by
    intro d
    induction d with
    | zero =>
      intro k j acc i h hj hk ho ha hz
      obtain ⟨k, rfl⟩ : ∃ m, k = m + 1 := ⟨k - 1, by omega⟩
      simp only [spec_l1Bytes.l0]
      rw [if_neg (by omega)]
      exact ⟨_, _, _, rfl, ho, by omega, hz⟩
    | succ d ih =>
      intro k j acc i h hj hk ho ha hz
      obtain ⟨k, rfl⟩ : ∃ m, k = m + 1 := ⟨k - 1, by omega⟩
      obtain ⟨r, i', h', e, ho', hr⟩ := byte_ok b i h ho
      simp only [spec_l1Bytes.l0]
      rw [if_pos (by omega), e, Option.bind_some, if_pos (by omega), succ_at j 1000 (by omega) (by omega)]
      refine ih k (j + 1) _ i' h' (by omega) (by omega) ho' (by simp [ha]) ?_
      intro z hz'
      rcases List.mem_append.1 hz' with hm | hm
      · exact hz z hm
      · simp only [List.mem_singleton] at hm
        omega
  unfold spec_l1Bytes.f
  exact loop n.toNat k 0 [] i h (by omega) (by omega) hi rfl (by simp)
theorem word_ok (b : List Int) (i h : Int) (hi : okc b i) : ∃ r i' h', spec_l3Word.f b i h = some (r, i', h') ∧ okc b i' := by
  unfold spec_l3Word.f
  obtain ⟨r1, i1, h1, e1, o1⟩ := once_ok b i h 10 hi
  rw [e1, Option.bind_some]
  cases r1
  · obtain ⟨r2, i2, h2, e2, o2⟩ := once_ok b i1 h1 4 o1
    simp only [Bool.false_eq_true, if_false, e2, Option.bind_some]
    cases r2
    · obtain ⟨r3, i3, h3, e3, o3, _⟩ := below_ok b i2 h2 1000000 o2
      obtain ⟨r4, i4, h4, e4, o4, _⟩ := below_ok b i3 h3 2000 o3
      simp only [Bool.false_eq_true, if_false, e3, e4, Option.bind_some]
      exact ⟨_, _, _, rfl, o4⟩
    · obtain ⟨r3, i3, h3, e3, o3, _⟩ := int_ok b i2 h2 [0, 1, 2147483646] o2 (by simp)
      simp only [if_true, e3, Option.bind_some]
      exact ⟨_, _, _, rfl, o3⟩
  · obtain ⟨r3, i3, h3, e3, o3, _⟩ := int_ok b i1 h1 [(-1), 2147483647, 2147483648] o1 (by simp)
    simp only [if_true, e3, Option.bind_some]
    exact ⟨_, _, _, rfl, o3⟩
theorem laws_sameBytes_loop (l : List Int) (hl : l.length ≤ 4611686018427387904) : ∀ (d k i : Nat), i + d = l.length → d < k → laws_sameBytes.l0 k l l (i : Int) = some true := by
  intro d
  induction d with
  | zero =>
    intro k i hi hk
    obtain ⟨k, rfl⟩ : ∃ m, k = m + 1 := ⟨k - 1, by omega⟩
    simp only [laws_sameBytes.l0]
    rw [if_neg (by omega)]
  | succ d ih =>
    intro k i hi hk
    obtain ⟨k, rfl⟩ : ∃ m, k = m + 1 := ⟨k - 1, by omega⟩
    simp only [laws_sameBytes.l0]
    rw [if_pos (by omega), if_pos (by omega), if_pos (by omega), if_pos trivial, succ_at i l.length (by omega) hl]
    exact ih k (i + 1) (by omega) (by omega)
theorem laws_sameBytes_self (k : Nat) (l : List Int) (hk : l.length < k) (hl : l.length ≤ 4611686018427387904) : laws_sameBytes.f k l l = some true := by
  unfold laws_sameBytes.f
  rw [if_pos rfl]
  exact laws_sameBytes_loop l hl l.length k 0 (by omega) (by omega)
theorem at_snoc (l acc : List Int) (i : Nat) (hi : i < l.length) (g : Nat → Int → Int) (ha : acc.length = i) (hj : ∀ j, j < i → acc[j]? = (l[j]?).map (g j)) : ∀ j, j < i + 1 → (acc ++ [g i l[i]])[j]? = (l[j]?).map (g j) := by
  intro j h
  by_cases e : j = i
  · subst e
    rw [List.getElem?_append_right (by omega), show j - acc.length = 0 by omega, List.getElem?_eq_getElem hi]
    rfl
  · rw [List.getElem?_append_left (by omega)]
    exact hj j (by omega)
def Encrypt_g (s : Int) (j : Nat) (x : Int) : Int := (x + keyed s [(j : Int)]) % 256
theorem Encrypt_loop (s : Int) (l : List Int) (hl : l.length ≤ 1048576) : ∀ (d k i : Nat) (acc : List Int), i + d = l.length → d + 4 < k → acc.length = i → (∀ j, j < i → acc[j]? = (l[j]?).map (Encrypt_g s j)) → ∃ r, impl_Encrypt.l0 k s acc l (l.length : Int) (i : Int) = some r ∧ r.length = l.length ∧ ∀ j, j < l.length → r[j]? = (l[j]?).map (Encrypt_g s j) := by
  intro d
  induction d with
  | zero =>
    intro k i acc hi hk ha hj
    obtain ⟨k, rfl⟩ : ∃ m, k = m + 1 := ⟨k - 1, by omega⟩
    simp only [impl_Encrypt.l0]
    rw [if_neg (by omega)]
    exact ⟨acc, rfl, by omega, fun j h => hj j (by omega)⟩
  | succ d ih =>
    intro k i acc hi hk ha hj
    obtain ⟨k, rfl⟩ : ∃ m, k = m + 1 := ⟨k - 1, by omega⟩
    have hil : i < l.length := by omega
    simp only [impl_Encrypt.l0]
    rw [if_pos (by omega), if_pos (by omega), if_pos (by omega), iKeyed k s [(i : Int)] (by simp) (by simp; omega), Option.bind_some, if_pos (by omega), succ_at i l.length (by omega) (by omega), rd_at l i hil]
    exact ih k (i + 1) _ (by omega) (by omega) (by simp [ha]) (at_snoc l acc i hil (Encrypt_g s) ha hj)
theorem Encrypt_at (k : Nat) (s : Int) (l : List Int) (hl : l.length ≤ 1048576) (hk : l.length + 4 < k) : ∃ r, impl_Encrypt.f k s l = some r ∧ r.length = l.length ∧ ∀ j, j < l.length → r[j]? = (l[j]?).map (Encrypt_g s j) :=
  Encrypt_loop s l hl l.length k 0 [] (by omega) hk rfl (by omega)
def Decrypt_g (s : Int) (j : Nat) (x : Int) : Int := (x - keyed s [(j : Int)]) % 256
theorem Decrypt_loop (s : Int) (l : List Int) (hl : l.length ≤ 1048576) : ∀ (d k i : Nat) (acc : List Int), i + d = l.length → d + 4 < k → acc.length = i → (∀ j, j < i → acc[j]? = (l[j]?).map (Decrypt_g s j)) → ∃ r, impl_Decrypt.l0 k s acc l (l.length : Int) (i : Int) = some r ∧ r.length = l.length ∧ ∀ j, j < l.length → r[j]? = (l[j]?).map (Decrypt_g s j) := by
  intro d
  induction d with
  | zero =>
    intro k i acc hi hk ha hj
    obtain ⟨k, rfl⟩ : ∃ m, k = m + 1 := ⟨k - 1, by omega⟩
    simp only [impl_Decrypt.l0]
    rw [if_neg (by omega)]
    exact ⟨acc, rfl, by omega, fun j h => hj j (by omega)⟩
  | succ d ih =>
    intro k i acc hi hk ha hj
    obtain ⟨k, rfl⟩ : ∃ m, k = m + 1 := ⟨k - 1, by omega⟩
    have hil : i < l.length := by omega
    simp only [impl_Decrypt.l0]
    rw [if_pos (by omega), if_pos (by omega), if_pos (by omega), iKeyed k s [(i : Int)] (by simp) (by simp; omega), Option.bind_some, if_pos (by omega), succ_at i l.length (by omega) (by omega), rd_at l i hil]
    exact ih k (i + 1) _ (by omega) (by omega) (by simp [ha]) (at_snoc l acc i hil (Decrypt_g s) ha hj)
theorem Decrypt_at (k : Nat) (s : Int) (l : List Int) (hl : l.length ≤ 1048576) (hk : l.length + 4 < k) : ∃ r, impl_Decrypt.f k s l = some r ∧ r.length = l.length ∧ ∀ j, j < l.length → r[j]? = (l[j]?).map (Decrypt_g s j) :=
  Decrypt_loop s l hl l.length k 0 [] (by omega) hk rfl (by omega)
theorem there (k : Nat) (s : Int) (b : List Int) (hb : b.length ≤ 1000) (hw : ∀ z ∈ b, 0 ≤ z ∧ z ≤ 255) (hk : b.length + 4 < k) : ∃ e, impl_Encrypt.f k s b = some e ∧ impl_Decrypt.f k s e = some b ∧ e.length = b.length := by
  obtain ⟨e, e1, e2, e3⟩ := Encrypt_at k s b (by omega) hk
  obtain ⟨d, d1, d2, d3⟩ := Decrypt_at k s e (by omega) (by omega)
  refine ⟨e, e1, ?_, e2⟩
  rw [d1]
  congr 1
  apply List.ext_getElem?
  intro j
  rcases Nat.lt_or_ge j b.length with h | h
  · rw [d3 j (by omega), e3 j h, List.getElem?_eq_getElem h]
    have hr := keyed_range s [(j : Int)]
    have hz := hw _ (List.getElem_mem h)
    simp only [Option.map_some, Encrypt_g, Decrypt_g]
    congr 1
    omega
  · rw [List.getElem?_eq_none (by omega), List.getElem?_eq_none (by omega)]
theorem back (k : Nat) (s : Int) (b : List Int) (hb : b.length ≤ 1000) (hw : ∀ z ∈ b, 0 ≤ z ∧ z ≤ 255) (hk : b.length + 4 < k) : ∃ e, impl_Decrypt.f k s b = some e ∧ impl_Encrypt.f k s e = some b ∧ e.length = b.length := by
  obtain ⟨e, e1, e2, e3⟩ := Decrypt_at k s b (by omega) hk
  obtain ⟨d, d1, d2, d3⟩ := Encrypt_at k s e (by omega) (by omega)
  refine ⟨e, e1, ?_, e2⟩
  rw [d1]
  congr 1
  apply List.ext_getElem?
  intro j
  rcases Nat.lt_or_ge j b.length with h | h
  · rw [d3 j (by omega), e3 j h, List.getElem?_eq_getElem h]
    have hr := keyed_range s [(j : Int)]
    have hz := hw _ (List.getElem_mem h)
    simp only [Option.map_some, Encrypt_g, Decrypt_g]
    congr 1
    omega
  · rw [List.getElem?_eq_none (by omega), List.getElem?_eq_none (by omega)]
theorem main : laws_FnCipher.Pure := by
  intro l _ _
  refine ⟨l.length + 40, ?_⟩
  unfold laws_FnCipher.f laws_big.f
  rw [Option.bind_some]
  by_cases h1 : (l.length : Int) > 1048576
  · rw [if_pos (by simp; omega)]
  rw [if_neg (by simp; omega)]
  obtain ⟨h, n1⟩ := new_ok (l.length + 40) l (by omega) (by omega)
  obtain ⟨s, i2, h2, n2, o2⟩ := word_ok l 0 h (okc_start l (by omega))
  obtain ⟨n, i3, h3, n3, o3, q0, q1, _⟩ := below_ok l i2 h2 8 o2
  have q2 := q1 (by omega)
  obtain ⟨b, i4, h4, n4, o4, q3, q4⟩ := bytes_ok (l.length + 40) l i3 h3 n o3 (by omega) (by omega)
  obtain ⟨e, e1, e2, e3⟩ := there (l.length + 40) s b (by omega) q4 (by omega)
  obtain ⟨d, d1, d2, d3⟩ := back (l.length + 40) s b (by omega) q4 (by omega)
  have hs := laws_sameBytes_self (l.length + 40) b (by omega) (by omega)
  unfold spec_DrawEncrypt.f
  simp only [n1, n2, n3, n4, e1, e2, d1, d2, hs, Option.bind_some, if_true, e3]
  simp

end Go.Proofs.Ytoocbgjcigadfab.PureFnCipher
namespace Go.Proofs.Ytoocbgjcigadfab.Pure
/-- The pure statement. -/
theorem FnCipher : Go.Proofs.Ytoocbgjcigadfab.PureFnCipher.laws_FnCipher.Pure := Go.Proofs.Ytoocbgjcigadfab.PureFnCipher.main
end Go.Proofs.Ytoocbgjcigadfab.Pure

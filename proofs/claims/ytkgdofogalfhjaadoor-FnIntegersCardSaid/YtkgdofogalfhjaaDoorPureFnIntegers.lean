/- The printed law FnIntegers, as a function of numbers and lists, answers true for all arguments that a call can be given; no conditions beyond the sizes that memory allows. -/
import Derived.Test.YtkgdofogalfhjaaDoorWkFnIntegersx4
import Derived.Test.YtkgdofogalfhjaaDoorDec
import Derived.Lib.Strings
namespace Go.Proofs.YtkgdofogalfhjaaDoor.PureFnIntegers
open Go.RowKit Go.Proofs.YtkgdofogalfhjaaDoor.PFnIntegers Go.Proofs.YtkgdofogalfhjaaDoorW.PrintWords Go.Proofs.YtkgdofogalfhjaaDoorW.PrintLast Go.Proofs.YtkgdofogalfhjaaDoorW.PrintMore
set_option linter.unusedVariables false
set_option linter.unusedSimpArgs false

/-- The pure statement of laws_FnIntegers, typed by lawfill.py as print.sh types it where it does. -/
def laws_FnIntegers.Pure : Prop := ∀ (l0 : List Int), l0.length ≤ maxLen → (∀ x ∈ l0, (Lit.int .u8 x).wf = true) → ∃ k, laws_FnIntegers.f k l0 = some true

def inr (a b c : Int) : Bool := decide (b ≤ a) && decide (a ≤ c)
theorem inr_iff (a b c : Int) : inr a b c = true ↔ b ≤ a ∧ a ≤ c := by unfold inr; simp
theorem inRange_eq (a b c : Int) : impl_InRange.f a b c = some (inr a b c) := by
  unfold impl_InRange.f inr
  by_cases h : b ≤ a <;> simp [h]
theorem rd_at (xs : List Int) (i : Nat) (h : i < xs.length) : rd xs (i : Int) = xs[i] := by
  unfold rd
  simp [List.getD_eq_getElem?_getD, h]
theorem succ_at (i n : Nat) (h : i < n) (hn : n ≤ 4611686018427387904) : wrap64 ((i : Int) + 1) = ((i + 1 : Nat) : Int) := by
  unfold wrap64
  omega
theorem wrap_id (n : Int) (h0 : -9223372036854775808 ≤ n) (h1 : n ≤ 9223372036854775807) : wrap64 n = n := by
  unfold wrap64
  omega
theorem u8_range {z : Int} (h : (Lit.int .u8 z).wf = true) : 0 ≤ z ∧ z ≤ 255 := by
  simp only [Lit.wf, Bool.and_eq_true, decide_eq_true_eq] at h
  have e1 : IntKind.u8.min = 0 := by decide
  have e2 : IntKind.u8.max = 255 := by decide
  omega
theorem i64_range {z : Int} (h : (Lit.int .i64 z).wf = true) : -9223372036854775808 ≤ z ∧ z ≤ 9223372036854775807 := by
  simp only [Lit.wf, Bool.and_eq_true, decide_eq_true_eq] at h
  have e1 : IntKind.i64.min = -9223372036854775808 := by decide
  have e2 : IntKind.i64.max = 9223372036854775807 := by decide
  omega
theorem tmod_range (a b : Int) (hb : 0 < b) : -b < Int.tmod a b ∧ Int.tmod a b < b := by
  rcases Int.le_total 0 a with h | h
  · have h1 := Int.tmod_nonneg b h
    have h2 := Int.tmod_lt_of_pos a hb
    omega
  · have h1 := Int.tmod_nonneg b (a := -a) (by omega)
    have h2 := Int.tmod_lt_of_pos (-a) hb
    rw [Int.neg_tmod] at h1 h2
    omega
def modOf (a b : Int) : Int := if inr b 1 1000000000000 = true then (if Int.tmod a b < 0 then Int.tmod a b + b else Int.tmod a b) else 0
theorem iMod (a b : Int) : impl_Mod.f a b = some (modOf a b) := by
  unfold impl_Mod.f modOf
  simp only [inRange_eq, Option.bind_some]
  by_cases h : inr b 1 1000000000000 = true
  · rw [if_pos h, if_pos h]
    rw [inr_iff] at h
    have hr := tmod_range a b (by omega)
    rw [if_neg (by omega)]
    by_cases n : Int.tmod a b < 0
    · rw [if_pos n, if_pos n]
      congr 1
      unfold wrap64
      omega
    · rw [if_neg n, if_neg n]
  · rw [if_neg h, if_neg h]
theorem wraps_i64 (n : Int) (h0 : 0 ≤ n) (h1 : n < 2 ^ 63) : IntKind.i64.wrap n = n := by
  rw [IntKind.wrap_i64]
  omega
theorem and127 (n : Int) (h0 : 0 ≤ n) (h1 : n < 2 ^ 63) : Go.bits .and .i64 n 127 = n % 128 :=
  bits_mask .i64 63 (by decide) wraps_i64 7 (by decide) n h0 h1
theorem and127b (n : Int) (h0 : 0 ≤ n) (h1 : n < 2 ^ 8) : Go.bits .and .u8 n 127 = n % 128 :=
  bits_mask .u8 8 (by decide) wraps_u8 7 (by decide) n h0 h1
def okc (b : List Int) (i : Int) : Prop := 0 ≤ i ∧ i ≤ (b.length : Int) ∧ b.length ≤ 1048576
theorem and255 (x : Int) : 0 ≤ Go.bits .and .i64 x 255 ∧ Go.bits .and .i64 x 255 ≤ 255 := by
  have e : Go.bits .and .i64 x 255 = IntKind.i64.wrap (((BitVec.ofInt 64 x &&& BitVec.ofInt 64 255).toNat : Nat) : Int) := rfl
  have h : (BitVec.ofInt 64 x &&& BitVec.ofInt 64 255).toNat ≤ 255 := by
    rw [BitVec.toNat_and]
    exact Nat.and_le_right
  rw [e, wraps_i64 _ (by omega) (by omega)]
  omega
theorem byte_ok (b : List Int) (i h : Int) (hi : okc b i) : ∃ r i' h', spec_l1Byte.f b i h = some (r, i', h') ∧ okc b i' ∧ 0 ≤ r ∧ r ≤ 255 := by
  unfold spec_l1Byte.f
  obtain ⟨h0, h1, h2⟩ := hi
  by_cases c : i < (b.length : Int)
  · rw [if_pos c, if_pos h0, wrap_id (i + 1) (by omega) (by omega)]
    exact ⟨_, _, _, rfl, ⟨by omega, by omega, h2⟩, and255 _⟩
  · rw [if_neg c]
    exact ⟨_, _, _, rfl, ⟨h0, h1, h2⟩, and255 _⟩
theorem below_ok (b : List Int) (i h n : Int) (hi : okc b i) : ∃ r i' h', spec_l1Below.f b i h n = some (r, i', h') ∧ okc b i' ∧ 0 ≤ r ∧ (0 < n → r < n) ∧ (n ≤ 0 → r = 0) := by
  unfold spec_l1Below.f
  by_cases c : n ≤ 0
  · rw [if_pos c]
    exact ⟨0, i, h, rfl, hi, by omega, by omega, fun _ => rfl⟩
  rw [if_neg c]
  by_cases c2 : n ≤ 256
  · obtain ⟨r, i', h', e, ho, hr⟩ := byte_ok b i h hi
    rw [if_pos c2, e, Option.bind_some, if_neg (by omega), Int.tmod_eq_emod_of_nonneg hr.1]
    exact ⟨_, _, _, rfl, ho, Int.emod_nonneg _ (by omega), fun hp => Int.emod_lt_of_pos _ hp, fun hn => by omega⟩
  · obtain ⟨r, i1, h1, e1, ho1, hr1⟩ := byte_ok b i h hi
    obtain ⟨r2, i2, h2, e2, ho2, hr2⟩ := byte_ok b i1 h1 ho1
    obtain ⟨r3, i3, h3, e3, ho3, hr3⟩ := byte_ok b i2 h2 ho2
    rw [if_neg c2, e1, Option.bind_some]
    simp only [e2, e3, Option.bind_some]
    rw [if_neg (by omega), wrap_id (r * 65536) (by omega) (by omega), wrap_id (r2 * 256) (by omega) (by omega), wrap_id (r * 65536 + r2 * 256) (by omega) (by omega), wrap_id (r * 65536 + r2 * 256 + r3) (by omega) (by omega), Int.tmod_eq_emod_of_nonneg (by omega)]
    exact ⟨_, _, _, rfl, ho3, Int.emod_nonneg _ (by omega), fun hp => Int.emod_lt_of_pos _ hp, fun hn => by omega⟩
theorem new_ok (k : Nat) (l : List Int) (hl : l.length ≤ 1048576) (hk : l.length < k) : ∃ h, spec_l1New.f k l = some (l, 0, h) := by
  have loop : ∀ (d k i : Nat) (h : Int), i + d = l.length → d < k → ∃ h', spec_l1New.l0 k l h (i : Int) = some (l, 0, h') := by
    intro d
    induction d with
    | zero =>
      intro k i h hi hk
      obtain ⟨k, rfl⟩ : ∃ m, k = m + 1 := ⟨k - 1, by omega⟩
      simp only [spec_l1New.l0]
      rw [if_neg (by omega)]
      exact ⟨h, rfl⟩
    | succ d ih =>
      intro k i h hi hk
      obtain ⟨k, rfl⟩ : ∃ m, k = m + 1 := ⟨k - 1, by omega⟩
      simp only [spec_l1New.l0]
      rw [if_pos (by omega)]
      by_cases c : (i : Int) < 4000
      · rw [if_pos c, if_pos (by omega), succ_at i l.length (by omega) (by omega)]
        exact ih k (i + 1) _ (by omega) (by omega)
      · rw [if_neg c]
        exact ⟨h, rfl⟩
  unfold spec_l1New.f
  exact loop l.length k 0 _ (by omega) hk
theorem okc_start (l : List Int) (hl : l.length ≤ 1048576) : okc l 0 := ⟨by omega, by omega, hl⟩
theorem once_ok (b : List Int) (i h n : Int) (hi : okc b i) : ∃ r i' h', spec_l1Once.f b i h n = some (r, i', h') ∧ okc b i' := by
  unfold spec_l1Once.f
  obtain ⟨r, i', h', e, ho, _⟩ := below_ok b i h n hi
  rw [e, Option.bind_some]
  exact ⟨_, _, _, rfl, ho⟩
theorem int_ok (b : List Int) (i h : Int) (l : List Int) (hi : okc b i) (hl : 0 < l.length) : ∃ r i' h', spec_l1Int.f b i h l = some (r, i', h') ∧ okc b i' ∧ r ∈ l := by
  unfold spec_l1Int.f
  obtain ⟨r, i', h', e, ho, h0, h1, _⟩ := below_ok b i h (l.length : Int) hi
  have h2 := h1 (by omega)
  rw [e, Option.bind_some, if_pos h0, if_pos h2]
  refine ⟨_, _, _, rfl, ho, ?_⟩
  obtain ⟨n, rfl⟩ := Int.eq_ofNat_of_zero_le h0
  rw [rd_at l n (by omega)]
  exact List.getElem_mem _
def dd (x : Nat) : List UInt8 := if x = 0 then [] else Go.Lib.decDigits x
theorem dd_step (x : Nat) (h : x ≠ 0) : dd x = dd (x / 10) ++ [UInt8.ofNat (48 + x % 10)] := by
  unfold dd
  rw [if_neg h]
  by_cases h1 : x < 10
  · rw [Dec.decDigits_small h1, if_pos (by omega), show x % 10 = x by omega]
    rfl
  · rw [Dec.decDigits_big h1, if_neg (by omega)]
theorem sFormat_pos (n : Int) (hn : ¬ n < 0) : ∀ (f x k : Nat) (acc : List UInt8), x < 10 ^ f → x ≤ 9223372036854775808 → f < k → acc.length + f ≤ 1048576 → spec_FormatInt.l0 k n ⟨acc.toArray⟩ (x : Int) = some ⟨(dd x ++ acc).toArray⟩ := by
  intro f
  induction f with
  | zero =>
    intro x k acc hx _ hk ha
    obtain ⟨k, rfl⟩ : ∃ m, k = m + 1 := ⟨k - 1, by omega⟩
    obtain rfl : x = 0 := by simpa using hx
    simp only [spec_FormatInt.l0]
    rw [if_pos (by omega), if_neg hn]
    simp [dd]
  | succ f ih =>
    intro x k acc hx hx2 hk ha
    obtain ⟨k, rfl⟩ : ∃ m, k = m + 1 := ⟨k - 1, by omega⟩
    simp only [spec_FormatInt.l0]
    by_cases h0 : x = 0
    · subst h0
      rw [if_pos (by omega), if_neg hn]
      simp [dd]
    · rw [if_neg (by omega), Int.tmod_eq_emod_of_nonneg (by omega), if_neg (by omega), Option.bind_some, Dec.strOf_one, show ((wrap64 (48 + (x : Int) % 10)) % 256).toNat = 48 + x % 10 by unfold wrap64; omega,
        show (⟨#[UInt8.ofNat (48 + x % 10)]⟩ : ByteArray) = ⟨[UInt8.ofNat (48 + x % 10)].toArray⟩ from rfl, Dec.mk_append, Dec.mk_size, Dec.mk_size, if_pos (by simp; omega), Int.tdiv_eq_ediv_of_nonneg (by omega),
        show wrap64 ((x : Int) / 10) = ((x / 10 : Nat) : Int) by unfold wrap64; omega]
      rw [ih (x / 10) k _ (by rw [Nat.pow_succ] at hx; omega) (by omega) (by omega) (by simp; omega), dd_step x h0]
      simp
theorem sFormat_neg (n : Int) (hn : n < 0) : ∀ (f x k : Nat) (acc : List UInt8), x < 10 ^ f → x ≤ 9223372036854775808 → f < k → acc.length + f ≤ 1048576 → spec_FormatInt.l0 k n ⟨acc.toArray⟩ (-(x : Int)) = some ⟨(45 :: (dd x ++ acc)).toArray⟩ := by
  intro f
  induction f with
  | zero =>
    intro x k acc hx _ hk ha
    obtain ⟨k, rfl⟩ : ∃ m, k = m + 1 := ⟨k - 1, by omega⟩
    obtain rfl : x = 0 := by simpa using hx
    simp only [spec_FormatInt.l0]
    rw [if_pos (by omega), if_pos hn, Dec.mk_size, if_pos (by omega), show (⟨#[45]⟩ : ByteArray) = ⟨[45].toArray⟩ from rfl, Dec.mk_append]
    simp [dd]
  | succ f ih =>
    intro x k acc hx hx2 hk ha
    obtain ⟨k, rfl⟩ : ∃ m, k = m + 1 := ⟨k - 1, by omega⟩
    simp only [spec_FormatInt.l0]
    by_cases h0 : x = 0
    · subst h0
      rw [if_pos (by omega), if_pos hn, Dec.mk_size, if_pos (by omega), show (⟨#[45]⟩ : ByteArray) = ⟨[45].toArray⟩ from rfl, Dec.mk_append]
      simp [dd]
    · have hd : Int.tmod (-(x : Int)) 10 = -((x % 10 : Nat) : Int) := by rw [Int.neg_tmod, Int.tmod_eq_emod_of_nonneg (by omega)]; omega
      have hq : Int.tdiv (-(x : Int)) 10 = -((x / 10 : Nat) : Int) := by rw [Int.neg_tdiv, Int.tdiv_eq_ediv_of_nonneg (by omega)]; omega
      have ih' := ih (x / 10) k (UInt8.ofNat (48 + x % 10) :: acc) (by rw [Nat.pow_succ] at hx; omega) (by omega) (by omega) (by simp; omega)
      have hfin : (⟨(45 :: (dd (x / 10) ++ UInt8.ofNat (48 + x % 10) :: acc)).toArray⟩ : ByteArray) = ⟨(45 :: (dd x ++ acc)).toArray⟩ := by rw [dd_step x h0]; simp
      rw [hfin] at ih'
      rw [if_neg (by omega), hd, hq, show wrap64 (-((x / 10 : Nat) : Int)) = -((x / 10 : Nat) : Int) by unfold wrap64; omega]
      have hcat : (⟨#[UInt8.ofNat (48 + x % 10)]⟩ : ByteArray) ++ ⟨acc.toArray⟩ = ⟨(UInt8.ofNat (48 + x % 10) :: acc).toArray⟩ := Dec.mk_append [UInt8.ofNat (48 + x % 10)] acc
      have hsz : (⟨#[UInt8.ofNat (48 + x % 10)]⟩ : ByteArray).size = 1 := Dec.mk_size [UInt8.ofNat (48 + x % 10)]
      by_cases hm : -((x % 10 : Nat) : Int) < 0
      · rw [if_pos hm, Option.bind_some, Dec.strOf_one, show ((wrap64 (48 + wrap64 (-(-((x % 10 : Nat) : Int))))) % 256).toNat = 48 + x % 10 by unfold wrap64; omega, hcat, hsz, Dec.mk_size, if_pos (by omega)]
        exact ih'
      · rw [if_neg hm, Option.bind_some, Dec.strOf_one, show ((wrap64 (48 + -((x % 10 : Nat) : Int))) % 256).toNat = 48 + x % 10 by unfold wrap64; omega, hcat, hsz, Dec.mk_size, if_pos (by omega)]
        exact ih'
/-- The reference's FormatInt gives the numeral. -/
theorem sFormat (k : Nat) (n : Int) (h0 : -9223372036854775808 ≤ n) (h1 : n ≤ 9223372036854775807) (hk : 20 < k) : spec_FormatInt.f k n = some ⟨(Go.Lib.itoa n).toArray⟩ := by
  unfold spec_FormatInt.f Go.Lib.itoa
  by_cases hz : n = 0
  · subst hz
    rw [if_pos rfl, if_neg (by omega), show (0 : Int).toNat = 0 from rfl, Dec.decDigits_small (by omega)]
    rfl
  · rw [if_neg hz]
    by_cases hn : n < 0
    · rw [if_pos hn]
      have h := sFormat_neg n hn 20 n.natAbs k [] (by omega) (by omega) hk (by simp)
      rw [show -(n.natAbs : Int) = n by omega] at h
      rw [show (⟨#[]⟩ : ByteArray) = ⟨([] : List UInt8).toArray⟩ from rfl, h]
      simp [dd, show n.natAbs ≠ 0 by omega]
    · rw [if_neg hn]
      have h := sFormat_pos n hn 20 n.toNat k [] (by omega) (by omega) hk (by simp)
      rw [show (n.toNat : Int) = n by omega] at h
      rw [show (⟨#[]⟩ : ByteArray) = ⟨([] : List UInt8).toArray⟩ from rfl, h]
      simp [dd, show n.toNat ≠ 0 by omega]
instance (b : UInt8) : Decidable (Dec.isDigit b) := by unfold Dec.isDigit; infer_instance
theorem bt_get (s : ByteArray) (i : Nat) (h : i < s.data.toList.length) : bt s (i : Int) = ((s.data.toList[i]).toNat : Int) := by
  have h2 : (i : Int).toNat < s.size := h
  unfold bt
  rw [dif_pos h2]
  rfl
theorem acc_step (v b : Nat) (hv : v < 10000000000000) (hb : 48 ≤ b ∧ b ≤ 57) : wrap64 (wrap64 (10 * (v : Int)) + ((b : Int) - 48) % 256) = ((10 * v + (b - 48) : Nat) : Int) := by
  rw [wrap_id (10 * (v : Int)) (by omega) (by omega), wrap_id _ (by omega) (by omega)]
  omega
theorem iParse_loop (s : ByteArray) (l : List UInt8) (hs : s.data.toList = l) (hl : l.length ≤ 13) : ∀ (d k i : Nat), i + d = l.length → d < k → (∀ b ∈ l.take i, Dec.isDigit b) →
    impl_ParseInt.l0 k s (Dec.val (l.take i) : Int) (l.length : Int) (i : Int) = some (if (∀ b ∈ l, Dec.isDigit b) ∧ Dec.val l ≤ 1000000000000 then ((Dec.val l : Int), true) else (0, false)) := by
  intro d
  have hsz : s.size = l.length := by rw [← hs]; rfl
  induction d with
  | zero =>
    intro k i hi hk hd
    obtain ⟨k, rfl⟩ : ∃ m, k = m + 1 := ⟨k - 1, by omega⟩
    simp only [impl_ParseInt.l0]
    rw [if_neg (by omega)]
    have ht : l.take i = l := List.take_of_length_le (by omega)
    rw [ht] at hd ⊢
    by_cases h1 : (Dec.val l : Int) > 1000000000000
    · rw [if_pos h1, if_neg (fun h => by omega)]
    · rw [if_neg h1, if_pos ⟨hd, by omega⟩]
  | succ d ih =>
    intro k i hi hk hd
    obtain ⟨k, rfl⟩ : ∃ m, k = m + 1 := ⟨k - 1, by omega⟩
    simp only [impl_ParseInt.l0]
    have hil : i < s.data.toList.length := by rw [hs]; omega
    have hb : bt s (i : Int) = ((l[i]'(by omega)).toNat : Int) := by rw [bt_get s i hil]; simp [hs]
    have hb2 := (l[i]'(by omega)).toNat_lt
    rw [hsz, if_pos (by omega), if_pos (by omega), if_pos (by omega), hb]
    by_cases h : Dec.isDigit (l[i]'(by omega))
    · have h1 := h.1
      have h2 := h.2
      have hv := Dec.val_lt (l.take i) hd
      have hv2 : 10 ^ (l.take i).length ≤ 10 ^ 13 := Nat.pow_le_pow_right (by decide) (by simp; omega)
      rw [if_neg (by omega), if_neg (by omega), acc_step (Dec.val (l.take i)) (l[i]'(by omega)).toNat (by omega) h, ← Dec.val_take_succ l i (by omega), succ_at i 14 (by omega) (by omega)]
      refine ih k (i + 1) (by omega) (by omega) ?_
      intro b hbm
      rw [List.take_succ_eq_append_getElem (by omega)] at hbm
      rcases List.mem_append.1 hbm with hm | hm
      · exact hd b hm
      · simp at hm
        exact hm ▸ h
    · have hf : ¬ ((∀ b ∈ l, Dec.isDigit b) ∧ Dec.val l ≤ 1000000000000) := fun hh => h (hh.1 _ (List.getElem_mem _))
      rw [if_neg hf]
      unfold Dec.isDigit at h
      by_cases h3 : ((l[i]'(by omega)).toNat : Int) < 48
      · rw [if_pos h3]
      · rw [if_neg h3, if_pos (by omega)]
/-- What both come to. -/
def parsed (l : List UInt8) : Int × Bool := if l ≠ [] ∧ l.length ≤ 13 ∧ (∀ b ∈ l, Dec.isDigit b) ∧ Dec.val l ≤ 1000000000000 ∧ (l.head? = some 48 → l.length = 1) then ((Dec.val l : Int), true) else (0, false)
theorem iParse (k : Nat) (s : ByteArray) (hk : 40 < k) : impl_ParseInt.f k s = some (parsed s.data.toList) := by
  obtain ⟨l, hs⟩ : ∃ l, s.data.toList = l := ⟨_, rfl⟩
  have hsz : s.size = l.length := by rw [← hs]; rfl
  obtain ⟨k, rfl⟩ : ∃ m, k = m + 1 := ⟨k - 1, by omega⟩
  have hj1 : impl_ParseInt.j0 (k + 1) s true = some (0, false) := by simp only [impl_ParseInt.j0, if_true]
  have hj0 : l.length ≤ 13 → impl_ParseInt.j0 (k + 1) s false = some (if (∀ b ∈ l, Dec.isDigit b) ∧ Dec.val l ≤ 1000000000000 then ((Dec.val l : Int), true) else (0, false)) := by
    intro h13
    simp only [impl_ParseInt.j0, Bool.false_eq_true, if_false]
    have h := iParse_loop s l hs h13 l.length k 0 (by omega) (by omega) (by simp)
    rw [show (Dec.val (l.take 0) : Int) = 0 from rfl, show ((0 : Nat) : Int) = 0 from rfl] at h
    rw [hsz]
    exact h
  unfold impl_ParseInt.f parsed
  rw [hs, hsz]
  by_cases h0 : l = []
  · subst h0
    rw [if_pos (by simp), hj1, if_neg (by simp)]
  have hp := List.length_pos_iff.2 h0
  rw [if_neg (by omega)]
  by_cases h13 : (l.length : Int) > 13
  · rw [if_pos h13, hj1, if_neg (fun h => by omega)]
  rw [if_neg h13]
  have fin : (l.head? = some 48 → l.length = 1) → impl_ParseInt.j0 (k + 1) s false = some (if l ≠ [] ∧ l.length ≤ 13 ∧ (∀ b ∈ l, Dec.isDigit b) ∧ Dec.val l ≤ 1000000000000 ∧ (l.head? = some 48 → l.length = 1) then ((Dec.val l : Int), true) else (0, false)) := by
    intro hz
    rw [hj0 (by omega)]
    congr 1
    by_cases h : (∀ b ∈ l, Dec.isDigit b) ∧ Dec.val l ≤ 1000000000000
    · rw [if_pos h, if_pos ⟨h0, by omega, h.1, h.2, hz⟩]
    · rw [if_neg h, if_neg (fun hh => h ⟨hh.2.2.1, hh.2.2.2.1⟩)]
  by_cases h1 : (l.length : Int) > 1
  · rw [if_pos h1, if_pos (by omega)]
    have hb : bt s 0 = ((l[0]'(by omega)).toNat : Int) := by
      have := bt_get s 0 (by rw [hs]; omega)
      rw [show ((0 : Nat) : Int) = 0 from rfl] at this
      rw [this]
      simp [hs]
    have hh : l.head? = some (l[0]'(by omega)) := by rw [List.head?_eq_getElem?, List.getElem?_eq_getElem]
    rw [hb]
    by_cases hz : l[0]'(by omega) = 48
    · rw [hz, show (((48 : UInt8).toNat : Int) == 48) = true from rfl, hj1, if_neg]
      rintro ⟨_, _, _, _, h⟩
      have := h (by rw [hh, hz])
      omega
    · have hn : ((l[0]'(by omega)).toNat : Int) ≠ 48 := by
        intro e
        exact hz (UInt8.toNat_inj.1 (by simp; omega))
      rw [show (((l[0]'(by omega)).toNat : Int) == 48) = false by simpa using hn]
      exact fin (fun h => by rw [hh] at h; exact absurd (Option.some.inj h) hz)
  · rw [if_neg h1]
    exact fin (fun _ => by omega)
theorem str_ok (b : List Int) (i h : Int) (l : List ByteArray) (hi : okc b i) (hl : 0 < l.length) : ∃ r i' h', spec_l1Str.f b i h l = some (r, i', h') ∧ okc b i' ∧ r ∈ l := by
  unfold spec_l1Str.f
  obtain ⟨r, i', h', e, ho, h0, h1, _⟩ := below_ok b i h (l.length : Int) hi
  have h2 := h1 (by omega)
  rw [e, Option.bind_some, if_pos h0, if_pos h2]
  refine ⟨_, _, _, rfl, ho, ?_⟩
  obtain ⟨n, rfl⟩ := Int.eq_ofNat_of_zero_le h0
  have hn : n < l.length := by omega
  unfold rdOf
  rw [show (((n : Nat) : Int)).toNat = n by omega, List.getD_eq_getElem?_getD, List.getElem?_eq_getElem hn]
  exact List.getElem_mem hn
def i64r (r : Int) : Prop := -9223372036854775808 ≤ r ∧ r ≤ 9223372036854775807
theorem num_ok (b : List Int) (i h : Int) (hi : okc b i) : ∃ r i' h', spec_l1Num.f b i h = some (r, i', h') ∧ okc b i' ∧ i64r r := by
  unfold spec_l1Num.f i64r
  obtain ⟨r1, i1, h1, e1, o1, _⟩ := below_ok b i h 4 hi
  rw [e1, Option.bind_some]
  by_cases c0 : r1 = 0
  · obtain ⟨r2, i2, h2, e2, o2, q1, q2, _⟩ := below_ok b i1 h1 2000 o1
    have q3 := q2 (by omega)
    simp only [if_pos c0, e2, Option.bind_some]
    exact ⟨_, _, _, rfl, o2, by omega, by omega⟩
  by_cases c1 : r1 = 1
  · obtain ⟨r2, i2, h2, e2, o2, m⟩ := int_ok b i1 h1 [0, 1, 127, 128, 2147483646, 2147483647, 1000000000000] o1 (by simp)
    simp only [if_neg c0, if_pos c1, e2, Option.bind_some]
    simp only [List.mem_cons, List.not_mem_nil, or_false] at m
    exact ⟨_, _, _, rfl, o2, by omega, by omega⟩
  by_cases c2 : r1 = 2
  · obtain ⟨r2, i2, h2, e2, o2, _⟩ := below_ok b i1 h1 1000000 o1
    obtain ⟨r3, i3, h3, e3, o3, _⟩ := below_ok b i2 h2 1000000 o2
    simp only [if_neg c0, if_neg c1, if_pos c2, e2, e3, Option.bind_some]
    refine ⟨_, _, _, rfl, o3, ?_⟩
    unfold wrap64
    omega
  · obtain ⟨r2, i2, h2, e2, o2, q1, q2, _⟩ := below_ok b i1 h1 20 o1
    have q3 := q2 (by omega)
    simp only [if_neg c0, if_neg c1, if_neg c2, e2, Option.bind_some]
    exact ⟨_, _, _, rfl, o2, by omega, by omega⟩
theorem raw_ok (b : List Int) (i h : Int) (hi : okc b i) : ∃ r i' h', spec_l1Raw.f b i h = some (r, i', h') ∧ okc b i' ∧ i64r r := by
  unfold spec_l1Raw.f spec_l1Odd.f i64r
  obtain ⟨r1, i1, h1, e1, o1⟩ := once_ok b i h 2 hi
  rw [e1, Option.bind_some]
  cases r1
  · obtain ⟨r2, i2, h2, e2, o2, m⟩ := int_ok b i1 h1 [(-1), 1000000000000, 1000000000001] o1 (by simp)
    simp only [Bool.false_eq_true, if_false, e2, Option.bind_some]
    simp only [List.mem_cons, List.not_mem_nil, or_false] at m
    exact ⟨_, _, _, rfl, o2, by omega, by omega⟩
  · obtain ⟨r2, i2, h2, e2, o2, m⟩ := int_ok b i1 h1 [(-1), 0, 1, 2, 255, 256, 65535, 2147483647, 2147483648, 4294967295, 4294967296, (-2147483648), 9223372036854775807, (-9223372036854775808)] o1 (by simp)
    simp only [if_true, e2, Option.bind_some]
    simp only [List.mem_cons, List.not_mem_nil, or_false] at m
    exact ⟨_, _, _, rfl, o2, by omega, by omega⟩
theorem one_ok (b : List Int) (i h : Int) (hi : okc b i) : ∃ r i' h', spec_l1One.f b i h = some (r, i', h') ∧ okc b i' ∧ i64r r := by
  unfold spec_l1One.f
  obtain ⟨r1, i1, h1, e1, o1⟩ := once_ok b i h 6 hi
  rw [e1, Option.bind_some]
  cases r1
  · obtain ⟨r2, i2, h2, e2, o2, q⟩ := num_ok b i1 h1 o1
    simp only [Bool.false_eq_true, if_false, e2, Option.bind_some]
    exact ⟨_, _, _, rfl, o2, q⟩
  · obtain ⟨r2, i2, h2, e2, o2, q⟩ := raw_ok b i1 h1 o1
    simp only [if_true, e2, Option.bind_some]
    exact ⟨_, _, _, rfl, o2, q⟩
theorem iFormat (k : Nat) (n : Int) (h : i64r n) : impl_FormatInt.f k n = some ⟨(Go.Lib.itoa n).toArray⟩ := by
  unfold impl_FormatInt.f
  rw [if_pos (show -9223372036854775808 ≤ n ∧ n ≤ 9223372036854775807 from h)]
theorem digit_is (d : Nat) (h : d < 10) : (UInt8.ofNat (48 + d)).toNat = 48 + d := by
  rw [UInt8.toNat_ofNat']
  exact Nat.mod_eq_of_lt (by omega)
theorem dec_all : ∀ (f x : Nat), x < 10 ^ (f + 1) → (Go.Lib.decDigits x).length ≤ f + 1 ∧ (Go.Lib.decDigits x) ≠ [] ∧ (∀ b ∈ Go.Lib.decDigits x, Dec.isDigit b) ∧ Dec.val (Go.Lib.decDigits x) = x := by
  intro f
  induction f with
  | zero =>
    intro x h
    have hx : x < 10 := by simpa using h
    rw [Dec.decDigits_small hx]
    refine ⟨by simp, by simp, ?_, ?_⟩
    · intro b hb
      rw [List.mem_singleton.1 hb]
      unfold Dec.isDigit
      rw [digit_is x hx]
      omega
    · unfold Dec.val
      simp only [List.foldl_cons, List.foldl_nil]
      rw [digit_is x hx]
      omega
  | succ f ih =>
    intro x h
    by_cases h1 : x < 10
    · obtain ⟨a1, a2, a3, a4⟩ := ih x (by have : 10 ^ 1 ≤ 10 ^ (f + 1) := Nat.pow_le_pow_right (by decide) (by omega); omega)
      exact ⟨by omega, a2, a3, a4⟩
    · obtain ⟨a1, a2, a3, a4⟩ := ih (x / 10) (by rw [Nat.pow_succ] at h; omega)
      rw [Dec.decDigits_big h1]
      refine ⟨by simp; omega, by simp, ?_, ?_⟩
      · intro b hb
        rcases List.mem_append.1 hb with hb | hb
        · exact a3 b hb
        · rw [List.mem_singleton.1 hb]
          unfold Dec.isDigit
          rw [digit_is (x % 10) (by omega)]
          omega
      · rw [Dec.val_snoc, a4, digit_is (x % 10) (by omega)]
        omega
theorem parsed_itoa (m : Int) (h : i64r m) : parsed (Go.Lib.itoa m) = if 0 ≤ m ∧ m ≤ 1000000000000 then (m, true) else (0, false) := by
  unfold i64r at h
  unfold Go.Lib.itoa
  by_cases hn : m < 0
  · rw [if_pos hn, if_neg (by omega)]
    unfold parsed
    rw [if_neg]
    rintro ⟨_, _, hd, _⟩
    have := hd 45 (by simp)
    unfold Dec.isDigit at this
    simp at this
  · rw [if_neg hn]
    obtain ⟨a1, a2, a3, a4⟩ := dec_all 19 m.toNat (by omega)
    have hi := Dec.numeral_iff _ a2 a3
    rw [a4] at hi
    have hz := hi.1 rfl
    unfold parsed
    by_cases hb : m ≤ 1000000000000
    · obtain ⟨b1, _, _, _⟩ := dec_all 12 m.toNat (by omega)
      rw [if_pos ⟨a2, b1, a3, by omega, hz⟩, if_pos ⟨by omega, hb⟩, a4]
      rw [show ((m.toNat : Nat) : Int) = m by omega]
    · rw [if_neg (fun hh => by have := hh.2.2.2.1; omega), if_neg (fun hh => hb hh.2)]
theorem parsed_back (l : List UInt8) (n : Int) (h : parsed l = (n, true)) : Go.Lib.itoa n = l ∧ i64r n := by
  unfold parsed at h
  split at h
  · rename_i hh
    obtain ⟨hne, h13, hd, hv, hz⟩ := hh
    have e : (Dec.val l : Int) = n := (Prod.mk.inj h).1
    subst e
    unfold Go.Lib.itoa
    rw [if_neg (by omega)]
    refine ⟨?_, ?_⟩
    · simpa using (Dec.numeral_iff l hne hd).2 hz
    · unfold i64r
      omega
  · exact absurd (Prod.mk.inj h).2 (by decide)
theorem ceil_at (a b : Int) : impl_CeilDiv.f a b = some (if inr a 0 1000000000000 = true ∧ inr b 1 1000000000000 = true then (a + b - 1) / b else 0) := by
  unfold impl_CeilDiv.f
  simp only [inRange_eq, Option.bind_some]
  by_cases h1 : inr a 0 1000000000000 = true
  · by_cases h2 : inr b 1 1000000000000 = true
    · have q1 := (inr_iff _ _ _).1 h1
      have q2 := (inr_iff _ _ _).1 h2
      rw [if_pos h1, if_pos h2, if_neg (by omega), if_pos ⟨h1, h2⟩]
      rw [wrap_id (a + b) (by omega) (by omega), wrap_id (a + b - 1) (by omega) (by omega), Int.tdiv_eq_ediv_of_nonneg (by omega)]
      have d1 : 0 ≤ (a + b - 1) / b := Int.ediv_nonneg (by omega) (by omega)
      have d2 : (a + b - 1) / b ≤ a + b - 1 := Int.ediv_le_self _ (by omega)
      rw [wrap_id _ (by omega) (by omega)]
    · rw [if_pos h1, if_neg h2, if_neg (fun h => h2 h.2)]
  · rw [if_neg h1, if_neg (fun h => h1 h.1)]
theorem ceil_law (a b : Int) (ha : 0 ≤ a) (hb : 1 ≤ b) : a ≤ (a + b - 1) / b * b ∧ (a + b - 1) / b * b - a < b := by
  have e := Int.mul_ediv_add_emod (a + b - 1) b
  have e1 : 0 ≤ (a + b - 1) % b := Int.emod_nonneg _ (by omega)
  have e2 : (a + b - 1) % b < b := Int.emod_lt_of_pos _ (by omega)
  rw [Int.mul_comm] at e
  omega
theorem tail_ok (k : Nat) (a b : Int) (hk : 5 ≤ k) : ∃ q r, impl_CeilDiv.f a b = some q ∧ impl_Mod.f a b = some r ∧ laws_FnIntegers.j0 k a b q r false = some true := by
  obtain ⟨k, rfl⟩ : ∃ m, k = m + 3 := ⟨k - 3, by omega⟩
  refine ⟨_, _, ceil_at a b, iMod a b, ?_⟩
  simp only [laws_FnIntegers.j0, Bool.false_eq_true, if_false]
  by_cases hb : inr b 1 1000000000000 = true
  · have q2 := (inr_iff _ _ _).1 hb
    have hr := tmod_range a b (by omega)
    rw [if_neg (by omega), show (decide (b > 1000000000000)) = false by simp; omega]
    simp only [laws_FnIntegers.j1, Bool.false_eq_true, if_false]
    have m0 : 0 ≤ modOf a b ∧ modOf a b < b ∧ (Int.tmod a b - modOf a b = 0 ∨ Int.tmod a b - modOf a b = -b) := by
      unfold modOf
      rw [if_pos hb]
      split <;> omega
    obtain ⟨m1, m2, m3⟩ := m0
    rw [if_neg (by omega), if_neg (by omega), if_neg (by omega), wrap_id _ (by omega) (by omega)]
    have m4 : Int.tmod (Int.tmod a b - modOf a b) b = 0 := by
      rcases m3 with e | e
      · rw [e]
        simp
      · rw [e, Int.neg_tmod]
        simp
    rw [m4, show ((0 : Int) != 0) = false by decide]
    simp only [laws_FnIntegers.j2, Bool.false_eq_true, if_false]
    by_cases ha0 : a < 0
    · rw [if_pos ha0, if_neg (fun h => by have := (inr_iff _ _ _).1 h.1; omega)]
      rfl
    by_cases ha1 : a > 1000000000000
    · rw [if_neg ha0, if_pos ha1, if_neg (fun h => by have := (inr_iff _ _ _).1 h.1; omega)]
      rfl
    · have hin : inr a 0 1000000000000 = true ∧ inr b 1 1000000000000 = true := ⟨(inr_iff _ _ _).2 ⟨by omega, by omega⟩, hb⟩
      simp only [if_neg ha0, if_neg ha1, if_pos hin]
      obtain ⟨c1, c2⟩ := ceil_law a b (by omega) (by omega)
      generalize (a + b - 1) / b * b = p at c1 c2 ⊢
      rw [wrap_id p (by omega) (by omega), if_pos (by omega), wrap_id (p - a) (by omega) (by omega)]
      congr 1
      simp
      omega
  · have hq : (if inr a 0 1000000000000 = true ∧ inr b 1 1000000000000 = true then (a + b - 1) / b else 0) = 0 := if_neg (fun h => hb h.2)
    have hm : modOf a b = 0 := by unfold modOf; rw [if_neg hb]
    rw [hq, hm]
    rw [inr_iff] at hb
    by_cases h1 : b < 1
    · rw [if_pos h1]
      simp [laws_FnIntegers.j1]
    · rw [if_neg h1, show (decide (b > 1000000000000)) = true by simp; omega]
      simp [laws_FnIntegers.j1]
theorem drawParse_ok (k : Nat) (l : List Int) (hl : l.length ≤ 1048576) (hk : l.length + 60 ≤ k) : ∃ s, spec_DrawParseInt.f k l = some s := by
  unfold spec_DrawParseInt.f
  obtain ⟨h, n1⟩ := new_ok k l (by omega) (by omega)
  obtain ⟨r2, i2, h2, n2, o2⟩ := once_ok l 0 h 2 (okc_start l (by omega))
  simp only [n1, n2, Option.bind_some]
  cases r2
  · obtain ⟨r3, i3, h3, n3, o3, q3⟩ := num_ok l i2 h2 o2
    simp only [Bool.false_eq_true, if_false, n3, Option.bind_some, sFormat k r3 q3.1 q3.2 (by omega)]
    exact ⟨_, rfl⟩
  · obtain ⟨r3, i3, h3, n3, o3, _⟩ := str_ok l i2 h2 [(⟨#[]⟩ : ByteArray), (⟨#[48]⟩ : ByteArray), (⟨#[48, 48]⟩ : ByteArray), (⟨#[45, 49]⟩ : ByteArray), (⟨#[48, 49]⟩ : ByteArray), (⟨#[55]⟩ : ByteArray), (⟨#[49, 48, 48, 48, 48, 48, 48, 48, 48, 48, 48, 48, 48]⟩ : ByteArray), (⟨#[49, 48, 48, 48, 48, 48, 48, 48, 48, 48, 48, 48, 49]⟩ : ByteArray), (⟨#[57, 57, 57, 57, 57, 57, 57, 57, 57, 57, 57, 57, 57, 57]⟩ : ByteArray), (⟨#[49, 120]⟩ : ByteArray), (⟨#[32, 49]⟩ : ByteArray)] o2 (by simp)
    simp only [if_true, n3, Option.bind_some]
    exact ⟨_, rfl⟩
theorem main : laws_FnIntegers.Pure := by
  intro l _ _
  obtain ⟨K, hK⟩ : ∃ K, K = l.length + 200 := ⟨_, rfl⟩
  refine ⟨K, ?_⟩
  unfold laws_FnIntegers.f laws_big.f
  rw [Option.bind_some]
  by_cases h1 : (l.length : Int) > 1048576
  · rw [if_pos (by simp; omega)]
  rw [if_neg (by simp; omega)]
  obtain ⟨s, hs⟩ := drawParse_ok K l (by omega) (by omega)
  obtain ⟨h, n1⟩ := new_ok K l (by omega) (by omega)
  obtain ⟨m, i2, h2, n2, o2, q2⟩ := one_ok l 0 h (okc_start l (by omega))
  obtain ⟨b, i3, h3, n3, o3, q3⟩ := one_ok l i2 h2 o2
  obtain ⟨q, r, c1, c2, c3⟩ := tail_ok K m b (by omega)
  have hm : spec_DrawFormatInt.f K l = some m := by
    unfold spec_DrawFormatInt.f
    simp only [n1, n2, Option.bind_some]
  have hab : spec_DrawCeilDiv.f K l = some (m, b) := by
    unfold spec_DrawCeilDiv.f
    simp only [n1, n2, n3, Option.bind_some]
  have p1 := iParse K s (by omega)
  have p2 := iParse K ⟨(Go.Lib.itoa m).toArray⟩ (by omega)
  have e2 : (⟨(Go.Lib.itoa m).toArray⟩ : ByteArray).data.toList = Go.Lib.itoa m := by simp
  rw [e2, parsed_itoa m q2] at p2
  have mid : (if m ≥ 0 then (if ((if 0 ≤ m ∧ m ≤ 1000000000000 then (m, true) else (0, false)).2 != (decide (m ≤ 1000000000000))) = true then (laws_FnIntegers.j0 K m b q r true) else (if (if 0 ≤ m ∧ m ≤ 1000000000000 then (m, true) else ((0 : Int), false)).2 = true then (laws_FnIntegers.j0 K m b q r ((if 0 ≤ m ∧ m ≤ 1000000000000 then (m, true) else (0, false)).1 != m)) else (laws_FnIntegers.j0 K m b q r false))) else (if ((if 0 ≤ m ∧ m ≤ 1000000000000 then (m, true) else ((0 : Int), false)).2 != false) = true then (laws_FnIntegers.j0 K m b q r true) else (if (if 0 ≤ m ∧ m ≤ 1000000000000 then (m, true) else ((0 : Int), false)).2 = true then (laws_FnIntegers.j0 K m b q r ((if 0 ≤ m ∧ m ≤ 1000000000000 then (m, true) else (0, false)).1 != m)) else (laws_FnIntegers.j0 K m b q r false)))) = some true := by
    by_cases g0 : m ≥ 0
    · by_cases g1 : m ≤ 1000000000000
      · simp only [if_pos g0, if_pos (show 0 ≤ m ∧ m ≤ 1000000000000 from ⟨g0, g1⟩), show decide (m ≤ 1000000000000) = true by simpa using g1, bne_self_eq_false, Bool.false_eq_true, if_false, if_true]
        exact c3
      · simp only [if_pos g0, if_neg (show ¬ (0 ≤ m ∧ m ≤ 1000000000000) from fun h => g1 h.2), show decide (m ≤ 1000000000000) = false by simpa using g1, bne_self_eq_false, Bool.false_eq_true, if_false]
        exact c3
    · simp only [if_neg g0, if_neg (show ¬ (0 ≤ m ∧ m ≤ 1000000000000) from fun h => g0 h.1), bne_self_eq_false, Bool.false_eq_true, if_false]
      exact c3
  simp only [hs, p1, hm, iFormat K m q2, p2, hab, c1, c2, Option.bind_some]
  by_cases hp : (parsed s.data.toList).2 = true
  · rw [if_pos hp]
    obtain ⟨b1, b2⟩ := parsed_back s.data.toList (parsed s.data.toList).1 (by rw [← hp])
    rw [iFormat K _ b2, Option.bind_some, if_pos]
    · exact mid
    · rw [Go.Lib.toList_data, Go.Lib.toList_data]
      exact b1
  · rw [if_neg hp]
    exact mid

end Go.Proofs.YtkgdofogalfhjaaDoor.PureFnIntegers
namespace Go.Proofs.YtkgdofogalfhjaaDoor.Pure
/-- The pure statement. -/
theorem FnIntegers : Go.Proofs.YtkgdofogalfhjaaDoor.PureFnIntegers.laws_FnIntegers.Pure := Go.Proofs.YtkgdofogalfhjaaDoor.PureFnIntegers.main
end Go.Proofs.YtkgdofogalfhjaaDoor.Pure

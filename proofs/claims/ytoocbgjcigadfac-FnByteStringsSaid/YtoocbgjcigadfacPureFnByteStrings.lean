/- The printed law FnByteStrings, as a function of numbers and lists, answers true for all arguments that a call can be given; no conditions beyond the sizes that memory allows. -/
import Derived.Test.YtoocbgjcigadfacWkFnByteStringsx3
namespace Go.Proofs.Ytoocbgjcigadfac.PureFnByteStrings
open Go.RowKit Go.Proofs.Ytoocbgjcigadfac.PFnByteStrings Go.Proofs.YtoocbgjcigadfacW.PrintWords Go.Proofs.YtoocbgjcigadfacW.PrintLast Go.Proofs.YtoocbgjcigadfacW.PrintMore
set_option linter.unusedVariables false
set_option linter.unusedSimpArgs false

/-- The pure statement of laws_FnByteStrings, typed by lawfill.py as print.sh types it where it does. -/
def laws_FnByteStrings.Pure : Prop := ∀ (l0 : List Int), l0.length ≤ maxLen → (∀ x ∈ l0, (Lit.int .u8 x).wf = true) → ∃ k, laws_FnByteStrings.f k l0 = some true

def inr (a b c : Int) : Bool := decide (b ≤ a) && decide (a ≤ c)
theorem inr_iff (a b c : Int) : inr a b c = true ↔ b ≤ a ∧ a ≤ c := by unfold inr; simp
theorem inRange_eq (a b c : Int) : impl_InRange.f a b c = some (inr a b c) := by
  unfold impl_InRange.f inr
  by_cases h : b ≤ a <;> simp [h]
theorem rd_at (xs : List Int) (i : Nat) (h : i < xs.length) : rd xs (i : Int) = xs[i] := by
  unfold rd
  simp [List.getD_eq_getElem?_getD, h]
theorem succ_at (i n : Nat) (h : i < n) (hn : n ≤ 4611686018427387904) : wrap64 ((i : Int) + 1) = ((i + 1 : Nat) : Int) := by
  unfold wrap64
  omega
theorem wrap_id (n : Int) (h0 : -9223372036854775808 ≤ n) (h1 : n ≤ 9223372036854775807) : wrap64 n = n := by
  unfold wrap64
  omega
theorem u8_range {z : Int} (h : (Lit.int .u8 z).wf = true) : 0 ≤ z ∧ z ≤ 255 := by
  simp only [Lit.wf, Bool.and_eq_true, decide_eq_true_eq] at h
  have e1 : IntKind.u8.min = 0 := by decide
  have e2 : IntKind.u8.max = 255 := by decide
  omega
theorem i64_range {z : Int} (h : (Lit.int .i64 z).wf = true) : -9223372036854775808 ≤ z ∧ z ≤ 9223372036854775807 := by
  simp only [Lit.wf, Bool.and_eq_true, decide_eq_true_eq] at h
  have e1 : IntKind.i64.min = -9223372036854775808 := by decide
  have e2 : IntKind.i64.max = 9223372036854775807 := by decide
  omega
theorem wraps_i64 (n : Int) (h0 : 0 ≤ n) (h1 : n < 2 ^ 63) : IntKind.i64.wrap n = n := by
  rw [IntKind.wrap_i64]
  omega
theorem and127 (n : Int) (h0 : 0 ≤ n) (h1 : n < 2 ^ 63) : Go.bits .and .i64 n 127 = n % 128 :=
  bits_mask .i64 63 (by decide) wraps_i64 7 (by decide) n h0 h1
theorem and127b (n : Int) (h0 : 0 ≤ n) (h1 : n < 2 ^ 8) : Go.bits .and .u8 n 127 = n % 128 :=
  bits_mask .u8 8 (by decide) wraps_u8 7 (by decide) n h0 h1
theorem bits_or_comm (k : IntKind) (x y : Int) : Go.bits .or k x y = Go.bits .or k y x := by
  simp only [Go.bits]
  rw [BitVec.or_comm]
theorem pow128 (i : Nat) (hi : i < 6) : 0 < (128 : Int) ^ i ∧ (128 : Int) ^ i ≤ 34359738368 := by
  rcases (by omega : i = 0 ∨ i = 1 ∨ i = 2 ∨ i = 3 ∨ i = 4 ∨ i = 5) with rfl | rfl | rfl | rfl | rfl | rfl <;> decide
theorem pow128_succ (i : Nat) : (128 : Int) ^ (i + 1) = 128 ^ i * 128 := Int.pow_succ ..
theorem or_step (acc c : Int) (i : Nat) (hi : i < 6) (ha : 0 ≤ acc ∧ acc < 128 ^ i) (hc : 0 ≤ c ∧ c < 128) : Go.bits .or .i64 acc (shl .i64 c (7 * (i : Int))) = acc + c * 128 ^ i := by
  have hp := pow128 i hi
  have h2 : (2 : Int) ^ (7 * i) = 128 ^ i := by rw [Int.pow_mul]; rfl
  have hm : min (7 * (i : Int)).toNat IntKind.i64.bits = 7 * i := by
    have : IntKind.i64.bits = 64 := rfl
    omega
  unfold shl
  rw [hm, h2]
  generalize hP : (128 : Int) ^ i = P at *
  have m1 : 0 ≤ c * P := Int.mul_nonneg hc.1 (by omega)
  have m2 : c * P ≤ 127 * P := Int.mul_le_mul_of_nonneg_right (by omega) (by omega)
  rw [wraps_i64 (c * P) m1 (by omega), bits_or_comm, bits_join .i64 63 (by decide) wraps_i64 (7 * i) (c * P) acc m1 (by rw [h2]; exact Int.mul_emod_left c P) (by omega) ha.1 (by rw [h2]; exact ha.2) (by omega)]
  omega
/-- What both readers come to, from place i on. -/
def rv (l : List Int) (x : Nat) : Nat → Nat → Int → Int × Int × Bool
  | 0, _, _ => (0, 0, false)
  | d + 1, i, acc => if l.length ≤ x + i then (0, 0, false) else
    if l.getD (x + i) 0 < 128 then
      (if (l.getD (x + i) 0 = 0 ∧ 0 < i) ∨ acc + l.getD (x + i) 0 % 128 * 128 ^ i > 1000000000000 then (0, 0, false) else (acc + l.getD (x + i) 0 % 128 * 128 ^ i, (x : Int) + (i : Int) + 1, true))
    else rv l x d (i + 1) (acc + l.getD (x + i) 0 % 128 * 128 ^ i)
theorem rd_getD (l : List Int) (n : Nat) : rd l (n : Int) = l.getD n 0 := by
  unfold rd
  simp
theorem rd_add (l : List Int) (x i : Nat) : rd l ((x : Int) + (i : Int)) = l.getD (x + i) 0 := rd_getD l (x + i)
theorem getD_mem_range (l : List Int) (hw : ∀ z ∈ l, 0 ≤ z ∧ z ≤ 255) (n : Nat) : 0 ≤ l.getD n 0 ∧ l.getD n 0 ≤ 255 := by
  rcases Nat.lt_or_ge n l.length with h | h
  · have e : l.getD n 0 = l[n] := by simp [List.getD_eq_getElem?_getD, h]
    rw [e]
    exact hw _ (List.getElem_mem h)
  · have e : l.getD n 0 = 0 := by simp [List.getD_eq_getElem?_getD, h]
    omega
theorem iread_same (l : List Int) (hl : l.length ≤ 4194304) (hw : ∀ z ∈ l, 0 ≤ z ∧ z ≤ 255) (x : Nat) (hx : x < l.length) : ∀ (d k' i : Nat) (acc : Int), i + d = 6 → d < k' → 0 ≤ acc ∧ acc < 128 ^ i →
    impl_ReadUvarint.l0 k' l (x : Int) acc (i : Int) = some (rv l x d i acc) := by
  intro d
  induction d with
  | zero =>
    intro k' i acc hi hk' ha
    obtain ⟨k', rfl⟩ : ∃ m, k' = m + 1 := ⟨k' - 1, by omega⟩
    simp only [impl_ReadUvarint.l0]
    rw [if_neg (by omega)]
    rfl
  | succ d ih =>
    intro k' i acc hi hk' ha
    obtain ⟨k', rfl⟩ : ∃ m, k' = m + 1 := ⟨k' - 1, by omega⟩
    have hb := getD_mem_range l hw (x + i)
    simp only [impl_ReadUvarint.l0, wrap_id ((x : Int) + (i : Int)) (by omega) (by omega), wrap_id (7 * (i : Int)) (by omega) (by omega), wrap_id ((x : Int) + (i : Int) + 1) (by omega) (by omega), succ_at i 6 (by omega) (by omega), rd_add, rv]
    generalize l.getD (x + i) 0 = b at hb ⊢
    have p1 := pow128 i (by omega)
    have hn : 0 ≤ acc + b % 128 * 128 ^ i ∧ acc + b % 128 * 128 ^ i < 128 ^ (i + 1) := by
      rw [pow128_succ]
      have m1 : 0 ≤ b % 128 * 128 ^ i := Int.mul_nonneg (by omega) (by omega)
      have m2 : b % 128 * 128 ^ i ≤ 127 * 128 ^ i := Int.mul_le_mul_of_nonneg_right (by omega) (by omega)
      generalize b % 128 * 128 ^ i = Q at *
      generalize (128 : Int) ^ i = P at *
      omega
    rw [and127b b (by omega) (by omega), wrap_id (b % 128) (by omega) (by omega), or_step acc (b % 128) i (by omega) ha (by omega)]
    generalize acc + b % 128 * 128 ^ i = acc' at hn ⊢
    have c1 : (i : Int) < 6 := by omega
    have c3 : (0 : Int) ≤ (x : Int) + (i : Int) := by omega
    have c4 : (0 : Int) ≤ 7 * (i : Int) := by omega
    simp only [if_pos c1, if_pos c3, if_pos c4]
    by_cases h : l.length ≤ x + i
    · have d2 : (x : Int) + (i : Int) ≥ (l.length : Int) := by omega
      simp only [if_pos d2, if_pos h]
    · have d2 : ¬ (x : Int) + (i : Int) ≥ (l.length : Int) := by omega
      have d3 : (x : Int) + (i : Int) < (l.length : Int) := by omega
      simp only [if_neg d2, if_neg h, if_pos d3]
      by_cases hc : b < 128
      · simp only [if_pos hc]
        by_cases hz : b = 0 <;> by_cases hp : 0 < i <;> by_cases hm : acc' > 1000000000000 <;> simp [hz, hp, hm]
      · simp only [if_neg hc]
        exact ih k' (i + 1) acc' (by omega) (by omega) hn
/-- What both readers give. -/
def rdv (l : List Int) (x : Int) : Int × Int × Bool := if 0 ≤ x ∧ x < (l.length : Int) then rv l x.toNat 6 0 0 else (0, 0, false)
theorem iread (k : Nat) (l : List Int) (hl : l.length ≤ 4194304) (hw : ∀ z ∈ l, 0 ≤ z ∧ z ≤ 255) (x : Int) (hk : 20 < k) : impl_ReadUvarint.f k l x = some (rdv l x) := by
  obtain ⟨k, rfl⟩ : ∃ m, k = m + 1 := ⟨k - 1, by omega⟩
  unfold impl_ReadUvarint.f rdv
  by_cases h0 : x < 0
  · have c : ¬ (0 ≤ x ∧ x < (l.length : Int)) := by omega
    simp only [if_pos h0, impl_ReadUvarint.j0, if_true, if_neg c]
  · obtain ⟨y, rfl⟩ := Int.eq_ofNat_of_zero_le (show 0 ≤ x by omega)
    by_cases h1 : l.length ≤ y
    · have d1 : decide ((y : Int) ≥ (l.length : Int)) = true := by simp; omega
      have c : ¬ (0 ≤ (y : Int) ∧ (y : Int) < (l.length : Int)) := by omega
      simp only [if_neg h0, impl_ReadUvarint.j0, d1, if_true, if_neg c]
    · have d1 : decide ((y : Int) ≥ (l.length : Int)) = false := by simp; omega
      have c : 0 ≤ (y : Int) ∧ (y : Int) < (l.length : Int) := by omega
      simp only [if_neg h0, impl_ReadUvarint.j0, d1, Bool.false_eq_true, if_false, if_pos c, Int.toNat_natCast]
      exact iread_same l hl hw y (by omega) 6 k 0 0 (by omega) (by omega) (by simp)
theorem rv_ok (l : List Int) (hw : ∀ z ∈ l, 0 ≤ z ∧ z ≤ 255) (x : Nat) : ∀ (d i : Nat) (acc : Int), 0 ≤ acc → (rv l x d i acc).2.2 = true → 0 ≤ (rv l x d i acc).1 ∧ (rv l x d i acc).1 ≤ 1000000000000 ∧ ((x + i : Nat) : Int) < (rv l x d i acc).2.1 ∧ (rv l x d i acc).2.1 ≤ (l.length : Int) := by
  intro d
  induction d with
  | zero => intro i acc _ h; simp [rv] at h
  | succ d ih =>
    intro i acc ha h
    have hb := getD_mem_range l hw (x + i)
    have hn : 0 ≤ acc + l.getD (x + i) 0 % 128 * 128 ^ i := Int.add_nonneg ha (Int.mul_nonneg (by omega) (Int.le_of_lt (Int.pow_pos (by omega))))
    unfold rv at h ⊢
    by_cases h1 : l.length ≤ x + i
    · rw [if_pos h1] at h
      simp at h
    · rw [if_neg h1] at h ⊢
      by_cases hc : l.getD (x + i) 0 < 128
      · rw [if_pos hc] at h ⊢
        by_cases hz : (l.getD (x + i) 0 = 0 ∧ 0 < i) ∨ acc + l.getD (x + i) 0 % 128 * 128 ^ i > 1000000000000
        · rw [if_pos hz] at h
          simp at h
        · rw [if_neg hz]
          simp only
          refine ⟨hn, ?_, by omega, by omega⟩
          have := not_or.1 hz
          omega
      · rw [if_neg hc] at h ⊢
        have := ih (i + 1) _ hn h
        omega
theorem rdv_ok (l : List Int) (hw : ∀ z ∈ l, 0 ≤ z ∧ z ≤ 255) (x : Int) (h : (rdv l x).2.2 = true) : 0 ≤ (rdv l x).1 ∧ (rdv l x).1 ≤ 1000000000000 ∧ 0 ≤ x ∧ x < (rdv l x).2.1 ∧ (rdv l x).2.1 ≤ (l.length : Int) := by
  unfold rdv at h ⊢
  by_cases hx : 0 ≤ x ∧ x < (l.length : Int)
  · rw [if_pos hx] at h ⊢
    have := rv_ok l hw x.toNat 6 0 0 (by omega) h
    omega
  · rw [if_neg hx] at h
    simp at h
theorem grp_tab : ∀ r : Fin 128, (Go.bits .or .i64 (r.val : Int) 128) % 256 = (r.val : Int) + 128 ∧ Go.bits .or .u8 ((r.val : Int) % 256) 128 = (r.val : Int) + 128 := by decide +kernel
theorem grp_i (n : Int) (h0 : 0 ≤ n) (h1 : n < 2 ^ 63) : Go.bits .or .u8 ((Go.bits .and .i64 n 127) % 256) 128 = n % 128 + 128 := by
  rw [and127 n h0 h1]
  have h := (grp_tab ⟨(n % 128).toNat, by omega⟩).2
  simp only [Int.toNat_of_nonneg (show 0 ≤ n % 128 by omega)] at h
  exact h
def enc : Nat → Int → List Int
  | 0, n => [n % 256]
  | f + 1, n => if n > 127 then (n % 128 + 128) :: enc f (n / 128) else [n % 256]
theorem enc_length (f : Nat) : ∀ n : Int, 1 ≤ (enc f n).length ∧ (enc f n).length ≤ f + 1 := by
  induction f with
  | zero => intro n; simp [enc]
  | succ f ih =>
    intro n
    unfold enc
    split
    · have := ih (n / 128)
      simp only [List.length_cons]
      omega
    · simp
theorem iAppend_loop (f : Nat) : ∀ (k : Nat) (n : Int) (out : List Int), 0 ≤ n → n < 2 ^ 63 → n < 128 ^ (f + 1) → f < k → out.length + f < 70368744177664 → impl_AppendUvarint.l0 k n out = some (out ++ enc f n) := by
  induction f with
  | zero =>
    intro k n out h0 h63 h1 hk ho
    obtain ⟨k, rfl⟩ : ∃ m, k = m + 1 := ⟨k - 1, by omega⟩
    simp only [impl_AppendUvarint.l0]
    rw [if_neg (by omega), if_pos (by omega)]
    rfl
  | succ f ih =>
    intro k n out h0 h63 h1 hk ho
    obtain ⟨k, rfl⟩ : ∃ m, k = m + 1 := ⟨k - 1, by omega⟩
    simp only [impl_AppendUvarint.l0]
    rw [Int.pow_succ] at h1
    by_cases h : n > 127
    · rw [if_pos h, if_pos (by omega), grp_i n h0 h63, ih k (n / 128) _ (by omega) (by omega) (by generalize (128 : Int) ^ (f + 1) = P at *; omega) (by omega) (by simp; omega)]
      simp [enc, h]
    · rw [if_neg h, if_pos (by omega)]
      simp [enc, h]
/-- What both append. -/
def encd (l : List Int) (n : Int) : List Int := if inr n 0 1000000000000 = true then l ++ enc 5 n else l
theorem encd_length (l : List Int) (n : Int) : l.length ≤ (encd l n).length ∧ (encd l n).length ≤ l.length + 6 := by
  unfold encd
  split
  · have := enc_length 5 n
    simp only [List.length_append]
    omega
  · omega
theorem iAppend (k : Nat) (l : List Int) (n : Int) (hl : l.length ≤ 35184372088832) (hk : 6 < k) : impl_AppendUvarint.f k l n = some (encd l n) := by
  unfold impl_AppendUvarint.f encd
  simp only [Option.bind_some, inRange_eq, List.nil_append, List.length_nil]
  rw [if_pos (by omega)]
  by_cases h : inr n 0 1000000000000 = true
  · rw [if_pos h, if_pos h]
    rw [inr_iff] at h
    exact iAppend_loop 5 k n l (by omega) (by omega) (by omega) (by omega) (by omega)
  · rw [if_neg h, if_neg h]
theorem iAppendBytes (k : Nat) (l d : List Int) (hl : l.length ≤ 35184372088832) (hd : d.length ≤ 35184372088832) (hk : 6 < k) : impl_AppendBytes.f k l d = some (encd l (d.length : Int) ++ d) := by
  unfold impl_AppendBytes.f
  have := encd_length l (d.length : Int)
  rw [iAppend k l _ hl hk, Option.bind_some, if_pos (by omega)]
theorem enc_range (f : Nat) : ∀ n : Int, 0 ≤ n → ∀ z ∈ enc f n, 0 ≤ z ∧ z ≤ 255 := by
  induction f with
  | zero =>
    intro n h z hz
    simp only [enc, List.mem_singleton] at hz
    omega
  | succ f ih =>
    intro n h z hz
    unfold enc at hz
    by_cases c : n > 127
    · rw [if_pos c] at hz
      rcases List.mem_cons.1 hz with rfl | hz
      · omega
      · exact ih (n / 128) (by omega) z hz
    · rw [if_neg c] at hz
      simp only [List.mem_singleton] at hz
      omega
theorem encd_range (l : List Int) (n : Int) (hl : ∀ z ∈ l, 0 ≤ z ∧ z ≤ 255) : ∀ z ∈ encd l n, 0 ≤ z ∧ z ≤ 255 := by
  intro z hz
  unfold encd at hz
  by_cases c : inr n 0 1000000000000 = true
  · rw [if_pos c] at hz
    rw [inr_iff] at c
    rcases List.mem_append.1 hz with h | h
    · exact hl z h
    · exact enc_range 5 n c.1 z h
  · rw [if_neg c] at hz
    exact hl z hz
theorem getD_drop0 (L : List Int) (n : Nat) (c : Int) (r : List Int) (h : L.drop n = c :: r) : n < L.length ∧ L.getD n 0 = c ∧ L.drop (n + 1) = r := by
  have hn : n < L.length := by
    rcases Nat.lt_or_ge n L.length with h' | h'
    · exact h'
    · rw [List.drop_of_length_le h'] at h
      cases h
  rw [List.drop_eq_getElem_cons hn] at h
  obtain ⟨h1, h2⟩ := List.cons.inj h
  exact ⟨hn, by simp [List.getD_eq_getElem?_getD, hn, h1], h2⟩
theorem rv_enc2 (L : List Int) (x : Nat) (rest : List Int) (f : Nat) : ∀ (i : Nat) (acc m : Int), L.drop (x + i) = enc f m ++ rest → 0 ≤ m → m < 128 ^ (f + 1) → (i = 0 ∨ 0 < m) → acc + m * 128 ^ i ≤ 1000000000000 → rv L x (f + 1) i acc = (acc + m * 128 ^ i, ((x + i + (enc f m).length : Nat) : Int), true) := by
  induction f with
  | zero =>
    intro i acc m hL h0 hm hz ht
    simp only [enc] at hL
    have hm' : m < 128 := by simpa using hm
    rw [show m % 256 = m by omega] at hL
    obtain ⟨h1, h2, h3⟩ := getD_drop0 L (x + i) m rest hL
    unfold rv
    rw [if_neg (by omega), h2, if_pos hm', show m % 128 = m by omega, if_neg (by omega)]
    simp [enc]
  | succ f ih =>
    intro i acc m hL h0 hm hz ht
    unfold enc at hL ⊢
    by_cases c : m > 127
    · rw [if_pos c] at hL ⊢
      obtain ⟨h1, h2, h3⟩ := getD_drop0 L (x + i) _ _ hL
      have e : acc + m % 128 * 128 ^ i + m / 128 * 128 ^ (i + 1) = acc + m * 128 ^ i := by
        rw [pow128_succ]
        have hd : m = 128 * (m / 128) + m % 128 := by omega
        generalize hq : m / 128 = q at *
        generalize hr : m % 128 = r at *
        subst hd
        generalize (128 : Int) ^ i = P
        grind
      have hp : (128 : Int) ^ (f + 1 + 1) = 128 ^ (f + 1) * 128 := pow128_succ (f + 1)
      unfold rv
      rw [if_neg (by omega), h2, if_neg (by omega), show (m % 128 + 128) % 128 = m % 128 by omega]
      rw [ih (i + 1) (acc + m % 128 * 128 ^ i) (m / 128) h3 (by omega) (by generalize (128 : Int) ^ (f + 1) = P at *; omega) (Or.inr (by omega)) (by rw [e]; exact ht), e, List.length_cons]
      congr 3
      omega
    · rw [if_neg c] at hL ⊢
      rw [show m % 256 = m by omega] at hL
      obtain ⟨h1, h2, h3⟩ := getD_drop0 L (x + i) m rest hL
      unfold rv
      rw [if_neg (by omega), h2, if_pos (by omega), show m % 128 = m by omega, if_neg (by omega)]
      simp
theorem rdv_at (L : List Int) (x : Nat) (m : Int) (rest : List Int) (hL : L.drop x = enc 5 m ++ rest) (hm : 0 ≤ m ∧ m ≤ 1000000000000) : rdv L (x : Int) = (m, ((x + (enc 5 m).length : Nat) : Int), true) := by
  have hl := enc_length 5 m
  have hx : x < L.length := by
    rcases Nat.lt_or_ge x L.length with h | h
    · exact h
    · rw [List.drop_of_length_le h] at hL
      have := congrArg List.length hL
      rw [List.length_append, List.length_nil] at this
      omega
  unfold rdv
  rw [if_pos ⟨by omega, by omega⟩, Int.toNat_natCast]
  have h := rv_enc2 L x rest 5 0 0 m (by simpa using hL) hm.1 (by omega) (Or.inl rfl) (by simp; omega)
  rw [h]
  simp
theorem rdv_end (L : List Int) (x : Int) (h : (L.length : Int) ≤ x) : rdv L x = (0, 0, false) := by
  unfold rdv
  rw [if_neg (by omega)]
def rdb (l : List Int) (x m : Int) : List Int × Int × Bool :=
  if (rdv l x).2.2 = true ∧ ¬ (rdv l x).1 > m ∧ ¬ (rdv l x).1 > (l.length : Int) - (rdv l x).2.1 then (((l.take ((rdv l x).2.1 + (rdv l x).1).toNat).drop (rdv l x).2.1.toNat), (rdv l x).2.1 + (rdv l x).1, true) else ([], 0, false)
theorem ireadBytes (k : Nat) (l : List Int) (hl : l.length ≤ 4194304) (hw : ∀ z ∈ l, 0 ≤ z ∧ z ≤ 255) (x m : Int) (hk : 20 < k) : impl_ReadBytes.f k l x m = some (rdb l x m) := by
  have h2 := iread k l hl hw x hk
  have ok := rdv_ok l hw x
  unfold impl_ReadBytes.f rdb
  rw [h2]
  simp only [Option.bind_some]
  generalize rdv l x = r at ok ⊢
  obtain ⟨n, at', b⟩ := r
  simp only at ok ⊢
  cases b
  · simp
  · have o := ok rfl
    have w1 : wrap64 ((l.length : Int) - at') = (l.length : Int) - at' := wrap_id _ (by omega) (by omega)
    simp only [if_true, true_and, w1, List.nil_append, List.length_nil, Nat.zero_add]
    by_cases c1 : n > m
    · simp [c1]
    · by_cases c2 : n > (l.length : Int) - at'
      · simp [c1, c2]
      · have w2 : wrap64 (at' + n) = at' + n := wrap_id _ (by omega) (by omega)
        have c3 : 0 ≤ at' := by omega
        have c4 : at' ≤ at' + n := by omega
        have c5 : at' + n ≤ (l.length : Int) := by omega
        have c6 : ((l.take (at' + n).toNat).drop at'.toNat).length < 140737488355328 := by
          rw [List.length_drop, List.length_take]
          omega
        have c7 : ¬ n > m ∧ ¬ n > (l.length : Int) - at' := ⟨c1, c2⟩
        simp only [if_neg c1, if_neg c2, w2, if_pos c3, if_pos c4, if_pos c5, if_pos c6, if_pos c7]
def okc (b : List Int) (i : Int) : Prop := 0 ≤ i ∧ i ≤ (b.length : Int) ∧ b.length ≤ 1048576
theorem and255 (x : Int) : 0 ≤ Go.bits .and .i64 x 255 ∧ Go.bits .and .i64 x 255 ≤ 255 := by
  have e : Go.bits .and .i64 x 255 = IntKind.i64.wrap (((BitVec.ofInt 64 x &&& BitVec.ofInt 64 255).toNat : Nat) : Int) := rfl
  have h : (BitVec.ofInt 64 x &&& BitVec.ofInt 64 255).toNat ≤ 255 := by
    rw [BitVec.toNat_and]
    exact Nat.and_le_right
  rw [e, wraps_i64 _ (by omega) (by omega)]
  omega
theorem byte_ok (b : List Int) (i h : Int) (hi : okc b i) : ∃ r i' h', spec_l1Byte.f b i h = some (r, i', h') ∧ okc b i' ∧ 0 ≤ r ∧ r ≤ 255 := by
  unfold spec_l1Byte.f
  obtain ⟨h0, h1, h2⟩ := hi
  by_cases c : i < (b.length : Int)
  · rw [if_pos c, if_pos h0, wrap_id (i + 1) (by omega) (by omega)]
    exact ⟨_, _, _, rfl, ⟨by omega, by omega, h2⟩, and255 _⟩
  · rw [if_neg c]
    exact ⟨_, _, _, rfl, ⟨h0, h1, h2⟩, and255 _⟩
theorem below_ok (b : List Int) (i h n : Int) (hi : okc b i) : ∃ r i' h', spec_l1Below.f b i h n = some (r, i', h') ∧ okc b i' ∧ 0 ≤ r ∧ (0 < n → r < n) ∧ (n ≤ 0 → r = 0) := by
  unfold spec_l1Below.f
  by_cases c : n ≤ 0
  · rw [if_pos c]
    exact ⟨0, i, h, rfl, hi, by omega, by omega, fun _ => rfl⟩
  rw [if_neg c]
  by_cases c2 : n ≤ 256
  · obtain ⟨r, i', h', e, ho, hr⟩ := byte_ok b i h hi
    rw [if_pos c2, e, Option.bind_some, if_neg (by omega), Int.tmod_eq_emod_of_nonneg hr.1]
    exact ⟨_, _, _, rfl, ho, Int.emod_nonneg _ (by omega), fun hp => Int.emod_lt_of_pos _ hp, fun hn => by omega⟩
  · obtain ⟨r, i1, h1, e1, ho1, hr1⟩ := byte_ok b i h hi
    obtain ⟨r2, i2, h2, e2, ho2, hr2⟩ := byte_ok b i1 h1 ho1
    obtain ⟨r3, i3, h3, e3, ho3, hr3⟩ := byte_ok b i2 h2 ho2
    rw [if_neg c2, e1, Option.bind_some]
    simp only [e2, e3, Option.bind_some]
    rw [if_neg (by omega), wrap_id (r * 65536) (by omega) (by omega), wrap_id (r2 * 256) (by omega) (by omega), wrap_id (r * 65536 + r2 * 256) (by omega) (by omega), wrap_id (r * 65536 + r2 * 256 + r3) (by omega) (by omega), Int.tmod_eq_emod_of_nonneg (by omega)]
    exact ⟨_, _, _, rfl, ho3, Int.emod_nonneg _ (by omega), fun hp => Int.emod_lt_of_pos _ hp, fun hn => by omega⟩
theorem new_ok (k : Nat) (l : List Int) (hl : l.length ≤ 1048576) (hk : l.length < k) : ∃ h, spec_l1New.f k l = some (l, 0, h) := by
  have loop : ∀ (d k i : Nat) (h : Int), i + d = l.length → d < k → ∃ h', spec_l1New.l0 k l h (i : Int) = some (l, 0, h') := by
    intro d
    induction d with
    | zero =>
      intro k i h hi hk
      obtain ⟨k, rfl⟩ : ∃ m, k = m + 1 := ⟨k - 1, by omega⟩
      simp only [spec_l1New.l0]
      rw [if_neg (by omega)]
      exact ⟨h, rfl⟩
    | succ d ih =>
      intro k i h hi hk
      obtain ⟨k, rfl⟩ : ∃ m, k = m + 1 := ⟨k - 1, by omega⟩
      simp only [spec_l1New.l0]
      rw [if_pos (by omega)]
      by_cases c : (i : Int) < 4000
      · rw [if_pos c, if_pos (by omega), succ_at i l.length (by omega) (by omega)]
        exact ih k (i + 1) _ (by omega) (by omega)
      · rw [if_neg c]
        exact ⟨h, rfl⟩
  unfold spec_l1New.f
  exact loop l.length k 0 _ (by omega) hk
theorem okc_start (l : List Int) (hl : l.length ≤ 1048576) : okc l 0 := ⟨by omega, by omega, hl⟩
theorem bytes_ok (k : Nat) (b : List Int) (i h n : Int) (hi : okc b i) (hn : 0 ≤ n ∧ n ≤ 1000) (hk : n < (k : Int)) : ∃ r i' h', spec_l1Bytes.f k b i h n = some (r, i', h') ∧ okc b i' ∧ (r.length : Int) = n ∧ ∀ z ∈ r, 0 ≤ z ∧ z ≤ 255 := by
  have loop : ∀ (d k j : Nat) (acc : List Int) (i h : Int), (j : Int) + d = n → d < k → okc b i → acc.length = j → (∀ z ∈ acc, 0 ≤ z ∧ z ≤ 255) → ∃ r i' h', spec_l1Bytes.l0 k n acc (j : Int) b i h = some (r, i', h') ∧ okc b i' ∧ (r.length : Int) = n ∧ ∀ z ∈ r, 0 ≤ z ∧ z ≤ 255 := by
    intro d
    induction d with
    | zero =>
      intro k j acc i h hj hk ho ha hz
      obtain ⟨k, rfl⟩ : ∃ m, k = m + 1 := ⟨k - 1, by omega⟩
      simp only [spec_l1Bytes.l0]
      rw [if_neg (by omega)]
      exact ⟨_, _, _, rfl, ho, by omega, hz⟩
    | succ d ih =>
      intro k j acc i h hj hk ho ha hz
      obtain ⟨k, rfl⟩ : ∃ m, k = m + 1 := ⟨k - 1, by omega⟩
      obtain ⟨r, i', h', e, ho', hr⟩ := byte_ok b i h ho
      simp only [spec_l1Bytes.l0]
      rw [if_pos (by omega), e, Option.bind_some, if_pos (by omega), succ_at j 1000 (by omega) (by omega)]
      refine ih k (j + 1) _ i' h' (by omega) (by omega) ho' (by simp [ha]) ?_
      intro z hz'
      rcases List.mem_append.1 hz' with hm | hm
      · exact hz z hm
      · simp only [List.mem_singleton] at hm
        omega
  unfold spec_l1Bytes.f
  exact loop n.toNat k 0 [] i h (by omega) (by omega) hi rfl (by simp)
theorem laws_sameBytes_loop (l : List Int) (hl : l.length ≤ 4611686018427387904) : ∀ (d k i : Nat), i + d = l.length → d < k → laws_sameBytes.l0 k l l (i : Int) = some true := by
  intro d
  induction d with
  | zero =>
    intro k i hi hk
    obtain ⟨k, rfl⟩ : ∃ m, k = m + 1 := ⟨k - 1, by omega⟩
    simp only [laws_sameBytes.l0]
    rw [if_neg (by omega)]
  | succ d ih =>
    intro k i hi hk
    obtain ⟨k, rfl⟩ : ∃ m, k = m + 1 := ⟨k - 1, by omega⟩
    simp only [laws_sameBytes.l0]
    rw [if_pos (by omega), if_pos (by omega), if_pos (by omega), if_pos trivial, succ_at i l.length (by omega) hl]
    exact ih k (i + 1) (by omega) (by omega)
theorem laws_sameBytes_self (k : Nat) (l : List Int) (hk : l.length < k) (hl : l.length ≤ 4611686018427387904) : laws_sameBytes.f k l l = some true := by
  unfold laws_sameBytes.f
  rw [if_pos rfl]
  exact laws_sameBytes_loop l hl l.length k 0 (by omega) (by omega)
theorem laws_sameInts_loop (l : List Int) (hl : l.length ≤ 4611686018427387904) : ∀ (d k i : Nat), i + d = l.length → d < k → laws_sameInts.l0 k l l (i : Int) = some true := by
  intro d
  induction d with
  | zero =>
    intro k i hi hk
    obtain ⟨k, rfl⟩ : ∃ m, k = m + 1 := ⟨k - 1, by omega⟩
    simp only [laws_sameInts.l0]
    rw [if_neg (by omega)]
  | succ d ih =>
    intro k i hi hk
    obtain ⟨k, rfl⟩ : ∃ m, k = m + 1 := ⟨k - 1, by omega⟩
    simp only [laws_sameInts.l0]
    rw [if_pos (by omega), if_pos (by omega), if_pos (by omega), if_pos trivial, succ_at i l.length (by omega) hl]
    exact ih k (i + 1) (by omega) (by omega)
theorem laws_sameInts_self (k : Nat) (l : List Int) (hk : l.length < k) (hl : l.length ≤ 4611686018427387904) : laws_sameInts.f k l l = some true := by
  unfold laws_sameInts.f
  rw [if_pos rfl]
  exact laws_sameInts_loop l hl l.length k 0 (by omega) (by omega)
def E (l : List Int) : List Int := l.flatMap (enc 5)
def inside (l : List Int) : Prop := ∀ v ∈ l, 0 ≤ v ∧ v ≤ 1000000000000
theorem E_length (l : List Int) : (E l).length ≤ 6 * l.length := by
  induction l with
  | nil => simp [E]
  | cons v l ih =>
    have := enc_length 5 v
    simp only [E, List.flatMap_cons, List.length_append, List.length_cons] at ih ⊢
    omega
theorem E_range (l : List Int) (hl : inside l) : ∀ z ∈ E l, 0 ≤ z ∧ z ≤ 255 := by
  intro z hz
  obtain ⟨v, hv, hz⟩ := List.mem_flatMap.1 hz
  exact enc_range 5 v (hl v hv).1 z hz
theorem E_snoc (l : List Int) (v : Int) : E (l ++ [v]) = E l ++ enc 5 v := by simp [E]
theorem encode_loop (l : List Int) (hl : l.length ≤ 1000) (hv : inside l) : ∀ (d k i : Nat), i + d = l.length → d + 7 < k → impl_EncodeInts.l0 k (E (l.take i)) l (l.length : Int) (i : Int) = some (E l) := by
  intro d
  induction d with
  | zero =>
    intro k i hi hk
    obtain ⟨k, rfl⟩ : ∃ m, k = m + 1 := ⟨k - 1, by omega⟩
    simp only [impl_EncodeInts.l0]
    rw [if_neg (by omega), List.take_of_length_le (by omega)]
  | succ d ih =>
    intro k i hi hk
    obtain ⟨k, rfl⟩ : ∃ m, k = m + 1 := ⟨k - 1, by omega⟩
    have hil : i < l.length := by omega
    have hlen := E_length (l.take i)
    have h1 : (l.take i).length ≤ 1000 := by simp; omega
    have hx := hv _ (List.getElem_mem hil)
    simp only [impl_EncodeInts.l0]
    rw [if_pos (by omega), if_pos (by omega), if_pos (by omega), rd_at l i hil, iAppend k _ _ (by omega) (by omega), Option.bind_some, succ_at i l.length hil (by omega)]
    have e : encd (E (l.take i)) l[i] = E (l.take (i + 1)) := by
      rw [List.take_succ_eq_append_getElem hil, E_snoc]
      unfold encd
      rw [if_pos (by rw [inr_iff]; exact hx)]
    rw [e]
    exact ih k (i + 1) (by omega) (by omega)
theorem encode (k : Nat) (l : List Int) (hl : l.length ≤ 1000) (hv : inside l) (hk : l.length + 7 < k) : impl_EncodeInts.f k l = some (E l) := by
  unfold impl_EncodeInts.f
  exact encode_loop l hl hv l.length k 0 (by omega) hk
theorem decode_loop (e : List Int) (he : e.length ≤ 4194304) (hw : ∀ z ∈ e, 0 ≤ z ∧ z ≤ 255) (more : Bool) : ∀ (r : List Int) (k x i : Nat) (acc : List Int) (c : Int), e.drop x = E r → x ≤ e.length → inside r → acc.length = i → c = (i : Int) + r.length + (if more then 1 else 0) → c ≤ 200 → r.length + 22 < k →
    impl_DecodeInts.l0 k e (x : Int) acc c (i : Int) = some (if more then (([] : List Int), (0 : Int), false) else (acc ++ r, (e.length : Int), true)) := by
  intro r
  induction r with
  | nil =>
    intro k x i acc c hd hx hr ha hc hc2 hk
    obtain ⟨k, rfl⟩ : ∃ m, k = m + 1 := ⟨k - 1, by omega⟩
    have hxe : x = e.length := by
      have := congrArg List.length hd
      simp [E] at this
      omega
    simp only [impl_DecodeInts.l0]
    cases more
    · simp only [Bool.false_eq_true, if_false, List.length_nil] at hc
      rw [if_neg (by simp at hc; omega)]
      simp [hxe]
    · simp only [if_true, List.length_nil] at hc
      rw [if_pos (by simp at hc; omega), iread k e he hw _ (by omega), rdv_end e x (by omega), Option.bind_some]
      simp
  | cons v r ih =>
    intro k x i acc c hd hx hr ha hc hc2 hk
    obtain ⟨k, rfl⟩ : ∃ m, k = m + 1 := ⟨k - 1, by omega⟩
    have hv := hr v (by simp)
    have hd' : e.drop x = enc 5 v ++ E r := by rw [hd]; simp [E]
    have hlen := enc_length 5 v
    have hdl := congrArg List.length hd'
    rw [List.length_drop, List.length_append] at hdl
    simp only [List.length_cons] at hc hk
    have hif : (0 : Int) ≤ (if more then 1 else 0) := by split <;> omega
    simp only [impl_DecodeInts.l0]
    rw [if_pos (by omega), iread k e he hw _ (by omega), rdv_at e x v (E r) hd' hv, Option.bind_some]
    simp only [if_true]
    rw [if_pos (by omega), succ_at i 300 (by omega) (by omega)]
    rw [ih k (x + (enc 5 v).length) (i + 1) (acc ++ [v]) c (by rw [← List.drop_drop, hd']; simp) (by omega) (fun y hy => hr y (by simp [hy])) (by simp [ha]) (by omega) hc2 (by omega)]
    simp
theorem decode (k : Nat) (l : List Int) (hl : l.length ≤ 50) (hv : inside l) (more : Bool) (hk : l.length + 30 < k) : impl_DecodeInts.f k (E l) 0 ((l.length : Int) + (if more then 1 else 0)) = some (if more then (([] : List Int), (0 : Int), false) else (l, ((E l).length : Int), true)) := by
  obtain ⟨k, rfl⟩ : ∃ m, k = m + 1 := ⟨k - 1, by omega⟩
  have hlen := E_length l
  have hif : (0 : Int) ≤ (if more then 1 else 0) ∧ (if more then (1 : Int) else 0) ≤ 1 := by split <;> omega
  unfold impl_DecodeInts.f
  have c1 : inr ((l.length : Int) + (if more then 1 else 0)) 0 100 = true := by rw [inr_iff]; omega
  have c2 : inr 0 0 ((E l).length : Int) = true := by rw [inr_iff]; omega
  simp only [inRange_eq, Option.bind_some, c1, c2, if_true, Bool.not_true, impl_DecodeInts.j0, Bool.false_eq_true, if_false]
  have h := decode_loop (E l) (by omega) (E_range l hv) more l k 0 0 [] ((l.length : Int) + (if more then 1 else 0)) (by simp) (by omega) hv rfl (by omega) (by omega) (by omega)
  simpa using h
theorem at_ok (l : List Int) (hl : l.length ≤ 1048576) (hw : ∀ z ∈ l, 0 ≤ z ∧ z ≤ 255) (i : Nat) (hi : i ≤ 1000) : ∃ r, laws_at.f l (i : Int) = some r ∧ 0 ≤ r ∧ r ≤ 255 := by
  unfold laws_at.f
  by_cases h : (i : Int) < (l.length : Int)
  · have hb := hw _ (List.getElem_mem (show i < l.length by omega))
    rw [if_pos h, if_pos (by omega), rd_at l i (by omega), wrap_id _ (by omega) (by omega)]
    exact ⟨_, rfl, hb⟩
  · rw [if_neg h, wrap_id ((i : Int) * 31) (by omega) (by omega), wrap_id ((l.length : Int) * 7) (by omega) (by omega), wrap_id ((i : Int) * 31 + (l.length : Int) * 7) (by omega) (by omega), Int.tmod_eq_emod_of_nonneg (by omega)]
    exact ⟨_, rfl, by omega, by omega⟩
theorem build_loop (l : List Int) (hl : l.length ≤ 1048576) (hw : ∀ z ∈ l, 0 ≤ z ∧ z ≤ 255) (t : Int) (ht : laws_at.f l 0 = some t) (hr : 0 ≤ t ∧ t ≤ 255) : ∀ (d k i : Nat) (acc : List Int), (i : Int) + d = Int.tmod t 6 → d + 100 < k → acc.length = i → inside acc → laws_FnByteStrings.l0 k l acc (i : Int) = some true := by
  have h6 : Int.tmod t 6 ≤ 5 := by rw [Int.tmod_eq_emod_of_nonneg hr.1]; omega
  intro d
  induction d with
  | zero =>
    intro k i acc hi hk ha hv
    obtain ⟨k, rfl⟩ : ∃ m, k = m + 1 := ⟨k - 1, by omega⟩
    have h1 := decode k acc (by omega) hv false (by omega)
    have h2 := decode k acc (by omega) hv true (by omega)
    have hs := laws_sameInts_self k acc (by omega) (by omega)
    simp only [Bool.false_eq_true, if_false, Int.add_zero, if_true] at h1 h2
    simp only [laws_FnByteStrings.l0, ht, Option.bind_some]
    rw [if_neg (by omega), encode k acc (by omega) hv (by omega), Option.bind_some, h1, Option.bind_some, wrap_id ((acc.length : Int) + 1) (by omega) (by omega), h2]
    simp [hs]
  | succ d ih =>
    intro k i acc hi hk ha hv
    obtain ⟨k, rfl⟩ : ∃ m, k = m + 1 := ⟨k - 1, by omega⟩
    obtain ⟨a, a1, a2⟩ := at_ok l hl hw (i + 1) (by omega)
    obtain ⟨b, b1, b2⟩ := at_ok l hl hw (i + 2) (by omega)
    obtain ⟨c, c1, c2⟩ := at_ok l hl hw (i + 3) (by omega)
    have m0 : 0 ≤ a * b := Int.mul_nonneg a2.1 b2.1
    have m1 : a * b ≤ 255 * 255 := Int.mul_le_mul a2.2 b2.2 b2.1 (by omega)
    have m2 : 0 ≤ a * b * c := Int.mul_nonneg m0 c2.1
    have m3 : a * b * c ≤ 255 * 255 * 255 := Int.mul_le_mul m1 c2.2 c2.1 (by omega)
    simp only [laws_FnByteStrings.l0, ht, Option.bind_some]
    rw [if_pos (by omega), wrap_id ((i : Int) + 1) (by omega) (by omega), wrap_id ((i : Int) + 2) (by omega) (by omega), wrap_id ((i : Int) + 3) (by omega) (by omega)]
    have a1' : laws_at.f l ((i : Int) + 1) = some a := a1
    have b1' : laws_at.f l ((i : Int) + 2) = some b := b1
    have c1' : laws_at.f l ((i : Int) + 3) = some c := c1
    rw [a1', Option.bind_some, b1', Option.bind_some, c1', Option.bind_some, if_pos (by omega), wrap_id (a * b) (by omega) (by omega), wrap_id (a * b * c) (by omega) (by omega)]
    refine ih k (i + 1) _ (by omega) (by omega) (by simp [ha]) ?_
    intro v hv'
    rcases List.mem_append.1 hv' with hm | hm
    · exact hv v hm
    · simp only [List.mem_singleton] at hm
      omega
theorem main : laws_FnByteStrings.Pure := by
  intro l _ hw0
  have hw : ∀ z ∈ l, 0 ≤ z ∧ z ≤ 255 := fun z hz => u8_range (hw0 z hz)
  obtain ⟨K, hK⟩ : ∃ K, K = l.length + 200 := ⟨_, rfl⟩
  refine ⟨K + 1, ?_⟩
  unfold laws_FnByteStrings.f laws_big.f
  rw [Option.bind_some]
  by_cases h1 : (l.length : Int) > 1048576
  · rw [if_pos (by simp; omega)]
  rw [if_neg (by simp; omega)]
  obtain ⟨h, n1⟩ := new_ok (K + 1) l (by omega) (by omega)
  obtain ⟨n, i2, h2, n2, o2, q0, q1, _⟩ := below_ok l 0 h 3 (okc_start l (by omega))
  have q2 := q1 (by omega)
  obtain ⟨b, i3, h3, n3, o3, q3, q4⟩ := bytes_ok (K + 1) l i2 h2 n o2 (by omega) (by omega)
  obtain ⟨m, i4, h4, n4, o4, p0, p1, _⟩ := below_ok l i3 h3 6 o3
  have p2 := p1 (by omega)
  obtain ⟨c, i5, h5, n5, o5, p3, p4⟩ := bytes_ok (K + 1) l i4 h4 m o4 (by omega) (by omega)
  unfold spec_DrawAppendBytes.f
  simp only [n1, n2, n3, n4, n5, iAppendBytes (K + 1) b c (by omega) (by omega) (by omega), Option.bind_some]
  have hlen := encd_length b (c.length : Int)
  have e : encd b (c.length : Int) = b ++ enc 5 (c.length : Int) := by
    unfold encd
    rw [if_pos (by rw [inr_iff]; omega)]
  have hx : ∀ z ∈ encd b (c.length : Int) ++ c, 0 ≤ z ∧ z ≤ 255 := by
    intro z hz
    rcases List.mem_append.1 hz with hm | hm
    · exact encd_range b _ q4 z hm
    · exact p4 z hm
  have hrd : rdv (encd b (c.length : Int) ++ c) (b.length : Int) = ((c.length : Int), ((encd b (c.length : Int)).length : Int), true) := by
    rw [rdv_at _ b.length (c.length : Int) c (by rw [e]; simp) (by omega)]
    rw [e, List.length_append]
  have hL : ((encd b (c.length : Int) ++ c).length : Int) = ((encd b (c.length : Int)).length : Int) + (c.length : Int) := by rw [List.length_append]; omega
  have r1 : rdb (encd b (c.length : Int) ++ c) (b.length : Int) (c.length : Int) = (c, ((encd b (c.length : Int) ++ c).length : Int), true) := by
    unfold rdb
    rw [hrd]
    simp only
    rw [if_pos ⟨trivial, by omega, by omega⟩, hL]
    congr 1
    rw [List.take_of_length_le (by omega), show ((encd b (c.length : Int)).length : Int).toNat = (encd b (c.length : Int)).length by omega]
    simp
  have r2 : rdb (encd b (c.length : Int) ++ c) (b.length : Int) ((c.length : Int) - 1) = ([], 0, false) := by
    unfold rdb
    rw [hrd]
    simp only
    rw [if_neg (fun hh => hh.2.1 (by omega))]
  have hbig : (encd b (c.length : Int) ++ c).length ≤ 4194304 := by omega
  rw [ireadBytes (K + 1) _ hbig hx _ _ (by omega), r1, Option.bind_some, wrap_id ((c.length : Int) - 1) (by omega) (by omega), ireadBytes (K + 1) _ hbig hx _ _ (by omega), r2, Option.bind_some]
  simp only [if_true, laws_sameBytes_self (K + 1) c (by omega) (by omega), Option.bind_some, laws_FnByteStrings.j0, Bool.false_eq_true, if_false]
  obtain ⟨t, t1, t2⟩ := at_ok l (by omega) hw 0 (by omega)
  have t3 : (0 : Int) ≤ Int.tmod t 6 ∧ Int.tmod t 6 ≤ 5 := by rw [Int.tmod_eq_emod_of_nonneg t2.1]; omega
  exact build_loop l (by omega) hw t t1 t2 (Int.tmod t 6).toNat K 0 [] (by omega) (by omega) rfl (by intro v hv; simp at hv)

end Go.Proofs.Ytoocbgjcigadfac.PureFnByteStrings
namespace Go.Proofs.Ytoocbgjcigadfac.Pure
/-- The pure statement. -/
theorem FnByteStrings : Go.Proofs.Ytoocbgjcigadfac.PureFnByteStrings.laws_FnByteStrings.Pure := Go.Proofs.Ytoocbgjcigadfac.PureFnByteStrings.main
end Go.Proofs.Ytoocbgjcigadfac.Pure

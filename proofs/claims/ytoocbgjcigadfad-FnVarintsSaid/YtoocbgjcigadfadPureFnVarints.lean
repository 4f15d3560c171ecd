/- The printed law FnVarints, as a function of numbers and lists, answers true for all arguments that a call can be given; no conditions beyond the sizes that memory allows. -/
import Derived.Test.YtoocbgjcigadfadWkFnVarintsx4
namespace Go.Proofs.Ytoocbgjcigadfad.PureFnVarints
open Go.RowKit Go.Proofs.Ytoocbgjcigadfad.PFnVarints Go.Proofs.YtoocbgjcigadfadW.PrintWords Go.Proofs.YtoocbgjcigadfadW.PrintLast Go.Proofs.YtoocbgjcigadfadW.PrintMore
set_option linter.unusedVariables false
set_option linter.unusedSimpArgs false

/-- The pure statement of laws_FnVarints, typed by lawfill.py as print.sh types it where it does. -/
def laws_FnVarints.Pure : Prop := ∀ (l0 : List Int), l0.length ≤ maxLen → (∀ x ∈ l0, (Lit.int .u8 x).wf = true) → ∃ k, laws_FnVarints.f k l0 = some true

def inr (a b c : Int) : Bool := decide (b ≤ a) && decide (a ≤ c)
theorem inr_iff (a b c : Int) : inr a b c = true ↔ b ≤ a ∧ a ≤ c := by unfold inr; simp
theorem l1In_eq (a b c : Int) : spec_l1In.f a b c = some (inr a b c) := by
  unfold spec_l1In.f inr
  by_cases h : b ≤ a <;> simp [h]
theorem inRange_eq (a b c : Int) : impl_InRange.f a b c = some (inr a b c) := by
  unfold impl_InRange.f inr
  by_cases h : b ≤ a <;> simp [h]
theorem rd_at (xs : List Int) (i : Nat) (h : i < xs.length) : rd xs (i : Int) = xs[i] := by
  unfold rd
  simp [List.getD_eq_getElem?_getD, h]
theorem succ_at (i n : Nat) (h : i < n) (hn : n ≤ 4611686018427387904) : wrap64 ((i : Int) + 1) = ((i + 1 : Nat) : Int) := by
  unfold wrap64
  omega
theorem wrap_id (n : Int) (h0 : -9223372036854775808 ≤ n) (h1 : n ≤ 9223372036854775807) : wrap64 n = n := by
  unfold wrap64
  omega
theorem u8_range {z : Int} (h : (Lit.int .u8 z).wf = true) : 0 ≤ z ∧ z ≤ 255 := by
  simp only [Lit.wf, Bool.and_eq_true, decide_eq_true_eq] at h
  have e1 : IntKind.u8.min = 0 := by decide
  have e2 : IntKind.u8.max = 255 := by decide
  omega
theorem i64_range {z : Int} (h : (Lit.int .i64 z).wf = true) : -9223372036854775808 ≤ z ∧ z ≤ 9223372036854775807 := by
  simp only [Lit.wf, Bool.and_eq_true, decide_eq_true_eq] at h
  have e1 : IntKind.i64.min = -9223372036854775808 := by decide
  have e2 : IntKind.i64.max = 9223372036854775807 := by decide
  omega
theorem wraps_i64 (n : Int) (h0 : 0 ≤ n) (h1 : n < 2 ^ 63) : IntKind.i64.wrap n = n := by
  rw [IntKind.wrap_i64]
  omega
theorem and127 (n : Int) (h0 : 0 ≤ n) (h1 : n < 2 ^ 63) : Go.bits .and .i64 n 127 = n % 128 :=
  bits_mask .i64 63 (by decide) wraps_i64 7 (by decide) n h0 h1
theorem and127b (n : Int) (h0 : 0 ≤ n) (h1 : n < 2 ^ 8) : Go.bits .and .u8 n 127 = n % 128 :=
  bits_mask .u8 8 (by decide) wraps_u8 7 (by decide) n h0 h1
theorem bits_or_comm (k : IntKind) (x y : Int) : Go.bits .or k x y = Go.bits .or k y x := by
  simp only [Go.bits]
  rw [BitVec.or_comm]
theorem pow128 (i : Nat) (hi : i < 6) : 0 < (128 : Int) ^ i ∧ (128 : Int) ^ i ≤ 34359738368 := by
  rcases (by omega : i = 0 ∨ i = 1 ∨ i = 2 ∨ i = 3 ∨ i = 4 ∨ i = 5) with rfl | rfl | rfl | rfl | rfl | rfl <;> decide
theorem pow128_succ (i : Nat) : (128 : Int) ^ (i + 1) = 128 ^ i * 128 := Int.pow_succ ..
theorem or_step (acc c : Int) (i : Nat) (hi : i < 6) (ha : 0 ≤ acc ∧ acc < 128 ^ i) (hc : 0 ≤ c ∧ c < 128) : Go.bits .or .i64 acc (shl .i64 c (7 * (i : Int))) = acc + c * 128 ^ i := by
  have hp := pow128 i hi
  have h2 : (2 : Int) ^ (7 * i) = 128 ^ i := by rw [Int.pow_mul]; rfl
  have hm : min (7 * (i : Int)).toNat IntKind.i64.bits = 7 * i := by
    have : IntKind.i64.bits = 64 := rfl
    omega
  unfold shl
  rw [hm, h2]
  generalize hP : (128 : Int) ^ i = P at *
  have m1 : 0 ≤ c * P := Int.mul_nonneg hc.1 (by omega)
  have m2 : c * P ≤ 127 * P := Int.mul_le_mul_of_nonneg_right (by omega) (by omega)
  rw [wraps_i64 (c * P) m1 (by omega), bits_or_comm, bits_join .i64 63 (by decide) wraps_i64 (7 * i) (c * P) acc m1 (by rw [h2]; exact Int.mul_emod_left c P) (by omega) ha.1 (by rw [h2]; exact ha.2) (by omega)]
  omega
/-- What both readers come to, from place i on. -/
def rv (l : List Int) (x : Nat) : Nat → Nat → Int → Int × Int × Bool
  | 0, _, _ => (0, 0, false)
  | d + 1, i, acc => if l.length ≤ x + i then (0, 0, false) else
    if l.getD (x + i) 0 < 128 then
      (if (l.getD (x + i) 0 = 0 ∧ 0 < i) ∨ acc + l.getD (x + i) 0 % 128 * 128 ^ i > 1000000000000 then (0, 0, false) else (acc + l.getD (x + i) 0 % 128 * 128 ^ i, (x : Int) + (i : Int) + 1, true))
    else rv l x d (i + 1) (acc + l.getD (x + i) 0 % 128 * 128 ^ i)
theorem rd_getD (l : List Int) (n : Nat) : rd l (n : Int) = l.getD n 0 := by
  unfold rd
  simp
theorem rd_add (l : List Int) (x i : Nat) : rd l ((x : Int) + (i : Int)) = l.getD (x + i) 0 := rd_getD l (x + i)
theorem getD_mem_range (l : List Int) (hw : ∀ z ∈ l, 0 ≤ z ∧ z ≤ 255) (n : Nat) : 0 ≤ l.getD n 0 ∧ l.getD n 0 ≤ 255 := by
  rcases Nat.lt_or_ge n l.length with h | h
  · have e : l.getD n 0 = l[n] := by simp [List.getD_eq_getElem?_getD, h]
    rw [e]
    exact hw _ (List.getElem_mem h)
  · have e : l.getD n 0 = 0 := by simp [List.getD_eq_getElem?_getD, h]
    omega
theorem read_same (l : List Int) (hl : l.length ≤ 4194304) (hw : ∀ z ∈ l, 0 ≤ z ∧ z ≤ 255) (x : Nat) (hx : x < l.length) : ∀ (d k k' i : Nat) (acc : Int), i + d = 6 → 2 * d + 2 < k → d < k' → 0 ≤ acc ∧ acc < 128 ^ i →
    spec_ReadUvarint.l0 k l (x : Int) acc (i : Int) = some (rv l x d i acc) ∧ impl_ReadUvarint.l0 k' l (x : Int) acc (i : Int) = some (rv l x d i acc) := by
  intro d
  induction d with
  | zero =>
    intro k k' i acc hi hk hk' ha
    obtain ⟨k, rfl⟩ : ∃ m, k = m + 1 := ⟨k - 1, by omega⟩
    obtain ⟨k', rfl⟩ : ∃ m, k' = m + 1 := ⟨k' - 1, by omega⟩
    simp only [spec_ReadUvarint.l0, impl_ReadUvarint.l0]
    rw [if_neg (by omega), if_neg (by omega)]
    exact ⟨rfl, rfl⟩
  | succ d ih =>
    intro k k' i acc hi hk hk' ha
    obtain ⟨k, rfl⟩ : ∃ m, k = m + 2 := ⟨k - 2, by omega⟩
    obtain ⟨k', rfl⟩ : ∃ m, k' = m + 1 := ⟨k' - 1, by omega⟩
    have hb := getD_mem_range l hw (x + i)
    simp only [spec_ReadUvarint.l0, spec_ReadUvarint.j1, impl_ReadUvarint.l0, wrap_id ((x : Int) + (i : Int)) (by omega) (by omega), wrap_id ((l.length : Int) - (i : Int)) (by omega) (by omega), wrap_id (7 * (i : Int)) (by omega) (by omega), wrap_id ((x : Int) + (i : Int) + 1) (by omega) (by omega), succ_at i 6 (by omega) (by omega), rd_add, rv]
    generalize l.getD (x + i) 0 = b at hb ⊢
    have p1 := pow128 i (by omega)
    have hn : 0 ≤ acc + b % 128 * 128 ^ i ∧ acc + b % 128 * 128 ^ i < 128 ^ (i + 1) := by
      rw [pow128_succ]
      have m1 : 0 ≤ b % 128 * 128 ^ i := Int.mul_nonneg (by omega) (by omega)
      have m2 : b % 128 * 128 ^ i ≤ 127 * 128 ^ i := Int.mul_le_mul_of_nonneg_right (by omega) (by omega)
      generalize b % 128 * 128 ^ i = Q at *
      generalize (128 : Int) ^ i = P at *
      omega
    rw [wrap_id b (by omega) (by omega), and127 b (by omega) (by omega), and127b b (by omega) (by omega), wrap_id (b % 128) (by omega) (by omega), or_step acc (b % 128) i (by omega) ha (by omega)]
    generalize acc + b % 128 * 128 ^ i = acc' at hn ⊢
    have c1 : (i : Int) < 6 := by omega
    have c2 : ¬ (x : Int) < 0 := by omega
    have c3 : (0 : Int) ≤ (x : Int) + (i : Int) := by omega
    have c4 : (0 : Int) ≤ 7 * (i : Int) := by omega
    simp only [if_pos c1, if_neg c2, if_pos c3, if_pos c4]
    by_cases h : l.length ≤ x + i
    · have d1 : decide ((x : Int) ≥ (l.length : Int) - (i : Int)) = true := by simp; omega
      have d2 : (x : Int) + (i : Int) ≥ (l.length : Int) := by omega
      simp only [d1, if_pos d2, if_pos h, if_true, and_self]
    · have d1 : decide ((x : Int) ≥ (l.length : Int) - (i : Int)) = false := by simp; omega
      have d2 : ¬ (x : Int) + (i : Int) ≥ (l.length : Int) := by omega
      have d3 : (x : Int) + (i : Int) < (l.length : Int) := by omega
      simp only [d1, if_neg d2, if_neg h, if_pos d3, Bool.false_eq_true, if_false]
      by_cases hc : b < 128
      · simp only [if_pos hc]
        by_cases hz : b = 0 <;> by_cases hp : 0 < i <;> by_cases hm : acc' > 1000000000000 <;> simp [hz, hp, hm]
      · simp only [if_neg hc]
        exact ih k k' (i + 1) acc' (by omega) (by omega) (by omega) hn
/-- What both readers give. -/
def rdv (l : List Int) (x : Int) : Int × Int × Bool := if 0 ≤ x ∧ x < (l.length : Int) then rv l x.toNat 6 0 0 else (0, 0, false)
theorem read_both (k : Nat) (l : List Int) (hl : l.length ≤ 4194304) (hw : ∀ z ∈ l, 0 ≤ z ∧ z ≤ 255) (x : Int) (hx : -9223372036854775808 ≤ x ∧ x ≤ 9223372036854775807) (hk : 20 < k) :
    spec_ReadUvarint.f k l x = some (rdv l x) ∧ impl_ReadUvarint.f k l x = some (rdv l x) := by
  unfold spec_ReadUvarint.f impl_ReadUvarint.f rdv
  by_cases h0 : x < 0
  · obtain ⟨k, rfl⟩ : ∃ m, k = m + 2 := ⟨k - 2, by omega⟩
    rw [if_neg (fun h => by omega)]
    simp only [if_pos h0, spec_ReadUvarint.l0, spec_ReadUvarint.j1, impl_ReadUvarint.j0, if_true, if_pos (show (0 : Int) < 6 by omega), and_self]
  · obtain ⟨y, rfl⟩ := Int.eq_ofNat_of_zero_le (show 0 ≤ x by omega)
    by_cases h1 : l.length ≤ y
    · obtain ⟨k, rfl⟩ : ∃ m, k = m + 2 := ⟨k - 2, by omega⟩
      have w2 : wrap64 ((l.length : Int) - 0) = (l.length : Int) := by rw [wrap_id _ (by omega) (by omega)]; omega
      have d1 : decide ((y : Int) ≥ (l.length : Int)) = true := by simp; omega
      rw [if_neg (fun h => by omega)]
      simp only [if_neg h0, spec_ReadUvarint.l0, spec_ReadUvarint.j1, impl_ReadUvarint.j0, if_pos (show (0 : Int) < 6 by omega), w2, d1, if_true, and_self]
    · obtain ⟨k, rfl⟩ : ∃ m, k = m + 1 := ⟨k - 1, by omega⟩
      have d1 : decide ((y : Int) ≥ (l.length : Int)) = false := by simp; omega
      rw [if_pos ⟨by omega, by omega⟩]
      simp only [if_neg h0, impl_ReadUvarint.j0, d1, Bool.false_eq_true, if_false, Int.toNat_natCast]
      exact read_same l hl hw y (by omega) 6 (k + 1) k 0 0 (by omega) (by omega) (by omega) (by simp)
theorem rv_ok (l : List Int) (hw : ∀ z ∈ l, 0 ≤ z ∧ z ≤ 255) (x : Nat) : ∀ (d i : Nat) (acc : Int), 0 ≤ acc → (rv l x d i acc).2.2 = true → 0 ≤ (rv l x d i acc).1 ∧ (rv l x d i acc).1 ≤ 1000000000000 ∧ ((x + i : Nat) : Int) < (rv l x d i acc).2.1 ∧ (rv l x d i acc).2.1 ≤ (l.length : Int) := by
  intro d
  induction d with
  | zero => intro i acc _ h; simp [rv] at h
  | succ d ih =>
    intro i acc ha h
    have hb := getD_mem_range l hw (x + i)
    have hn : 0 ≤ acc + l.getD (x + i) 0 % 128 * 128 ^ i := Int.add_nonneg ha (Int.mul_nonneg (by omega) (Int.le_of_lt (Int.pow_pos (by omega))))
    unfold rv at h ⊢
    by_cases h1 : l.length ≤ x + i
    · rw [if_pos h1] at h
      simp at h
    · rw [if_neg h1] at h ⊢
      by_cases hc : l.getD (x + i) 0 < 128
      · rw [if_pos hc] at h ⊢
        by_cases hz : (l.getD (x + i) 0 = 0 ∧ 0 < i) ∨ acc + l.getD (x + i) 0 % 128 * 128 ^ i > 1000000000000
        · rw [if_pos hz] at h
          simp at h
        · rw [if_neg hz]
          simp only
          refine ⟨hn, ?_, by omega, by omega⟩
          have := not_or.1 hz
          omega
      · rw [if_neg hc] at h ⊢
        have := ih (i + 1) _ hn h
        omega
theorem rdv_ok (l : List Int) (hw : ∀ z ∈ l, 0 ≤ z ∧ z ≤ 255) (x : Int) (h : (rdv l x).2.2 = true) : 0 ≤ (rdv l x).1 ∧ (rdv l x).1 ≤ 1000000000000 ∧ 0 ≤ x ∧ x < (rdv l x).2.1 ∧ (rdv l x).2.1 ≤ (l.length : Int) := by
  unfold rdv at h ⊢
  by_cases hx : 0 ≤ x ∧ x < (l.length : Int)
  · rw [if_pos hx] at h ⊢
    have := rv_ok l hw x.toNat 6 0 0 (by omega) h
    omega
  · rw [if_neg hx] at h
    simp at h
theorem grp_tab : ∀ r : Fin 128, (Go.bits .or .i64 (r.val : Int) 128) % 256 = (r.val : Int) + 128 ∧ Go.bits .or .u8 ((r.val : Int) % 256) 128 = (r.val : Int) + 128 := by decide +kernel
theorem grp_s (n : Int) (h0 : 0 ≤ n) (h1 : n < 2 ^ 63) : (Go.bits .or .i64 (Go.bits .and .i64 n 127) 128) % 256 = n % 128 + 128 := by
  rw [and127 n h0 h1]
  have h := (grp_tab ⟨(n % 128).toNat, by omega⟩).1
  simp only [Int.toNat_of_nonneg (show 0 ≤ n % 128 by omega)] at h
  exact h
theorem grp_i (n : Int) (h0 : 0 ≤ n) (h1 : n < 2 ^ 63) : Go.bits .or .u8 ((Go.bits .and .i64 n 127) % 256) 128 = n % 128 + 128 := by
  rw [and127 n h0 h1]
  have h := (grp_tab ⟨(n % 128).toNat, by omega⟩).2
  simp only [Int.toNat_of_nonneg (show 0 ≤ n % 128 by omega)] at h
  exact h
def enc : Nat → Int → List Int
  | 0, n => [n % 256]
  | f + 1, n => if n > 127 then (n % 128 + 128) :: enc f (n / 128) else [n % 256]
theorem enc_length (f : Nat) : ∀ n : Int, 1 ≤ (enc f n).length ∧ (enc f n).length ≤ f + 1 := by
  induction f with
  | zero => intro n; simp [enc]
  | succ f ih =>
    intro n
    unfold enc
    split
    · have := ih (n / 128)
      simp only [List.length_cons]
      omega
    · simp
theorem sAppend_loop (f : Nat) : ∀ (k : Nat) (n : Int) (out : List Int), 0 ≤ n → n < 2 ^ 63 → n < 128 ^ (f + 1) → f < k → out.length + f < 70368744177664 → spec_AppendUvarint.l0 k n out = some (out ++ enc f n) := by
  induction f with
  | zero =>
    intro k n out h0 h63 h1 hk ho
    obtain ⟨k, rfl⟩ : ∃ m, k = m + 1 := ⟨k - 1, by omega⟩
    simp only [spec_AppendUvarint.l0]
    rw [if_neg (by omega), if_pos (by omega)]
    rfl
  | succ f ih =>
    intro k n out h0 h63 h1 hk ho
    obtain ⟨k, rfl⟩ : ∃ m, k = m + 1 := ⟨k - 1, by omega⟩
    simp only [spec_AppendUvarint.l0]
    rw [Int.pow_succ] at h1
    by_cases h : n > 127
    · rw [if_pos h, if_pos (by omega), grp_s n h0 h63, ih k (n / 128) _ (by omega) (by omega) (by generalize (128 : Int) ^ (f + 1) = P at *; omega) (by omega) (by simp; omega)]
      simp [enc, h]
    · rw [if_neg h, if_pos (by omega)]
      simp [enc, h]
theorem iAppend_loop (f : Nat) : ∀ (k : Nat) (n : Int) (out : List Int), 0 ≤ n → n < 2 ^ 63 → n < 128 ^ (f + 1) → f < k → out.length + f < 70368744177664 → impl_AppendUvarint.l0 k n out = some (out ++ enc f n) := by
  induction f with
  | zero =>
    intro k n out h0 h63 h1 hk ho
    obtain ⟨k, rfl⟩ : ∃ m, k = m + 1 := ⟨k - 1, by omega⟩
    simp only [impl_AppendUvarint.l0]
    rw [if_neg (by omega), if_pos (by omega)]
    rfl
  | succ f ih =>
    intro k n out h0 h63 h1 hk ho
    obtain ⟨k, rfl⟩ : ∃ m, k = m + 1 := ⟨k - 1, by omega⟩
    simp only [impl_AppendUvarint.l0]
    rw [Int.pow_succ] at h1
    by_cases h : n > 127
    · rw [if_pos h, if_pos (by omega), grp_i n h0 h63, ih k (n / 128) _ (by omega) (by omega) (by generalize (128 : Int) ^ (f + 1) = P at *; omega) (by omega) (by simp; omega)]
      simp [enc, h]
    · rw [if_neg h, if_pos (by omega)]
      simp [enc, h]
/-- What both append. -/
def encd (l : List Int) (n : Int) : List Int := if inr n 0 1000000000000 = true then l ++ enc 5 n else l
theorem encd_length (l : List Int) (n : Int) : l.length ≤ (encd l n).length ∧ (encd l n).length ≤ l.length + 6 := by
  unfold encd
  split
  · have := enc_length 5 n
    simp only [List.length_append]
    omega
  · omega
theorem sAppend (k : Nat) (l : List Int) (n : Int) (hl : l.length ≤ 35184372088832) (hk : 6 < k) : spec_AppendUvarint.f k l n = some (encd l n) := by
  unfold spec_AppendUvarint.f encd
  simp only [Option.bind_some, l1In_eq, List.nil_append, List.length_nil]
  rw [if_pos (by omega)]
  by_cases h : inr n 0 1000000000000 = true
  · rw [if_pos h, if_pos h]
    rw [inr_iff] at h
    exact sAppend_loop 5 k n l (by omega) (by omega) (by omega) (by omega) (by omega)
  · rw [if_neg h, if_neg h]
theorem iAppend (k : Nat) (l : List Int) (n : Int) (hl : l.length ≤ 35184372088832) (hk : 6 < k) : impl_AppendUvarint.f k l n = some (encd l n) := by
  unfold impl_AppendUvarint.f encd
  simp only [Option.bind_some, inRange_eq, List.nil_append, List.length_nil]
  rw [if_pos (by omega)]
  by_cases h : inr n 0 1000000000000 = true
  · rw [if_pos h, if_pos h]
    rw [inr_iff] at h
    exact iAppend_loop 5 k n l (by omega) (by omega) (by omega) (by omega) (by omega)
  · rw [if_neg h, if_neg h]
theorem enc_range (f : Nat) : ∀ n : Int, 0 ≤ n → ∀ z ∈ enc f n, 0 ≤ z ∧ z ≤ 255 := by
  induction f with
  | zero =>
    intro n h z hz
    simp only [enc, List.mem_singleton] at hz
    omega
  | succ f ih =>
    intro n h z hz
    unfold enc at hz
    by_cases c : n > 127
    · rw [if_pos c] at hz
      rcases List.mem_cons.1 hz with rfl | hz
      · omega
      · exact ih (n / 128) (by omega) z hz
    · rw [if_neg c] at hz
      simp only [List.mem_singleton] at hz
      omega
theorem encd_range (l : List Int) (n : Int) (hl : ∀ z ∈ l, 0 ≤ z ∧ z ≤ 255) : ∀ z ∈ encd l n, 0 ≤ z ∧ z ≤ 255 := by
  intro z hz
  unfold encd at hz
  by_cases c : inr n 0 1000000000000 = true
  · rw [if_pos c] at hz
    rw [inr_iff] at c
    rcases List.mem_append.1 hz with h | h
    · exact hl z h
    · exact enc_range 5 n c.1 z h
  · rw [if_neg c] at hz
    exact hl z hz
theorem getD_drop0 (L : List Int) (n : Nat) (c : Int) (r : List Int) (h : L.drop n = c :: r) : n < L.length ∧ L.getD n 0 = c ∧ L.drop (n + 1) = r := by
  have hn : n < L.length := by
    rcases Nat.lt_or_ge n L.length with h' | h'
    · exact h'
    · rw [List.drop_of_length_le h'] at h
      cases h
  rw [List.drop_eq_getElem_cons hn] at h
  obtain ⟨h1, h2⟩ := List.cons.inj h
  exact ⟨hn, by simp [List.getD_eq_getElem?_getD, hn, h1], h2⟩
/-- What was encoded is read. -/
theorem rv_enc (L : List Int) (x : Nat) (f : Nat) : ∀ (i : Nat) (acc m : Int), L.drop (x + i) = enc f m → 0 ≤ m → m < 128 ^ (f + 1) → (i = 0 ∨ 0 < m) → acc + m * 128 ^ i ≤ 1000000000000 → rv L x (f + 1) i acc = (acc + m * 128 ^ i, (L.length : Int), true) := by
  induction f with
  | zero =>
    intro i acc m hL h0 hm hz ht
    simp only [enc] at hL
    have hm' : m < 128 := by simpa using hm
    rw [show m % 256 = m by omega] at hL
    obtain ⟨h1, h2, h3⟩ := getD_drop0 L (x + i) m [] hL
    have hlen : L.length ≤ x + i + 1 := by
      rcases Nat.lt_or_ge (x + i + 1) L.length with h | h
      · rw [List.drop_eq_getElem_cons h] at h3
        cases h3
      · exact h
    unfold rv
    rw [if_neg (by omega), h2, if_pos hm', show m % 128 = m by omega, if_neg (by omega), show ((x : Int) + (i : Int) + 1) = (L.length : Int) by omega]
  | succ f ih =>
    intro i acc m hL h0 hm hz ht
    unfold enc at hL
    by_cases c : m > 127
    · rw [if_pos c] at hL
      obtain ⟨h1, h2, h3⟩ := getD_drop0 L (x + i) _ _ hL
      have e : acc + m % 128 * 128 ^ i + m / 128 * 128 ^ (i + 1) = acc + m * 128 ^ i := by
        rw [pow128_succ]
        have hd : m = 128 * (m / 128) + m % 128 := by omega
        generalize hq : m / 128 = q at *
        generalize hr : m % 128 = r at *
        subst hd
        generalize (128 : Int) ^ i = P
        grind
      have hp : (128 : Int) ^ (f + 1 + 1) = 128 ^ (f + 1) * 128 := pow128_succ (f + 1)
      unfold rv
      rw [if_neg (by omega), h2, if_neg (by omega), show (m % 128 + 128) % 128 = m % 128 by omega]
      rw [ih (i + 1) (acc + m % 128 * 128 ^ i) (m / 128) h3 (by omega) (by generalize (128 : Int) ^ (f + 1) = P at *; omega) (Or.inr (by omega)) (by rw [e]; exact ht), e]
    · rw [if_neg c, show m % 256 = m by omega] at hL
      obtain ⟨h1, h2, h3⟩ := getD_drop0 L (x + i) m [] hL
      have hlen : L.length ≤ x + i + 1 := by
        rcases Nat.lt_or_ge (x + i + 1) L.length with h | h
        · rw [List.drop_eq_getElem_cons h] at h3
          cases h3
        · exact h
      unfold rv
      rw [if_neg (by omega), h2, if_pos (by omega), show m % 128 = m by omega, if_neg (by omega), show ((x : Int) + (i : Int) + 1) = (L.length : Int) by omega]
/-- What is read is the encoding of what it is read as. -/
theorem enc_rv (L : List Int) (hw : ∀ z ∈ L, 0 ≤ z ∧ z ≤ 255) (x : Nat) (f : Nat) : ∀ (i : Nat) (acc v at' : Int), rv L x (f + 1) i acc = (v, at', true) → ∃ m : Int, 0 ≤ m ∧ v = acc + m * 128 ^ i ∧ (0 < i → 0 < m) ∧ (L.take at'.toNat).drop (x + i) = enc f m ∧ ((x + i : Nat) : Int) < at' := by
  induction f with
  | zero =>
    intro i acc v at' h
    have hb := getD_mem_range L hw (x + i)
    unfold rv at h
    by_cases h1 : L.length ≤ x + i
    · rw [if_pos h1] at h
      simp at h
    rw [if_neg h1] at h
    by_cases hc : L.getD (x + i) 0 < 128
    · rw [if_pos hc] at h
      by_cases hz : (L.getD (x + i) 0 = 0 ∧ 0 < i) ∨ acc + L.getD (x + i) 0 % 128 * 128 ^ i > 1000000000000
      · rw [if_pos hz] at h
        simp at h
      · rw [if_neg hz] at h
        simp only [Prod.mk.injEq, and_true] at h
        obtain ⟨rfl, rfl⟩ := h
        have hz2 := (not_or.1 hz).1
        refine ⟨L.getD (x + i) 0, hb.1, by rw [show L.getD (x + i) 0 % 128 = L.getD (x + i) 0 by omega], fun hi => by omega, ?_, by omega⟩
        rw [show ((x : Int) + (i : Int) + 1).toNat = x + i + 1 by omega, List.take_succ_eq_append_getElem (by omega), List.drop_append_of_le_length (by simp; omega), List.drop_of_length_le (by simp; omega)]
        have hg : L.getD (x + i) 0 = L[x + i]'(by omega) := by simp [List.getD_eq_getElem?_getD, show x + i < L.length by omega]
        unfold enc
        rw [show L.getD (x + i) 0 % 256 = L[x + i]'(by omega) by omega]
        rfl
    · rw [if_neg hc] at h
      simp [rv] at h
  | succ f ih =>
    intro i acc v at' h
    have hb := getD_mem_range L hw (x + i)
    unfold rv at h
    by_cases h1 : L.length ≤ x + i
    · rw [if_pos h1] at h
      simp at h
    rw [if_neg h1] at h
    have hg : L.getD (x + i) 0 = L[x + i]'(by omega) := by simp [List.getD_eq_getElem?_getD, show x + i < L.length by omega]
    by_cases hc : L.getD (x + i) 0 < 128
    · rw [if_pos hc] at h
      by_cases hz : (L.getD (x + i) 0 = 0 ∧ 0 < i) ∨ acc + L.getD (x + i) 0 % 128 * 128 ^ i > 1000000000000
      · rw [if_pos hz] at h
        simp at h
      · rw [if_neg hz] at h
        simp only [Prod.mk.injEq, and_true] at h
        obtain ⟨rfl, rfl⟩ := h
        have hz2 := (not_or.1 hz).1
        refine ⟨L.getD (x + i) 0, hb.1, by rw [show L.getD (x + i) 0 % 128 = L.getD (x + i) 0 by omega], fun hi => by omega, ?_, by omega⟩
        rw [show ((x : Int) + (i : Int) + 1).toNat = x + i + 1 by omega, List.take_succ_eq_append_getElem (by omega), List.drop_append_of_le_length (by simp; omega), List.drop_of_length_le (by simp; omega)]
        unfold enc
        rw [if_neg (by omega), show L.getD (x + i) 0 % 256 = L[x + i]'(by omega) by omega]
        rfl
    · rw [if_neg hc] at h
      obtain ⟨m, m0, m1, m2, m3, m4⟩ := ih (i + 1) _ v at' h
      have m5 := m2 (by omega)
      refine ⟨L.getD (x + i) 0 % 128 + 128 * m, by omega, ?_, fun _ => by omega, ?_, by omega⟩
      · rw [m1, pow128_succ]
        generalize L.getD (x + i) 0 % 128 = r
        generalize (128 : Int) ^ i = P
        grind
      · unfold enc
        rw [if_pos (by omega), show (L.getD (x + i) 0 % 128 + 128 * m) / 128 = m by omega, show (L.getD (x + i) 0 % 128 + 128 * m) % 128 + 128 = L.getD (x + i) 0 by omega, ← m3]
        have hlt : x + i < (L.take at'.toNat).length := by simp; omega
        rw [List.drop_eq_getElem_cons hlt, hg]
        congr 1
        simp
theorem rv_no (L : List Int) (x : Nat) : ∀ (d i : Nat) (acc : Int), (rv L x d i acc).2.2 = false → rv L x d i acc = (0, 0, false) := by
  intro d
  induction d with
  | zero => intro i acc _; rfl
  | succ d ih =>
    intro i acc h
    unfold rv at h ⊢
    by_cases h1 : L.length ≤ x + i
    · rw [if_pos h1]
    rw [if_neg h1] at h ⊢
    by_cases hc : L.getD (x + i) 0 < 128
    · rw [if_pos hc] at h ⊢
      by_cases hz : (L.getD (x + i) 0 = 0 ∧ 0 < i) ∨ acc + L.getD (x + i) 0 % 128 * 128 ^ i > 1000000000000
      · rw [if_pos hz]
      · rw [if_neg hz] at h
        simp at h
    · rw [if_neg hc] at h ⊢
      exact ih (i + 1) _ h
theorem rdv_no (L : List Int) (x : Int) (h : (rdv L x).2.2 = false) : rdv L x = (0, 0, false) := by
  unfold rdv at h ⊢
  by_cases c : 0 ≤ x ∧ x < (L.length : Int)
  · rw [if_pos c] at h ⊢
    exact rv_no L x.toNat 6 0 0 h
  · rw [if_neg c]
theorem rdv_encd (b : List Int) (n : Int) (hn : 0 ≤ n ∧ n ≤ 1000000000000) : rdv (encd b n) (b.length : Int) = (n, ((encd b n).length : Int), true) := by
  have e : encd b n = b ++ enc 5 n := by
    unfold encd
    rw [if_pos (by rw [inr_iff]; exact hn)]
  have hl := enc_length 5 n
  rw [e]
  unfold rdv
  rw [if_pos ⟨by omega, by rw [List.length_append]; omega⟩, Int.toNat_natCast]
  have h := rv_enc (b ++ enc 5 n) b.length 5 0 0 n (by simp) hn.1 (by omega) (Or.inl rfl) (by simp; omega)
  rw [h]
  simp
theorem encd_rdv (L : List Int) (hw : ∀ z ∈ L, 0 ≤ z ∧ z ≤ 255) (x v at' : Int) (h : rdv L x = (v, at', true)) : encd [] v = (L.take at'.toNat).drop x.toNat := by
  have ok := rdv_ok L hw x (by rw [h])
  rw [h] at ok
  simp only at ok
  unfold rdv at h
  rw [if_pos (by omega)] at h
  obtain ⟨m, m0, m1, _, m3, _⟩ := enc_rv L hw x.toNat 5 0 0 v at' h
  have e : v = m := by
    rw [m1]
    simp
  subst e
  unfold encd
  rw [if_pos (by rw [inr_iff]; omega), List.nil_append]
  simpa using m3.symm
def okc (b : List Int) (i : Int) : Prop := 0 ≤ i ∧ i ≤ (b.length : Int) ∧ b.length ≤ 1048576
theorem and255 (x : Int) : 0 ≤ Go.bits .and .i64 x 255 ∧ Go.bits .and .i64 x 255 ≤ 255 := by
  have e : Go.bits .and .i64 x 255 = IntKind.i64.wrap (((BitVec.ofInt 64 x &&& BitVec.ofInt 64 255).toNat : Nat) : Int) := rfl
  have h : (BitVec.ofInt 64 x &&& BitVec.ofInt 64 255).toNat ≤ 255 := by
    rw [BitVec.toNat_and]
    exact Nat.and_le_right
  rw [e, wraps_i64 _ (by omega) (by omega)]
  omega
theorem byte_ok (b : List Int) (i h : Int) (hi : okc b i) : ∃ r i' h', spec_l1Byte.f b i h = some (r, i', h') ∧ okc b i' ∧ 0 ≤ r ∧ r ≤ 255 := by
  unfold spec_l1Byte.f
  obtain ⟨h0, h1, h2⟩ := hi
  by_cases c : i < (b.length : Int)
  · rw [if_pos c, if_pos h0, wrap_id (i + 1) (by omega) (by omega)]
    exact ⟨_, _, _, rfl, ⟨by omega, by omega, h2⟩, and255 _⟩
  · rw [if_neg c]
    exact ⟨_, _, _, rfl, ⟨h0, h1, h2⟩, and255 _⟩
theorem below_ok (b : List Int) (i h n : Int) (hi : okc b i) : ∃ r i' h', spec_l1Below.f b i h n = some (r, i', h') ∧ okc b i' ∧ 0 ≤ r ∧ (0 < n → r < n) ∧ (n ≤ 0 → r = 0) := by
  unfold spec_l1Below.f
  by_cases c : n ≤ 0
  · rw [if_pos c]
    exact ⟨0, i, h, rfl, hi, by omega, by omega, fun _ => rfl⟩
  rw [if_neg c]
  by_cases c2 : n ≤ 256
  · obtain ⟨r, i', h', e, ho, hr⟩ := byte_ok b i h hi
    rw [if_pos c2, e, Option.bind_some, if_neg (by omega), Int.tmod_eq_emod_of_nonneg hr.1]
    exact ⟨_, _, _, rfl, ho, Int.emod_nonneg _ (by omega), fun hp => Int.emod_lt_of_pos _ hp, fun hn => by omega⟩
  · obtain ⟨r, i1, h1, e1, ho1, hr1⟩ := byte_ok b i h hi
    obtain ⟨r2, i2, h2, e2, ho2, hr2⟩ := byte_ok b i1 h1 ho1
    obtain ⟨r3, i3, h3, e3, ho3, hr3⟩ := byte_ok b i2 h2 ho2
    rw [if_neg c2, e1, Option.bind_some]
    simp only [e2, e3, Option.bind_some]
    rw [if_neg (by omega), wrap_id (r * 65536) (by omega) (by omega), wrap_id (r2 * 256) (by omega) (by omega), wrap_id (r * 65536 + r2 * 256) (by omega) (by omega), wrap_id (r * 65536 + r2 * 256 + r3) (by omega) (by omega), Int.tmod_eq_emod_of_nonneg (by omega)]
    exact ⟨_, _, _, rfl, ho3, Int.emod_nonneg _ (by omega), fun hp => Int.emod_lt_of_pos _ hp, fun hn => by omega⟩
theorem new_ok (k : Nat) (l : List Int) (hl : l.length ≤ 1048576) (hk : l.length < k) : ∃ h, spec_l1New.f k l = some (l, 0, h) := by
  have loop : ∀ (d k i : Nat) (h : Int), i + d = l.length → d < k → ∃ h', spec_l1New.l0 k l h (i : Int) = some (l, 0, h') := by
    intro d
    induction d with
    | zero =>
      intro k i h hi hk
      obtain ⟨k, rfl⟩ : ∃ m, k = m + 1 := ⟨k - 1, by omega⟩
      simp only [spec_l1New.l0]
      rw [if_neg (by omega)]
      exact ⟨h, rfl⟩
    | succ d ih =>
      intro k i h hi hk
      obtain ⟨k, rfl⟩ : ∃ m, k = m + 1 := ⟨k - 1, by omega⟩
      simp only [spec_l1New.l0]
      rw [if_pos (by omega)]
      by_cases c : (i : Int) < 4000
      · rw [if_pos c, if_pos (by omega), succ_at i l.length (by omega) (by omega)]
        exact ih k (i + 1) _ (by omega) (by omega)
      · rw [if_neg c]
        exact ⟨h, rfl⟩
  unfold spec_l1New.f
  exact loop l.length k 0 _ (by omega) hk
theorem okc_start (l : List Int) (hl : l.length ≤ 1048576) : okc l 0 := ⟨by omega, by omega, hl⟩
theorem once_ok (b : List Int) (i h n : Int) (hi : okc b i) : ∃ r i' h', spec_l1Once.f b i h n = some (r, i', h') ∧ okc b i' := by
  unfold spec_l1Once.f
  obtain ⟨r, i', h', e, ho, _⟩ := below_ok b i h n hi
  rw [e, Option.bind_some]
  exact ⟨_, _, _, rfl, ho⟩
theorem int_ok (b : List Int) (i h : Int) (l : List Int) (hi : okc b i) (hl : 0 < l.length) : ∃ r i' h', spec_l1Int.f b i h l = some (r, i', h') ∧ okc b i' ∧ r ∈ l := by
  unfold spec_l1Int.f
  obtain ⟨r, i', h', e, ho, h0, h1, _⟩ := below_ok b i h (l.length : Int) hi
  have h2 := h1 (by omega)
  rw [e, Option.bind_some, if_pos h0, if_pos h2]
  refine ⟨_, _, _, rfl, ho, ?_⟩
  obtain ⟨n, rfl⟩ := Int.eq_ofNat_of_zero_le h0
  rw [rd_at l n (by omega)]
  exact List.getElem_mem _
theorem bytes_ok (k : Nat) (b : List Int) (i h n : Int) (hi : okc b i) (hn : 0 ≤ n ∧ n ≤ 1000) (hk : n < (k : Int)) : ∃ r i' h', spec_l1Bytes.f k b i h n = some (r, i', h') ∧ okc b i' ∧ (r.length : Int) = n ∧ ∀ z ∈ r, 0 ≤ z ∧ z ≤ 255 := by
  have loop : ∀ (d k j : Nat) (acc : List Int) (i h : Int), (j : Int) + d = n → d < k → okc b i → acc.length = j → (∀ z ∈ acc, 0 ≤ z ∧ z ≤ 255) → ∃ r i' h', spec_l1Bytes.l0 k n acc (j : Int) b i h = some (r, i', h') ∧ okc b i' ∧ (r.length : Int) = n ∧ ∀ z ∈ r, 0 ≤ z ∧ z ≤ 255 := by
    intro d
    induction d with
    | zero =>
      intro k j acc i h hj hk ho ha hz
      obtain ⟨k, rfl⟩ : ∃ m, k = m + 1 := ⟨k - 1, by omega⟩
      simp only [spec_l1Bytes.l0]
      rw [if_neg (by omega)]
      exact ⟨_, _, _, rfl, ho, by omega, hz⟩
    | succ d ih =>
      intro k j acc i h hj hk ho ha hz
      obtain ⟨k, rfl⟩ : ∃ m, k = m + 1 := ⟨k - 1, by omega⟩
      obtain ⟨r, i', h', e, ho', hr⟩ := byte_ok b i h ho
      simp only [spec_l1Bytes.l0]
      rw [if_pos (by omega), e, Option.bind_some, if_pos (by omega), succ_at j 1000 (by omega) (by omega)]
      refine ih k (j + 1) _ i' h' (by omega) (by omega) ho' (by simp [ha]) ?_
      intro z hz'
      rcases List.mem_append.1 hz' with hm | hm
      · exact hz z hm
      · simp only [List.mem_singleton] at hm
        omega
  unfold spec_l1Bytes.f
  exact loop n.toNat k 0 [] i h (by omega) (by omega) hi rfl (by simp)
theorem num_ok (b : List Int) (i h : Int) (hi : okc b i) : ∃ r i' h', spec_l1Num.f b i h = some (r, i', h') ∧ okc b i' := by
  unfold spec_l1Num.f
  obtain ⟨r1, i1, h1, e1, o1, _⟩ := below_ok b i h 4 hi
  rw [e1, Option.bind_some]
  by_cases c0 : r1 = 0
  · obtain ⟨r2, i2, h2, e2, o2, _⟩ := below_ok b i1 h1 2000 o1
    simp only [if_pos c0, e2, Option.bind_some]
    exact ⟨_, _, _, rfl, o2⟩
  by_cases c1 : r1 = 1
  · obtain ⟨r2, i2, h2, e2, o2, _⟩ := int_ok b i1 h1 [0, 1, 127, 128, 2147483646, 2147483647, 1000000000000] o1 (by simp)
    simp only [if_neg c0, if_pos c1, e2, Option.bind_some]
    exact ⟨_, _, _, rfl, o2⟩
  by_cases c2 : r1 = 2
  · obtain ⟨r2, i2, h2, e2, o2, _⟩ := below_ok b i1 h1 1000000 o1
    obtain ⟨r3, i3, h3, e3, o3, _⟩ := below_ok b i2 h2 1000000 o2
    simp only [if_neg c0, if_neg c1, if_pos c2, e2, e3, Option.bind_some]
    exact ⟨_, _, _, rfl, o3⟩
  · obtain ⟨r2, i2, h2, e2, o2, _⟩ := below_ok b i1 h1 20 o1
    simp only [if_neg c0, if_neg c1, if_neg c2, e2, Option.bind_some]
    exact ⟨_, _, _, rfl, o2⟩
theorem raw_ok (b : List Int) (i h : Int) (hi : okc b i) : ∃ r i' h', spec_l1Raw.f b i h = some (r, i', h') ∧ okc b i' := by
  unfold spec_l1Raw.f spec_l1Odd.f
  obtain ⟨r1, i1, h1, e1, o1⟩ := once_ok b i h 2 hi
  rw [e1, Option.bind_some]
  cases r1
  · obtain ⟨r2, i2, h2, e2, o2, _⟩ := int_ok b i1 h1 [(-1), 1000000000000, 1000000000001] o1 (by simp)
    simp only [Bool.false_eq_true, if_false, e2, Option.bind_some]
    exact ⟨_, _, _, rfl, o2⟩
  · obtain ⟨r2, i2, h2, e2, o2, _⟩ := int_ok b i1 h1 [(-1), 0, 1, 2, 255, 256, 65535, 2147483647, 2147483648, 4294967295, 4294967296, (-2147483648), 9223372036854775807, (-9223372036854775808)] o1 (by simp)
    simp only [if_true, e2, Option.bind_some]
    exact ⟨_, _, _, rfl, o2⟩
theorem one_ok (b : List Int) (i h : Int) (hi : okc b i) : ∃ r i' h', spec_l1One.f b i h = some (r, i', h') ∧ okc b i' := by
  unfold spec_l1One.f
  obtain ⟨r1, i1, h1, e1, o1⟩ := once_ok b i h 6 hi
  rw [e1, Option.bind_some]
  cases r1
  · obtain ⟨r2, i2, h2, e2, o2⟩ := num_ok b i1 h1 o1
    simp only [Bool.false_eq_true, if_false, e2, Option.bind_some]
    exact ⟨_, _, _, rfl, o2⟩
  · obtain ⟨r2, i2, h2, e2, o2⟩ := raw_ok b i1 h1 o1
    simp only [if_true, e2, Option.bind_some]
    exact ⟨_, _, _, rfl, o2⟩
theorem laws_sameBytes_loop (l : List Int) (hl : l.length ≤ 4611686018427387904) : ∀ (d k i : Nat), i + d = l.length → d < k → laws_sameBytes.l0 k l l (i : Int) = some true := by
  intro d
  induction d with
  | zero =>
    intro k i hi hk
    obtain ⟨k, rfl⟩ : ∃ m, k = m + 1 := ⟨k - 1, by omega⟩
    simp only [laws_sameBytes.l0]
    rw [if_neg (by omega)]
  | succ d ih =>
    intro k i hi hk
    obtain ⟨k, rfl⟩ : ∃ m, k = m + 1 := ⟨k - 1, by omega⟩
    simp only [laws_sameBytes.l0]
    rw [if_pos (by omega), if_pos (by omega), if_pos (by omega), if_pos trivial, succ_at i l.length (by omega) hl]
    exact ih k (i + 1) (by omega) (by omega)
theorem laws_sameBytes_self (k : Nat) (l : List Int) (hk : l.length < k) (hl : l.length ≤ 4611686018427387904) : laws_sameBytes.f k l l = some true := by
  unfold laws_sameBytes.f
  rw [if_pos rfl]
  exact laws_sameBytes_loop l hl l.length k 0 (by omega) (by omega)
theorem drawread_loop (b : List Int) : ∀ (d k : Nat) (acc : List Int) (n i h : Int), n = (d : Int) → d < k → okc b i → acc.length + d ≤ 100 → (∀ z ∈ acc, 0 ≤ z ∧ z ≤ 255) → ∃ y o, spec_DrawReadUvarint.l0 k acc n b i h = some (y, o) ∧ y.length ≤ 100 ∧ (∀ z ∈ y, 0 ≤ z ∧ z ≤ 255) ∧ -1 ≤ o ∧ o ≤ 3 := by
  intro d
  induction d with
  | zero =>
    intro k acc n i h hn hk hi ha hz
    obtain ⟨k, rfl⟩ : ∃ m, k = m + 1 := ⟨k - 1, by omega⟩
    obtain ⟨r1, i1, h1, e1, o1, q0, q1, _⟩ := below_ok b i h 4 hi
    have q2 := q1 (by omega)
    simp only [spec_DrawReadUvarint.l0]
    rw [if_neg (by omega), e1, Option.bind_some]
    simp only
    rw [wrap_id (r1 - 1) (by omega) (by omega)]
    exact ⟨acc, r1 - 1, rfl, by omega, hz, by omega, by omega⟩
  | succ d ih =>
    intro k acc n i h hn hk hi ha hz
    obtain ⟨k, rfl⟩ : ∃ m, k = m + 1 := ⟨k - 1, by omega⟩
    obtain ⟨r1, i1, h1, e1, o1, _⟩ := int_ok b i h [128, 255, 0, 1, 127] hi (by simp)
    simp only [spec_DrawReadUvarint.l0]
    rw [if_pos (by omega), e1, Option.bind_some, if_pos (by omega)]
    simp only
    rw [wrap_id (n - 1) (by omega) (by omega)]
    refine ih k _ (n - 1) i1 h1 (by omega) (by omega) o1 (by simp; omega) ?_
    intro z hz'
    rcases List.mem_append.1 hz' with hm | hm
    · exact hz z hm
    · simp only [List.mem_singleton] at hm
      omega
theorem drawread (k : Nat) (l : List Int) (hl : l.length ≤ 1048576) (hk : l.length + 20 < k) : ∃ y o, spec_DrawReadUvarint.f k l = some (y, o) ∧ y.length ≤ 100 ∧ (∀ z ∈ y, 0 ≤ z ∧ z ≤ 255) ∧ -1 ≤ o ∧ o ≤ 3 := by
  unfold spec_DrawReadUvarint.f
  obtain ⟨h, n1⟩ := new_ok k l hl (by omega)
  obtain ⟨r1, i1, h1, e1, o1⟩ := once_ok l 0 h 2 (okc_start l hl)
  simp only [n1, e1, Option.bind_some]
  cases r1
  · obtain ⟨r2, i2, h2, e2, o2, q0, q1, _⟩ := below_ok l i1 h1 8 o1
    have q2 := q1 (by omega)
    simp only [Bool.false_eq_true, if_false, e2, Option.bind_some]
    exact drawread_loop l r2.toNat k [] r2 i2 h2 (by omega) (by omega) o2 (by simp; omega) (by simp)
  · obtain ⟨b, i2, h2, e2, o2, q0, q1⟩ := bytes_ok k l i1 h1 1 o1 (by omega) (by omega)
    obtain ⟨n, i3, h3, e3, o3⟩ := num_ok l i2 h2 o2
    have hn := encd_length b n
    simp only [if_true, e2, e3, Option.bind_some, sAppend k b n (by omega) (by omega)]
    exact ⟨_, _, rfl, by omega, encd_range b n q1, by omega, by omega⟩
theorem second (k : Nat) (l : List Int) (hl : l.length ≤ 1048576) (hk : l.length + 150 < k) : laws_FnVarints.j1 (k + 1) l = some true := by
  obtain ⟨y, o, d1, d2, d3, d4, d5⟩ := drawread k l hl (by omega)
  obtain ⟨s1, s2⟩ := read_both k y (by omega) d3 o (by omega) (by omega)
  have ok := rdv_ok y d3 o
  have no := rdv_no y o
  simp only [laws_FnVarints.j1, d1, s1, s2, Option.bind_some]
  obtain ⟨⟨v, at', b⟩, hv⟩ : ∃ r, rdv y o = r := ⟨_, rfl⟩
  rw [hv] at ok no ⊢
  simp only at ok no ⊢
  cases b
  · have e := no rfl
    simp only [Prod.mk.injEq, and_true] at e
    obtain ⟨rfl, rfl⟩ := e
    simp
  · have q := ok rfl
    have e := encd_rdv y d3 o v at' hv
    have hlen := encd_length [] v
    rw [if_pos rfl, if_pos (by omega), if_pos (by omega), if_pos (by omega), iAppend k [] v (by simp) (by omega), Option.bind_some, if_pos (by omega), if_pos (by omega), ← e, laws_sameBytes_self k (encd [] v) (by simp at hlen; omega) (by simp at hlen; omega), Option.bind_some]
theorem main : laws_FnVarints.Pure := by
  intro l _ _
  obtain ⟨K, hK⟩ : ∃ K, K = l.length + 200 := ⟨_, rfl⟩
  refine ⟨K + 2, ?_⟩
  unfold laws_FnVarints.f laws_big.f
  rw [Option.bind_some]
  by_cases h1 : (l.length : Int) > 1048576
  · rw [if_pos (by simp; omega)]
  rw [if_neg (by simp; omega)]
  have h2 := second K l (by omega) (by omega)
  obtain ⟨h, n1⟩ := new_ok (K + 2) l (by omega) (by omega)
  obtain ⟨n, i2, h2', n2, o2, q0, q1, _⟩ := below_ok l 0 h 3 (okc_start l (by omega))
  have q2 := q1 (by omega)
  obtain ⟨b, i3, h3, n3, o3, q3, q4⟩ := bytes_ok (K + 2) l i2 h2' n o2 (by omega) (by omega)
  obtain ⟨m, i4, h4, n4, o4⟩ := one_ok l i3 h3 o3
  have hlen := encd_length b m
  have hrange := encd_range b m q4
  obtain ⟨_, s2⟩ := read_both (K + 2) (encd b m) (by omega) hrange (b.length : Int) (by omega) (by omega)
  unfold spec_DrawAppendUvarint.f
  simp only [n1, n2, n3, n4, iAppend (K + 2) b m (by omega) (by omega), s2, Option.bind_some]
  by_cases c : 0 ≤ m ∧ m ≤ 1000000000000
  · rw [if_neg (by omega), rdv_encd b m c, show decide (m > 1000000000000) = false by simp; omega]
    simp only [laws_FnVarints.j0, Bool.false_eq_true, if_false, if_true]
    exact h2
  · have e : encd b m = b := by
      unfold encd
      rw [if_neg (by rw [inr_iff]; exact c)]
    have e2 : rdv (encd b m) (b.length : Int) = (0, 0, false) := by
      rw [e]
      unfold rdv
      rw [if_neg (by omega)]
    have fin : laws_FnVarints.j0 (K + 2) l b m (encd b m) 0 0 false true = some true := by
      simp only [laws_FnVarints.j0, Bool.false_eq_true, if_false, if_true]
      rw [e, laws_sameBytes_self (K + 1) b (by omega) (by omega), Option.bind_some, if_pos rfl]
      exact h2
    rw [e2]
    by_cases c2 : m < 0
    · rw [if_pos c2]
      exact fin
    · rw [if_neg c2, show decide (m > 1000000000000) = true by simp; omega]
      exact fin

end Go.Proofs.Ytoocbgjcigadfad.PureFnVarints
namespace Go.Proofs.Ytoocbgjcigadfad.Pure
/-- The pure statement. -/
theorem FnVarints : Go.Proofs.Ytoocbgjcigadfad.PureFnVarints.laws_FnVarints.Pure := Go.Proofs.Ytoocbgjcigadfad.PureFnVarints.main
end Go.Proofs.Ytoocbgjcigadfad.Pure

/- The printed law FnExactDecodeInts, as a function of numbers and lists, answers true for all arguments that a call can be given; no conditions beyond the sizes that memory allows. -/
import Derived.Test.YtoocbgjcigadfacPFnExactDecodeIntsx4
namespace Go.Proofs.Ytoocbgjcigadfac.PureFnExactDecodeInts
open Go.RowKit Go.Proofs.Ytoocbgjcigadfac.PFnExactDecodeInts Go.Proofs.YtoocbgjcigadfacW.PrintWords Go.Proofs.YtoocbgjcigadfacW.PrintLast Go.Proofs.YtoocbgjcigadfacW.PrintMore
set_option linter.unusedVariables false
set_option linter.unusedSimpArgs false

/-- The pure statement of laws_FnExactDecodeInts, typed by lawfill.py as print.sh types it where it does. -/
def laws_FnExactDecodeInts.Pure : Prop := ∀ (l0 : List Int) (a1 : Int) (a2 : Int), l0.length ≤ maxLen → (∀ x ∈ l0, (Lit.int .u8 x).wf = true) → (Lit.int .i64 a1).wf = true → (Lit.int .i64 a2).wf = true → ∃ k, laws_FnExactDecodeInts.f k l0 a1 a2 = some true

def inr (a b c : Int) : Bool := decide (b ≤ a) && decide (a ≤ c)
theorem inr_iff (a b c : Int) : inr a b c = true ↔ b ≤ a ∧ a ≤ c := by unfold inr; simp
theorem l1In_eq (a b c : Int) : spec_l1In.f a b c = some (inr a b c) := by
  unfold spec_l1In.f inr
  by_cases h : b ≤ a <;> simp [h]
theorem inRange_eq (a b c : Int) : impl_InRange.f a b c = some (inr a b c) := by
  unfold impl_InRange.f inr
  by_cases h : b ≤ a <;> simp [h]
theorem rd_at (xs : List Int) (i : Nat) (h : i < xs.length) : rd xs (i : Int) = xs[i] := by
  unfold rd
  simp [List.getD_eq_getElem?_getD, h]
theorem succ_at (i n : Nat) (h : i < n) (hn : n ≤ 4611686018427387904) : wrap64 ((i : Int) + 1) = ((i + 1 : Nat) : Int) := by
  unfold wrap64
  omega
theorem wrap_id (n : Int) (h0 : -9223372036854775808 ≤ n) (h1 : n ≤ 9223372036854775807) : wrap64 n = n := by
  unfold wrap64
  omega
theorem u8_range {z : Int} (h : (Lit.int .u8 z).wf = true) : 0 ≤ z ∧ z ≤ 255 := by
  simp only [Lit.wf, Bool.and_eq_true, decide_eq_true_eq] at h
  have e1 : IntKind.u8.min = 0 := by decide
  have e2 : IntKind.u8.max = 255 := by decide
  omega
theorem i64_range {z : Int} (h : (Lit.int .i64 z).wf = true) : -9223372036854775808 ≤ z ∧ z ≤ 9223372036854775807 := by
  simp only [Lit.wf, Bool.and_eq_true, decide_eq_true_eq] at h
  have e1 : IntKind.i64.min = -9223372036854775808 := by decide
  have e2 : IntKind.i64.max = 9223372036854775807 := by decide
  omega
theorem wraps_i64 (n : Int) (h0 : 0 ≤ n) (h1 : n < 2 ^ 63) : IntKind.i64.wrap n = n := by
  rw [IntKind.wrap_i64]
  omega
theorem and127 (n : Int) (h0 : 0 ≤ n) (h1 : n < 2 ^ 63) : Go.bits .and .i64 n 127 = n % 128 :=
  bits_mask .i64 63 (by decide) wraps_i64 7 (by decide) n h0 h1
theorem and127b (n : Int) (h0 : 0 ≤ n) (h1 : n < 2 ^ 8) : Go.bits .and .u8 n 127 = n % 128 :=
  bits_mask .u8 8 (by decide) wraps_u8 7 (by decide) n h0 h1
theorem bits_or_comm (k : IntKind) (x y : Int) : Go.bits .or k x y = Go.bits .or k y x := by
  simp only [Go.bits]
  rw [BitVec.or_comm]
theorem pow128 (i : Nat) (hi : i < 6) : 0 < (128 : Int) ^ i ∧ (128 : Int) ^ i ≤ 34359738368 := by
  rcases (by omega : i = 0 ∨ i = 1 ∨ i = 2 ∨ i = 3 ∨ i = 4 ∨ i = 5) with rfl | rfl | rfl | rfl | rfl | rfl <;> decide
theorem pow128_succ (i : Nat) : (128 : Int) ^ (i + 1) = 128 ^ i * 128 := Int.pow_succ ..
theorem or_step (acc c : Int) (i : Nat) (hi : i < 6) (ha : 0 ≤ acc ∧ acc < 128 ^ i) (hc : 0 ≤ c ∧ c < 128) : Go.bits .or .i64 acc (shl .i64 c (7 * (i : Int))) = acc + c * 128 ^ i := by
  have hp := pow128 i hi
  have h2 : (2 : Int) ^ (7 * i) = 128 ^ i := by rw [Int.pow_mul]; rfl
  have hm : min (7 * (i : Int)).toNat IntKind.i64.bits = 7 * i := by
    have : IntKind.i64.bits = 64 := rfl
    omega
  unfold shl
  rw [hm, h2]
  generalize hP : (128 : Int) ^ i = P at *
  have m1 : 0 ≤ c * P := Int.mul_nonneg hc.1 (by omega)
  have m2 : c * P ≤ 127 * P := Int.mul_le_mul_of_nonneg_right (by omega) (by omega)
  rw [wraps_i64 (c * P) m1 (by omega), bits_or_comm, bits_join .i64 63 (by decide) wraps_i64 (7 * i) (c * P) acc m1 (by rw [h2]; exact Int.mul_emod_left c P) (by omega) ha.1 (by rw [h2]; exact ha.2) (by omega)]
  omega
/-- What both readers come to, from place i on. -/
def rv (l : List Int) (x : Nat) : Nat → Nat → Int → Int × Int × Bool
  | 0, _, _ => (0, 0, false)
  | d + 1, i, acc => if l.length ≤ x + i then (0, 0, false) else
    if l.getD (x + i) 0 < 128 then
      (if (l.getD (x + i) 0 = 0 ∧ 0 < i) ∨ acc + l.getD (x + i) 0 % 128 * 128 ^ i > 1000000000000 then (0, 0, false) else (acc + l.getD (x + i) 0 % 128 * 128 ^ i, (x : Int) + (i : Int) + 1, true))
    else rv l x d (i + 1) (acc + l.getD (x + i) 0 % 128 * 128 ^ i)
theorem rd_getD (l : List Int) (n : Nat) : rd l (n : Int) = l.getD n 0 := by
  unfold rd
  simp
theorem rd_add (l : List Int) (x i : Nat) : rd l ((x : Int) + (i : Int)) = l.getD (x + i) 0 := rd_getD l (x + i)
theorem getD_mem_range (l : List Int) (hw : ∀ z ∈ l, 0 ≤ z ∧ z ≤ 255) (n : Nat) : 0 ≤ l.getD n 0 ∧ l.getD n 0 ≤ 255 := by
  rcases Nat.lt_or_ge n l.length with h | h
  · have e : l.getD n 0 = l[n] := by simp [List.getD_eq_getElem?_getD, h]
    rw [e]
    exact hw _ (List.getElem_mem h)
  · have e : l.getD n 0 = 0 := by simp [List.getD_eq_getElem?_getD, h]
    omega
theorem read_same (l : List Int) (hl : l.length ≤ 4194304) (hw : ∀ z ∈ l, 0 ≤ z ∧ z ≤ 255) (x : Nat) (hx : x < l.length) : ∀ (d k k' i : Nat) (acc : Int), i + d = 6 → 2 * d + 2 < k → d < k' → 0 ≤ acc ∧ acc < 128 ^ i →
    spec_ReadUvarint.l0 k l (x : Int) acc (i : Int) = some (rv l x d i acc) ∧ impl_ReadUvarint.l0 k' l (x : Int) acc (i : Int) = some (rv l x d i acc) := by
  intro d
  induction d with
  | zero =>
    intro k k' i acc hi hk hk' ha
    obtain ⟨k, rfl⟩ : ∃ m, k = m + 1 := ⟨k - 1, by omega⟩
    obtain ⟨k', rfl⟩ : ∃ m, k' = m + 1 := ⟨k' - 1, by omega⟩
    simp only [spec_ReadUvarint.l0, impl_ReadUvarint.l0]
    rw [if_neg (by omega), if_neg (by omega)]
    exact ⟨rfl, rfl⟩
  | succ d ih =>
    intro k k' i acc hi hk hk' ha
    obtain ⟨k, rfl⟩ : ∃ m, k = m + 2 := ⟨k - 2, by omega⟩
    obtain ⟨k', rfl⟩ : ∃ m, k' = m + 1 := ⟨k' - 1, by omega⟩
    have hb := getD_mem_range l hw (x + i)
    simp only [spec_ReadUvarint.l0, spec_ReadUvarint.j1, impl_ReadUvarint.l0, wrap_id ((x : Int) + (i : Int)) (by omega) (by omega), wrap_id ((l.length : Int) - (i : Int)) (by omega) (by omega), wrap_id (7 * (i : Int)) (by omega) (by omega), wrap_id ((x : Int) + (i : Int) + 1) (by omega) (by omega), succ_at i 6 (by omega) (by omega), rd_add, rv]
    generalize l.getD (x + i) 0 = b at hb ⊢
    have p1 := pow128 i (by omega)
    have hn : 0 ≤ acc + b % 128 * 128 ^ i ∧ acc + b % 128 * 128 ^ i < 128 ^ (i + 1) := by
      rw [pow128_succ]
      have m1 : 0 ≤ b % 128 * 128 ^ i := Int.mul_nonneg (by omega) (by omega)
      have m2 : b % 128 * 128 ^ i ≤ 127 * 128 ^ i := Int.mul_le_mul_of_nonneg_right (by omega) (by omega)
      generalize b % 128 * 128 ^ i = Q at *
      generalize (128 : Int) ^ i = P at *
      omega
    rw [wrap_id b (by omega) (by omega), and127 b (by omega) (by omega), and127b b (by omega) (by omega), wrap_id (b % 128) (by omega) (by omega), or_step acc (b % 128) i (by omega) ha (by omega)]
    generalize acc + b % 128 * 128 ^ i = acc' at hn ⊢
    have c1 : (i : Int) < 6 := by omega
    have c2 : ¬ (x : Int) < 0 := by omega
    have c3 : (0 : Int) ≤ (x : Int) + (i : Int) := by omega
    have c4 : (0 : Int) ≤ 7 * (i : Int) := by omega
    simp only [if_pos c1, if_neg c2, if_pos c3, if_pos c4]
    by_cases h : l.length ≤ x + i
    · have d1 : decide ((x : Int) ≥ (l.length : Int) - (i : Int)) = true := by simp; omega
      have d2 : (x : Int) + (i : Int) ≥ (l.length : Int) := by omega
      simp only [d1, if_pos d2, if_pos h, if_true, and_self]
    · have d1 : decide ((x : Int) ≥ (l.length : Int) - (i : Int)) = false := by simp; omega
      have d2 : ¬ (x : Int) + (i : Int) ≥ (l.length : Int) := by omega
      have d3 : (x : Int) + (i : Int) < (l.length : Int) := by omega
      simp only [d1, if_neg d2, if_neg h, if_pos d3, Bool.false_eq_true, if_false]
      by_cases hc : b < 128
      · simp only [if_pos hc]
        by_cases hz : b = 0 <;> by_cases hp : 0 < i <;> by_cases hm : acc' > 1000000000000 <;> simp [hz, hp, hm]
      · simp only [if_neg hc]
        exact ih k k' (i + 1) acc' (by omega) (by omega) (by omega) hn
/-- What both readers give. -/
def rdv (l : List Int) (x : Int) : Int × Int × Bool := if 0 ≤ x ∧ x < (l.length : Int) then rv l x.toNat 6 0 0 else (0, 0, false)
theorem read_both (k : Nat) (l : List Int) (hl : l.length ≤ 4194304) (hw : ∀ z ∈ l, 0 ≤ z ∧ z ≤ 255) (x : Int) (hx : -9223372036854775808 ≤ x ∧ x ≤ 9223372036854775807) (hk : 20 < k) :
    spec_ReadUvarint.f k l x = some (rdv l x) ∧ impl_ReadUvarint.f k l x = some (rdv l x) := by
  unfold spec_ReadUvarint.f impl_ReadUvarint.f rdv
  by_cases h0 : x < 0
  · obtain ⟨k, rfl⟩ : ∃ m, k = m + 2 := ⟨k - 2, by omega⟩
    rw [if_neg (fun h => by omega)]
    simp only [if_pos h0, spec_ReadUvarint.l0, spec_ReadUvarint.j1, impl_ReadUvarint.j0, if_true, if_pos (show (0 : Int) < 6 by omega), and_self]
  · obtain ⟨y, rfl⟩ := Int.eq_ofNat_of_zero_le (show 0 ≤ x by omega)
    by_cases h1 : l.length ≤ y
    · obtain ⟨k, rfl⟩ : ∃ m, k = m + 2 := ⟨k - 2, by omega⟩
      have w2 : wrap64 ((l.length : Int) - 0) = (l.length : Int) := by rw [wrap_id _ (by omega) (by omega)]; omega
      have d1 : decide ((y : Int) ≥ (l.length : Int)) = true := by simp; omega
      rw [if_neg (fun h => by omega)]
      simp only [if_neg h0, spec_ReadUvarint.l0, spec_ReadUvarint.j1, impl_ReadUvarint.j0, if_pos (show (0 : Int) < 6 by omega), w2, d1, if_true, and_self]
    · obtain ⟨k, rfl⟩ : ∃ m, k = m + 1 := ⟨k - 1, by omega⟩
      have d1 : decide ((y : Int) ≥ (l.length : Int)) = false := by simp; omega
      rw [if_pos ⟨by omega, by omega⟩]
      simp only [if_neg h0, impl_ReadUvarint.j0, d1, Bool.false_eq_true, if_false, Int.toNat_natCast]
      exact read_same l hl hw y (by omega) 6 (k + 1) k 0 0 (by omega) (by omega) (by omega) (by simp)
theorem rv_ok (l : List Int) (hw : ∀ z ∈ l, 0 ≤ z ∧ z ≤ 255) (x : Nat) : ∀ (d i : Nat) (acc : Int), 0 ≤ acc → (rv l x d i acc).2.2 = true → 0 ≤ (rv l x d i acc).1 ∧ (rv l x d i acc).1 ≤ 1000000000000 ∧ ((x + i : Nat) : Int) < (rv l x d i acc).2.1 ∧ (rv l x d i acc).2.1 ≤ (l.length : Int) := by
  intro d
  induction d with
  | zero => intro i acc _ h; simp [rv] at h
  | succ d ih =>
    intro i acc ha h
    have hb := getD_mem_range l hw (x + i)
    have hn : 0 ≤ acc + l.getD (x + i) 0 % 128 * 128 ^ i := Int.add_nonneg ha (Int.mul_nonneg (by omega) (Int.le_of_lt (Int.pow_pos (by omega))))
    unfold rv at h ⊢
    by_cases h1 : l.length ≤ x + i
    · rw [if_pos h1] at h
      simp at h
    · rw [if_neg h1] at h ⊢
      by_cases hc : l.getD (x + i) 0 < 128
      · rw [if_pos hc] at h ⊢
        by_cases hz : (l.getD (x + i) 0 = 0 ∧ 0 < i) ∨ acc + l.getD (x + i) 0 % 128 * 128 ^ i > 1000000000000
        · rw [if_pos hz] at h
          simp at h
        · rw [if_neg hz]
          simp only
          refine ⟨hn, ?_, by omega, by omega⟩
          have := not_or.1 hz
          omega
      · rw [if_neg hc] at h ⊢
        have := ih (i + 1) _ hn h
        omega
theorem rdv_ok (l : List Int) (hw : ∀ z ∈ l, 0 ≤ z ∧ z ≤ 255) (x : Int) (h : (rdv l x).2.2 = true) : 0 ≤ (rdv l x).1 ∧ (rdv l x).1 ≤ 1000000000000 ∧ 0 ≤ x ∧ x < (rdv l x).2.1 ∧ (rdv l x).2.1 ≤ (l.length : Int) := by
  unfold rdv at h ⊢
  by_cases hx : 0 ≤ x ∧ x < (l.length : Int)
  · rw [if_pos hx] at h ⊢
    have := rv_ok l hw x.toNat 6 0 0 (by omega) h
    omega
  · rw [if_neg hx] at h
    simp at h
theorem decboth (l : List Int) (c : Int) (hl : l.length ≤ 4194304) (hw : ∀ z ∈ l, 0 ≤ z ∧ z ≤ 255) (hc : c ≤ 100) : ∀ (d k i : Nat) (x : Int) (acc : List Int), (i : Int) + d = c → d + 21 < k → acc.length = i → 0 ≤ x ∧ x ≤ (l.length : Int) →
    ∃ r, spec_DecodeInts.l0 k l x c acc (i : Int) = some r ∧ impl_DecodeInts.l0 k l x acc c (i : Int) = some r ∧ r.1.length ≤ 100 := by
  intro d
  induction d with
  | zero =>
    intro k i x acc hi hk ha hx
    obtain ⟨k, rfl⟩ : ∃ m, k = m + 1 := ⟨k - 1, by omega⟩
    have h1 : ¬ (i : Int) < c := by omega
    simp only [spec_DecodeInts.l0, impl_DecodeInts.l0, if_neg h1]
    exact ⟨_, rfl, rfl, by simp only; omega⟩
  | succ d ih =>
    intro k i x acc hi hk ha hx
    obtain ⟨k, rfl⟩ : ∃ m, k = m + 1 := ⟨k - 1, by omega⟩
    have h1 : (i : Int) < c := by omega
    obtain ⟨e1, e2⟩ := read_both k l hl hw x (by omega) (by omega)
    have ok := rdv_ok l hw x
    have h3 : acc.length < 17592186044416 := by omega
    simp only [spec_DecodeInts.l0, impl_DecodeInts.l0, if_pos h1, e1, e2, Option.bind_some, if_pos h3, succ_at i 100 (by omega) (by omega)]
    generalize rdv l x = r at ok ⊢
    obtain ⟨n, at', b⟩ := r
    simp only at ok ⊢
    cases b
    · exact ⟨_, rfl, rfl, by simp⟩
    · have o := ok rfl
      simp only [if_true]
      exact ih k (i + 1) at' (acc ++ [n]) (by omega) (by omega) (by simp [ha]) (by omega)
theorem decsame (k : Nat) (l : List Int) (x c : Int) (hl : l.length ≤ 4194304) (hw : ∀ z ∈ l, 0 ≤ z ∧ z ≤ 255) (hk : 130 < k) : ∃ r, spec_DecodeInts.f k l x c = some r ∧ impl_DecodeInts.f k l x c = some r ∧ r.1.length ≤ 100 := by
  obtain ⟨k, rfl⟩ : ∃ m, k = m + 1 := ⟨k - 1, by omega⟩
  unfold spec_DecodeInts.f impl_DecodeInts.f
  simp only [l1In_eq, inRange_eq, Option.bind_some, spec_DecodeInts.j0, impl_DecodeInts.j0]
  cases h1 : inr c 0 100
  · exact ⟨_, rfl, rfl, by simp⟩
  cases h2 : inr x 0 (l.length : Int)
  · exact ⟨_, rfl, rfl, by simp⟩
  rw [inr_iff] at h1 h2
  simp only [if_true, Bool.not_true, Bool.false_eq_true, if_false]
  exact decboth l c hl hw (by omega) c.toNat k 0 x [] (by omega) (by omega) rfl (by omega)
theorem laws_toByteS_loop (l : List Int) (hl : l.length ≤ 4611686018427387904) : ∀ (d k i : Nat) (out : List Int), i + d = l.length → d < k → out.length = l.length → (∀ j, j < i → out[j]? = l[j]?) → laws_toByteS.l0 k l out (i : Int) = some l := by
  intro d
  induction d with
  | zero =>
    intro k i out hi hk ho hj
    obtain ⟨k, rfl⟩ : ∃ m, k = m + 1 := ⟨k - 1, by omega⟩
    simp only [laws_toByteS.l0]
    rw [if_neg (by omega)]
    congr 1
    apply List.ext_getElem?
    intro j
    rcases Nat.lt_or_ge j i with h | h
    · exact hj j h
    · rw [List.getElem?_eq_none (by omega), List.getElem?_eq_none (by omega)]
  | succ d ih =>
    intro k i out hi hk ho hj
    obtain ⟨k, rfl⟩ : ∃ m, k = m + 1 := ⟨k - 1, by omega⟩
    simp only [laws_toByteS.l0]
    rw [if_pos (by omega), if_pos (by omega), if_pos (by omega), succ_at i l.length (by omega) hl, rd_at l i (by omega)]
    refine ih k (i + 1) _ (by omega) (by omega) (by simp [ho]) ?_
    intro j h
    rw [show ((i : Int)).toNat = i by omega, List.getElem?_set]
    by_cases e : i = j
    · subst e
      rw [if_pos rfl, if_pos (by omega), List.getElem?_eq_getElem (by omega)]
    · rw [if_neg e]
      exact hj j (by omega)
theorem laws_toByteS_eq (k : Nat) (l : List Int) (hk : l.length < k) (hl : l.length ≤ 1048576) : laws_toByteS.f k l = some l := by
  unfold laws_toByteS.f
  rw [if_pos (by omega), if_pos (by omega)]
  exact laws_toByteS_loop l (by omega) l.length k 0 _ (by omega) (by omega) (by simp) (by omega)
theorem laws_eqByteS_loop (l : List Int) (hl : l.length ≤ 4611686018427387904) : ∀ (d k i : Nat), i + d = l.length → d < k → laws_eqByteS.l0 k l l (i : Int) = some true := by
  intro d
  induction d with
  | zero =>
    intro k i hi hk
    obtain ⟨k, rfl⟩ : ∃ m, k = m + 1 := ⟨k - 1, by omega⟩
    simp only [laws_eqByteS.l0]
    rw [if_neg (by omega)]
  | succ d ih =>
    intro k i hi hk
    obtain ⟨k, rfl⟩ : ∃ m, k = m + 1 := ⟨k - 1, by omega⟩
    simp only [laws_eqByteS.l0]
    rw [if_pos (by omega), if_pos (by omega), if_pos (by omega), if_pos trivial, succ_at i l.length (by omega) hl]
    exact ih k (i + 1) (by omega) (by omega)
theorem laws_eqByteS_self (k : Nat) (l : List Int) (hk : l.length < k) (hl : l.length ≤ 4611686018427387904) : laws_eqByteS.f k l l = some true := by
  unfold laws_eqByteS.f
  rw [if_pos rfl]
  exact laws_eqByteS_loop l hl l.length k 0 (by omega) (by omega)
theorem laws_eqIntS_loop (l : List Int) (hl : l.length ≤ 4611686018427387904) : ∀ (d k i : Nat), i + d = l.length → d < k → laws_eqIntS.l0 k l l (i : Int) = some true := by
  intro d
  induction d with
  | zero =>
    intro k i hi hk
    obtain ⟨k, rfl⟩ : ∃ m, k = m + 1 := ⟨k - 1, by omega⟩
    simp only [laws_eqIntS.l0]
    rw [if_neg (by omega)]
  | succ d ih =>
    intro k i hi hk
    obtain ⟨k, rfl⟩ : ∃ m, k = m + 1 := ⟨k - 1, by omega⟩
    simp only [laws_eqIntS.l0]
    rw [if_pos (by omega), if_pos (by omega), if_pos (by omega), if_pos trivial, succ_at i l.length (by omega) hl]
    exact ih k (i + 1) (by omega) (by omega)
theorem laws_eqIntS_self (k : Nat) (l : List Int) (hk : l.length < k) (hl : l.length ≤ 4611686018427387904) : laws_eqIntS.f k l l = some true := by
  unfold laws_eqIntS.f
  rw [if_pos rfl]
  exact laws_eqIntS_loop l hl l.length k 0 (by omega) (by omega)
def laws_markIntS_val (m : Int) : Int := m
theorem laws_markIntS_loop (s : Int) (hs : 0 ≤ s ∧ s ≤ 1152921504606846976) (n : Nat) (hn : n ≤ 1152921504606846976) : ∀ (d k i : Nat) (l : List Int), i + d = n → l.length = n → d < k → (∀ j, j < i → l[j]? = some (laws_markIntS_val (s + (j : Int)))) →
    ∃ l', laws_markIntS.l0 k l (s + (i : Int)) (i : Int) = some (s + (n : Int), l') ∧ l'.length = n ∧ ∀ j, j < n → l'[j]? = some (laws_markIntS_val (s + (j : Int))) := by
  intro d
  induction d with
  | zero =>
    intro k i l hi hl hk hj
    obtain ⟨k, rfl⟩ : ∃ m, k = m + 1 := ⟨k - 1, by omega⟩
    simp only [laws_markIntS.l0]
    rw [if_neg (by omega)]
    obtain rfl : i = n := by omega
    exact ⟨l, rfl, hl, hj⟩
  | succ d ih =>
    intro k i l hi hl hk hj
    obtain ⟨k, rfl⟩ : ∃ m, k = m + 1 := ⟨k - 1, by omega⟩
    simp only [laws_markIntS.l0]
    rw [if_pos (by omega), if_pos (by omega), succ_at i n (by omega) (by omega), show wrap64 (s + (i : Int) + 1) = s + ((i + 1 : Nat) : Int) by unfold wrap64; omega]
    refine ih k (i + 1) _ (by omega) (by simp [hl]) (by omega) ?_
    intro j h
    rw [show ((i : Int)).toNat = i by omega, List.getElem?_set]
    by_cases e : i = j
    · subst e
      rw [if_pos rfl, if_pos (by omega)]
      rfl
    · rw [if_neg e]
      exact hj j (by omega)
theorem laws_heldIntS_loop (s : Int) (hs : 0 ≤ s ∧ s ≤ 1152921504606846976) (n : Nat) (hn : n ≤ 1152921504606846976) (l : List Int) (hl : l.length = n) (hj : ∀ j, j < n → l[j]? = some (laws_markIntS_val (s + (j : Int)))) : ∀ (d k i : Nat), i + d = n → d < k →
    laws_heldIntS.l0 k l (s + (i : Int)) (i : Int) = some (s + (n : Int)) := by
  intro d
  induction d with
  | zero =>
    intro k i hi hk
    obtain ⟨k, rfl⟩ : ∃ m, k = m + 1 := ⟨k - 1, by omega⟩
    simp only [laws_heldIntS.l0]
    rw [if_neg (by omega)]
    obtain rfl : i = n := by omega
    rfl
  | succ d ih =>
    intro k i hi hk
    obtain ⟨k, rfl⟩ : ∃ m, k = m + 1 := ⟨k - 1, by omega⟩
    have e := hj i (by omega)
    rw [List.getElem?_eq_getElem (by omega)] at e
    have e' : rd l (i : Int) = laws_markIntS_val (s + (i : Int)) := by rw [rd_at l i (by omega)]; exact Option.some.inj e
    simp only [laws_heldIntS.l0]
    rw [if_pos (by omega), if_pos (by omega), e', if_pos (by rfl), succ_at i n (by omega) (by omega), show wrap64 (s + (i : Int) + 1) = s + ((i + 1 : Nat) : Int) by unfold wrap64; omega]
    exact ih k (i + 1) (by omega) (by omega)
theorem laws_markIntS_held (k : Nat) (l : List Int) (s : Int) (hk : l.length < k) (hl : l.length ≤ 1048576000) (hs : 0 ≤ s ∧ s ≤ 1152921504606846976) : ∃ l', laws_markIntS.f k l s = some (s + (l.length : Int), l') ∧ laws_heldIntS.f k l' s = some (s + (l.length : Int)) := by
  obtain ⟨l', h1, h2, h3⟩ := laws_markIntS_loop s hs l.length (by omega) l.length k 0 l (by omega) rfl (by omega) (by omega)
  refine ⟨l', ?_, ?_⟩
  · unfold laws_markIntS.f
    simpa using h1
  · unfold laws_heldIntS.f
    simpa using laws_heldIntS_loop s hs l.length (by omega) l' h2 h3 l.length k 0 (by omega) (by omega)
theorem laws_markByteS_mloop (s : Int) (hs : 0 ≤ s ∧ s ≤ 1152921504606846976) (n : Nat) (hn : n ≤ 1152921504606846976) : ∀ (d k i : Nat) (l : List Int), i + d = n → l.length = n → d < k → ∃ l', laws_markByteS.l0 k l (s + (i : Int)) (i : Int) = some (s + (n : Int), l') := by
  intro d
  induction d with
  | zero =>
    intro k i l hi hl hk
    obtain ⟨k, rfl⟩ : ∃ m, k = m + 1 := ⟨k - 1, by omega⟩
    simp only [laws_markByteS.l0]
    rw [if_neg (by omega)]
    obtain rfl : i = n := by omega
    exact ⟨l, rfl⟩
  | succ d ih =>
    intro k i l hi hl hk
    obtain ⟨k, rfl⟩ : ∃ m, k = m + 1 := ⟨k - 1, by omega⟩
    simp only [laws_markByteS.l0]
    rw [if_pos (by omega), if_pos (by omega), succ_at i n (by omega) (by omega), show wrap64 (s + (i : Int) + 1) = s + ((i + 1 : Nat) : Int) by unfold wrap64; omega]
    exact ih k (i + 1) _ (by omega) (by simp [hl]) (by omega)
theorem laws_markByteS_some (k : Nat) (l : List Int) (s : Int) (hk : l.length < k) (hl : l.length ≤ 1048576000) (hs : 0 ≤ s ∧ s ≤ 1152921504606846976) : ∃ l', laws_markByteS.f k l s = some (s + (l.length : Int), l') := by
  obtain ⟨l', h1⟩ := laws_markByteS_mloop s hs l.length (by omega) l.length k 0 l (by omega) rfl (by omega)
  refine ⟨l', ?_⟩
  unfold laws_markByteS.f
  simpa using h1
theorem main : laws_FnExactDecodeInts.Pure := by
  intro l x m _ hw0 hx _
  have hw : ∀ z ∈ l, 0 ≤ z ∧ z ≤ 255 := fun z hz => u8_range (hw0 z hz)
  obtain ⟨K, hK⟩ : ∃ K, K = l.length + 200 := ⟨_, rfl⟩
  refine ⟨K + 3, ?_⟩
  unfold laws_FnExactDecodeInts.f
  by_cases h1 : (l.length : Int) > 1048576
  · rw [if_pos h1]
  rw [if_neg h1]
  obtain ⟨r, s1, i1, hr⟩ := decsame (K + 3) l x m (by omega) hw (by omega)
  obtain ⟨r2, s2, i2, _⟩ := decsame (K + 1) l x m (by omega) hw (by omega)
  have e : r2 = r := by
    have := at_rounds (fun k => spec_DecodeInts.mono l x m k) (show K + 1 ≤ K + 3 by omega) s2
    rw [s1] at this
    exact (Option.some.inj this).symm
  subst e
  have hl := laws_toByteS_eq (K + 3) l (by omega) (by omega)
  have hl2 := laws_toByteS_eq (K + 2) l (by omega) (by omega)
  have hl1 := laws_toByteS_eq (K + 1) l (by omega) (by omega)
  have el := laws_eqByteS_self (K + 2) l (by omega) (by omega)
  have er := laws_eqIntS_self (K + 3) r2.1 (by omega) (by omega)
  have er2 := laws_eqIntS_self (K + 2) r2.1 (by omega) (by omega)
  have er1 := laws_eqIntS_self (K + 1) r2.1 (by omega) (by omega)
  obtain ⟨l', m1⟩ := laws_markByteS_some (K + 2) l 1 (by omega) (by omega) (by omega)
  obtain ⟨r', m2, m3⟩ := laws_markIntS_held (K + 1) r2.1 1 (by omega) (by omega) (by omega)
  have m4 : laws_heldIntS.f K r' 1 = some (1 + (r2.1.length : Int)) := by
    obtain ⟨r3, n1, n2⟩ := laws_markIntS_held K r2.1 1 (by omega) (by omega) (by omega)
    have := at_rounds (fun k => laws_markIntS.mono r2.1 1 k) (show K ≤ K + 1 by omega) n1
    rw [m2] at this
    have e : r' = r3 := (Prod.mk.inj (Option.some.inj this)).2
    rw [e]
    exact n2
  simp only [hl, s1, i1, er, Option.bind_some, if_true, bne_self_eq_false]
  simp only [laws_FnExactDecodeInts.j0, Bool.false_eq_true, if_false, hl2, el, m1, Option.bind_some, if_true]
  rw [if_neg (by omega)]
  simp only [er2, Option.bind_some, if_true, bne_self_eq_false]
  simp only [laws_FnExactDecodeInts.j1, Bool.false_eq_true, if_false, m2, m3, Option.bind_some, if_true]
  rw [if_neg (by omega)]
  simp only [hl1, i2, er1, Option.bind_some, if_true, bne_self_eq_false]
  simp only [laws_FnExactDecodeInts.j2, Bool.false_eq_true, if_false, m4, Option.bind_some, if_true]
  rw [if_neg (by omega)]

end Go.Proofs.Ytoocbgjcigadfac.PureFnExactDecodeInts
namespace Go.Proofs.Ytoocbgjcigadfac.Pure
/-- The pure statement. -/
theorem FnExactDecodeInts : Go.Proofs.Ytoocbgjcigadfac.PureFnExactDecodeInts.laws_FnExactDecodeInts.Pure := Go.Proofs.Ytoocbgjcigadfac.PureFnExactDecodeInts.main
end Go.Proofs.Ytoocbgjcigadfac.Pure

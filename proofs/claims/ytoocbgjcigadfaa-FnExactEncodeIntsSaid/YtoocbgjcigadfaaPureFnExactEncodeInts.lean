/- The printed law FnExactEncodeInts, as a function of numbers and lists, answers true for all arguments that a call can be given; no conditions beyond the sizes that memory allows. -/
import Derived.Test.YtoocbgjcigadfaaPFnExactEncodeIntsx2
namespace Go.Proofs.Ytoocbgjcigadfaa.PureFnExactEncodeInts
open Go.RowKit Go.Proofs.Ytoocbgjcigadfaa.PFnExactEncodeInts Go.Proofs.YtoocbgjcigadfaaW.PrintWords Go.Proofs.YtoocbgjcigadfaaW.PrintLast Go.Proofs.YtoocbgjcigadfaaW.PrintMore
set_option linter.unusedVariables false
set_option linter.unusedSimpArgs false

/-- The pure statement of laws_FnExactEncodeInts, typed by lawfill.py as print.sh types it where it does. -/
def laws_FnExactEncodeInts.Pure : Prop := ∀ (l0 : List Int), l0.length ≤ maxLen → (∀ x ∈ l0, (Lit.int .i64 x).wf = true) → ∃ k, laws_FnExactEncodeInts.f k l0 = some true

def inr (a b c : Int) : Bool := decide (b ≤ a) && decide (a ≤ c)
theorem inr_iff (a b c : Int) : inr a b c = true ↔ b ≤ a ∧ a ≤ c := by unfold inr; simp
theorem l1In_eq (a b c : Int) : spec_l1In.f a b c = some (inr a b c) := by
  unfold spec_l1In.f inr
  by_cases h : b ≤ a <;> simp [h]
theorem inRange_eq (a b c : Int) : impl_InRange.f a b c = some (inr a b c) := by
  unfold impl_InRange.f inr
  by_cases h : b ≤ a <;> simp [h]
theorem rd_at (xs : List Int) (i : Nat) (h : i < xs.length) : rd xs (i : Int) = xs[i] := by
  unfold rd
  simp [List.getD_eq_getElem?_getD, h]
theorem succ_at (i n : Nat) (h : i < n) (hn : n ≤ 4611686018427387904) : wrap64 ((i : Int) + 1) = ((i + 1 : Nat) : Int) := by
  unfold wrap64
  omega
theorem wrap_id (n : Int) (h0 : -9223372036854775808 ≤ n) (h1 : n ≤ 9223372036854775807) : wrap64 n = n := by
  unfold wrap64
  omega
theorem wraps_i64 (n : Int) (h0 : 0 ≤ n) (h1 : n < 2 ^ 63) : IntKind.i64.wrap n = n := by
  rw [IntKind.wrap_i64]
  omega
theorem and127 (n : Int) (h0 : 0 ≤ n) (h1 : n < 2 ^ 63) : Go.bits .and .i64 n 127 = n % 128 :=
  bits_mask .i64 63 (by decide) wraps_i64 7 (by decide) n h0 h1
theorem and127b (n : Int) (h0 : 0 ≤ n) (h1 : n < 2 ^ 8) : Go.bits .and .u8 n 127 = n % 128 :=
  bits_mask .u8 8 (by decide) wraps_u8 7 (by decide) n h0 h1
theorem grp_tab : ∀ r : Fin 128, (Go.bits .or .i64 (r.val : Int) 128) % 256 = (r.val : Int) + 128 ∧ Go.bits .or .u8 ((r.val : Int) % 256) 128 = (r.val : Int) + 128 := by decide +kernel
theorem grp_s (n : Int) (h0 : 0 ≤ n) (h1 : n < 2 ^ 63) : (Go.bits .or .i64 (Go.bits .and .i64 n 127) 128) % 256 = n % 128 + 128 := by
  rw [and127 n h0 h1]
  have h := (grp_tab ⟨(n % 128).toNat, by omega⟩).1
  simp only [Int.toNat_of_nonneg (show 0 ≤ n % 128 by omega)] at h
  exact h
theorem grp_i (n : Int) (h0 : 0 ≤ n) (h1 : n < 2 ^ 63) : Go.bits .or .u8 ((Go.bits .and .i64 n 127) % 256) 128 = n % 128 + 128 := by
  rw [and127 n h0 h1]
  have h := (grp_tab ⟨(n % 128).toNat, by omega⟩).2
  simp only [Int.toNat_of_nonneg (show 0 ≤ n % 128 by omega)] at h
  exact h
def enc : Nat → Int → List Int
  | 0, n => [n % 256]
  | f + 1, n => if n > 127 then (n % 128 + 128) :: enc f (n / 128) else [n % 256]
theorem enc_length (f : Nat) : ∀ n : Int, 1 ≤ (enc f n).length ∧ (enc f n).length ≤ f + 1 := by
  induction f with
  | zero => intro n; simp [enc]
  | succ f ih =>
    intro n
    unfold enc
    split
    · have := ih (n / 128)
      simp only [List.length_cons]
      omega
    · simp
theorem sAppend_loop (f : Nat) : ∀ (k : Nat) (n : Int) (out : List Int), 0 ≤ n → n < 2 ^ 63 → n < 128 ^ (f + 1) → f < k → out.length + f < 70368744177664 → spec_AppendUvarint.l0 k n out = some (out ++ enc f n) := by
  induction f with
  | zero =>
    intro k n out h0 h63 h1 hk ho
    obtain ⟨k, rfl⟩ : ∃ m, k = m + 1 := ⟨k - 1, by omega⟩
    simp only [spec_AppendUvarint.l0]
    rw [if_neg (by omega), if_pos (by omega)]
    rfl
  | succ f ih =>
    intro k n out h0 h63 h1 hk ho
    obtain ⟨k, rfl⟩ : ∃ m, k = m + 1 := ⟨k - 1, by omega⟩
    simp only [spec_AppendUvarint.l0]
    rw [Int.pow_succ] at h1
    by_cases h : n > 127
    · rw [if_pos h, if_pos (by omega), grp_s n h0 h63, ih k (n / 128) _ (by omega) (by omega) (by generalize (128 : Int) ^ (f + 1) = P at *; omega) (by omega) (by simp; omega)]
      simp [enc, h]
    · rw [if_neg h, if_pos (by omega)]
      simp [enc, h]
theorem iAppend_loop (f : Nat) : ∀ (k : Nat) (n : Int) (out : List Int), 0 ≤ n → n < 2 ^ 63 → n < 128 ^ (f + 1) → f < k → out.length + f < 70368744177664 → impl_AppendUvarint.l0 k n out = some (out ++ enc f n) := by
  induction f with
  | zero =>
    intro k n out h0 h63 h1 hk ho
    obtain ⟨k, rfl⟩ : ∃ m, k = m + 1 := ⟨k - 1, by omega⟩
    simp only [impl_AppendUvarint.l0]
    rw [if_neg (by omega), if_pos (by omega)]
    rfl
  | succ f ih =>
    intro k n out h0 h63 h1 hk ho
    obtain ⟨k, rfl⟩ : ∃ m, k = m + 1 := ⟨k - 1, by omega⟩
    simp only [impl_AppendUvarint.l0]
    rw [Int.pow_succ] at h1
    by_cases h : n > 127
    · rw [if_pos h, if_pos (by omega), grp_i n h0 h63, ih k (n / 128) _ (by omega) (by omega) (by generalize (128 : Int) ^ (f + 1) = P at *; omega) (by omega) (by simp; omega)]
      simp [enc, h]
    · rw [if_neg h, if_pos (by omega)]
      simp [enc, h]
/-- What both append. -/
def encd (l : List Int) (n : Int) : List Int := if inr n 0 1000000000000 = true then l ++ enc 5 n else l
theorem encd_length (l : List Int) (n : Int) : l.length ≤ (encd l n).length ∧ (encd l n).length ≤ l.length + 6 := by
  unfold encd
  split
  · have := enc_length 5 n
    simp only [List.length_append]
    omega
  · omega
theorem sAppend (k : Nat) (l : List Int) (n : Int) (hl : l.length ≤ 35184372088832) (hk : 6 < k) : spec_AppendUvarint.f k l n = some (encd l n) := by
  unfold spec_AppendUvarint.f encd
  simp only [Option.bind_some, l1In_eq, List.nil_append, List.length_nil]
  rw [if_pos (by omega)]
  by_cases h : inr n 0 1000000000000 = true
  · rw [if_pos h, if_pos h]
    rw [inr_iff] at h
    exact sAppend_loop 5 k n l (by omega) (by omega) (by omega) (by omega) (by omega)
  · rw [if_neg h, if_neg h]
theorem iAppend (k : Nat) (l : List Int) (n : Int) (hl : l.length ≤ 35184372088832) (hk : 6 < k) : impl_AppendUvarint.f k l n = some (encd l n) := by
  unfold impl_AppendUvarint.f encd
  simp only [Option.bind_some, inRange_eq, List.nil_append, List.length_nil]
  rw [if_pos (by omega)]
  by_cases h : inr n 0 1000000000000 = true
  · rw [if_pos h, if_pos h]
    rw [inr_iff] at h
    exact iAppend_loop 5 k n l (by omega) (by omega) (by omega) (by omega) (by omega)
  · rw [if_neg h, if_neg h]
theorem laws_toIntS_loop (l : List Int) (hl : l.length ≤ 4611686018427387904) : ∀ (d k i : Nat) (out : List Int), i + d = l.length → d < k → out.length = l.length → (∀ j, j < i → out[j]? = l[j]?) → laws_toIntS.l0 k l out (i : Int) = some l := by
  intro d
  induction d with
  | zero =>
    intro k i out hi hk ho hj
    obtain ⟨k, rfl⟩ : ∃ m, k = m + 1 := ⟨k - 1, by omega⟩
    simp only [laws_toIntS.l0]
    rw [if_neg (by omega)]
    congr 1
    apply List.ext_getElem?
    intro j
    rcases Nat.lt_or_ge j i with h | h
    · exact hj j h
    · rw [List.getElem?_eq_none (by omega), List.getElem?_eq_none (by omega)]
  | succ d ih =>
    intro k i out hi hk ho hj
    obtain ⟨k, rfl⟩ : ∃ m, k = m + 1 := ⟨k - 1, by omega⟩
    simp only [laws_toIntS.l0]
    rw [if_pos (by omega), if_pos (by omega), if_pos (by omega), succ_at i l.length (by omega) hl, rd_at l i (by omega)]
    refine ih k (i + 1) _ (by omega) (by omega) (by simp [ho]) ?_
    intro j h
    rw [show ((i : Int)).toNat = i by omega, List.getElem?_set]
    by_cases e : i = j
    · subst e
      rw [if_pos rfl, if_pos (by omega), List.getElem?_eq_getElem (by omega)]
    · rw [if_neg e]
      exact hj j (by omega)
theorem laws_toIntS_eq (k : Nat) (l : List Int) (hk : l.length < k) (hl : l.length ≤ 1048576) : laws_toIntS.f k l = some l := by
  unfold laws_toIntS.f
  rw [if_pos (by omega), if_pos (by omega)]
  exact laws_toIntS_loop l (by omega) l.length k 0 _ (by omega) (by omega) (by simp) (by omega)
theorem laws_eqIntS_loop (l : List Int) (hl : l.length ≤ 4611686018427387904) : ∀ (d k i : Nat), i + d = l.length → d < k → laws_eqIntS.l0 k l l (i : Int) = some true := by
  intro d
  induction d with
  | zero =>
    intro k i hi hk
    obtain ⟨k, rfl⟩ : ∃ m, k = m + 1 := ⟨k - 1, by omega⟩
    simp only [laws_eqIntS.l0]
    rw [if_neg (by omega)]
  | succ d ih =>
    intro k i hi hk
    obtain ⟨k, rfl⟩ : ∃ m, k = m + 1 := ⟨k - 1, by omega⟩
    simp only [laws_eqIntS.l0]
    rw [if_pos (by omega), if_pos (by omega), if_pos (by omega), if_pos trivial, succ_at i l.length (by omega) hl]
    exact ih k (i + 1) (by omega) (by omega)
theorem laws_eqIntS_self (k : Nat) (l : List Int) (hk : l.length < k) (hl : l.length ≤ 4611686018427387904) : laws_eqIntS.f k l l = some true := by
  unfold laws_eqIntS.f
  rw [if_pos rfl]
  exact laws_eqIntS_loop l hl l.length k 0 (by omega) (by omega)
theorem laws_eqByteS_loop (l : List Int) (hl : l.length ≤ 4611686018427387904) : ∀ (d k i : Nat), i + d = l.length → d < k → laws_eqByteS.l0 k l l (i : Int) = some true := by
  intro d
  induction d with
  | zero =>
    intro k i hi hk
    obtain ⟨k, rfl⟩ : ∃ m, k = m + 1 := ⟨k - 1, by omega⟩
    simp only [laws_eqByteS.l0]
    rw [if_neg (by omega)]
  | succ d ih =>
    intro k i hi hk
    obtain ⟨k, rfl⟩ : ∃ m, k = m + 1 := ⟨k - 1, by omega⟩
    simp only [laws_eqByteS.l0]
    rw [if_pos (by omega), if_pos (by omega), if_pos (by omega), if_pos trivial, succ_at i l.length (by omega) hl]
    exact ih k (i + 1) (by omega) (by omega)
theorem laws_eqByteS_self (k : Nat) (l : List Int) (hk : l.length < k) (hl : l.length ≤ 4611686018427387904) : laws_eqByteS.f k l l = some true := by
  unfold laws_eqByteS.f
  rw [if_pos rfl]
  exact laws_eqByteS_loop l hl l.length k 0 (by omega) (by omega)
def laws_markByteS_val (m : Int) : Int := m % 256
theorem laws_markByteS_loop (s : Int) (hs : 0 ≤ s ∧ s ≤ 1152921504606846976) (n : Nat) (hn : n ≤ 1152921504606846976) : ∀ (d k i : Nat) (l : List Int), i + d = n → l.length = n → d < k → (∀ j, j < i → l[j]? = some (laws_markByteS_val (s + (j : Int)))) →
    ∃ l', laws_markByteS.l0 k l (s + (i : Int)) (i : Int) = some (s + (n : Int), l') ∧ l'.length = n ∧ ∀ j, j < n → l'[j]? = some (laws_markByteS_val (s + (j : Int))) := by
  intro d
  induction d with
  | zero =>
    intro k i l hi hl hk hj
    obtain ⟨k, rfl⟩ : ∃ m, k = m + 1 := ⟨k - 1, by omega⟩
    simp only [laws_markByteS.l0]
    rw [if_neg (by omega)]
    obtain rfl : i = n := by omega
    exact ⟨l, rfl, hl, hj⟩
  | succ d ih =>
    intro k i l hi hl hk hj
    obtain ⟨k, rfl⟩ : ∃ m, k = m + 1 := ⟨k - 1, by omega⟩
    simp only [laws_markByteS.l0]
    rw [if_pos (by omega), if_pos (by omega), succ_at i n (by omega) (by omega), show wrap64 (s + (i : Int) + 1) = s + ((i + 1 : Nat) : Int) by unfold wrap64; omega]
    refine ih k (i + 1) _ (by omega) (by simp [hl]) (by omega) ?_
    intro j h
    rw [show ((i : Int)).toNat = i by omega, List.getElem?_set]
    by_cases e : i = j
    · subst e
      rw [if_pos rfl, if_pos (by omega)]
      rfl
    · rw [if_neg e]
      exact hj j (by omega)
theorem laws_heldByteS_loop (s : Int) (hs : 0 ≤ s ∧ s ≤ 1152921504606846976) (n : Nat) (hn : n ≤ 1152921504606846976) (l : List Int) (hl : l.length = n) (hj : ∀ j, j < n → l[j]? = some (laws_markByteS_val (s + (j : Int)))) : ∀ (d k i : Nat), i + d = n → d < k →
    laws_heldByteS.l0 k l (s + (i : Int)) (i : Int) = some (s + (n : Int)) := by
  intro d
  induction d with
  | zero =>
    intro k i hi hk
    obtain ⟨k, rfl⟩ : ∃ m, k = m + 1 := ⟨k - 1, by omega⟩
    simp only [laws_heldByteS.l0]
    rw [if_neg (by omega)]
    obtain rfl : i = n := by omega
    rfl
  | succ d ih =>
    intro k i hi hk
    obtain ⟨k, rfl⟩ : ∃ m, k = m + 1 := ⟨k - 1, by omega⟩
    have e := hj i (by omega)
    rw [List.getElem?_eq_getElem (by omega)] at e
    have e' : rd l (i : Int) = laws_markByteS_val (s + (i : Int)) := by rw [rd_at l i (by omega)]; exact Option.some.inj e
    simp only [laws_heldByteS.l0]
    rw [if_pos (by omega), if_pos (by omega), e', if_pos (by rfl), succ_at i n (by omega) (by omega), show wrap64 (s + (i : Int) + 1) = s + ((i + 1 : Nat) : Int) by unfold wrap64; omega]
    exact ih k (i + 1) (by omega) (by omega)
theorem laws_markByteS_held (k : Nat) (l : List Int) (s : Int) (hk : l.length < k) (hl : l.length ≤ 1048576000) (hs : 0 ≤ s ∧ s ≤ 1152921504606846976) : ∃ l', laws_markByteS.f k l s = some (s + (l.length : Int), l') ∧ laws_heldByteS.f k l' s = some (s + (l.length : Int)) := by
  obtain ⟨l', h1, h2, h3⟩ := laws_markByteS_loop s hs l.length (by omega) l.length k 0 l (by omega) rfl (by omega) (by omega)
  refine ⟨l', ?_, ?_⟩
  · unfold laws_markByteS.f
    simpa using h1
  · unfold laws_heldByteS.f
    simpa using laws_heldByteS_loop s hs l.length (by omega) l' h2 h3 l.length k 0 (by omega) (by omega)
theorem laws_markIntS_mloop (s : Int) (hs : 0 ≤ s ∧ s ≤ 1152921504606846976) (n : Nat) (hn : n ≤ 1152921504606846976) : ∀ (d k i : Nat) (l : List Int), i + d = n → l.length = n → d < k → ∃ l', laws_markIntS.l0 k l (s + (i : Int)) (i : Int) = some (s + (n : Int), l') := by
  intro d
  induction d with
  | zero =>
    intro k i l hi hl hk
    obtain ⟨k, rfl⟩ : ∃ m, k = m + 1 := ⟨k - 1, by omega⟩
    simp only [laws_markIntS.l0]
    rw [if_neg (by omega)]
    obtain rfl : i = n := by omega
    exact ⟨l, rfl⟩
  | succ d ih =>
    intro k i l hi hl hk
    obtain ⟨k, rfl⟩ : ∃ m, k = m + 1 := ⟨k - 1, by omega⟩
    simp only [laws_markIntS.l0]
    rw [if_pos (by omega), if_pos (by omega), succ_at i n (by omega) (by omega), show wrap64 (s + (i : Int) + 1) = s + ((i + 1 : Nat) : Int) by unfold wrap64; omega]
    exact ih k (i + 1) _ (by omega) (by simp [hl]) (by omega)
theorem laws_markIntS_some (k : Nat) (l : List Int) (s : Int) (hk : l.length < k) (hl : l.length ≤ 1048576000) (hs : 0 ≤ s ∧ s ≤ 1152921504606846976) : ∃ l', laws_markIntS.f k l s = some (s + (l.length : Int), l') := by
  obtain ⟨l', h1⟩ := laws_markIntS_mloop s hs l.length (by omega) l.length k 0 l (by omega) rfl (by omega)
  refine ⟨l', ?_⟩
  unfold laws_markIntS.f
  simpa using h1
theorem both (l : List Int) (hl : l.length ≤ 1048576) : ∀ (d k i : Nat) (acc : List Int), i + d = l.length → d + 7 < k → acc.length + 6 * d ≤ 8388608 → ∃ r, spec_EncodeInts.l0 k l acc (i : Int) = some r ∧ impl_EncodeInts.l0 k acc l (l.length : Int) (i : Int) = some r ∧ r.length ≤ acc.length + 6 * d := by
  intro d
  induction d with
  | zero =>
    intro k i acc hi hk ha
    obtain ⟨k, rfl⟩ : ∃ m, k = m + 1 := ⟨k - 1, by omega⟩
    have h1 : ¬ (i : Int) < (l.length : Int) := by omega
    simp only [spec_EncodeInts.l0, impl_EncodeInts.l0, if_neg h1]
    exact ⟨acc, rfl, rfl, by omega⟩
  | succ d ih =>
    intro k i acc hi hk ha
    obtain ⟨k, rfl⟩ : ∃ m, k = m + 1 := ⟨k - 1, by omega⟩
    have h1 : (i : Int) < (l.length : Int) := by omega
    have h2 : (0 : Int) ≤ (i : Int) := by omega
    have hn := encd_length acc (rd l (i : Int))
    simp only [spec_EncodeInts.l0, impl_EncodeInts.l0, if_pos h1, if_pos h2, sAppend k acc (rd l (i : Int)) (by omega) (by omega), iAppend k acc (rd l (i : Int)) (by omega) (by omega), Option.bind_some, succ_at i l.length (by omega) (by omega)]
    obtain ⟨r, e1, e2, e3⟩ := ih k (i + 1) (encd acc (rd l (i : Int))) (by omega) (by omega) (by omega)
    exact ⟨r, e1, e2, by omega⟩
theorem main : laws_FnExactEncodeInts.Pure := by
  intro l _ _
  obtain ⟨K, hK⟩ : ∃ K, K = 6 * l.length + 20 := ⟨_, rfl⟩
  refine ⟨K + 1, ?_⟩
  unfold laws_FnExactEncodeInts.f
  by_cases h1 : (l.length : Int) > 1048576
  · rw [if_pos h1]
  rw [if_neg h1]
  have hb : ∀ k, l.length + 7 < k → ∃ r, spec_EncodeInts.f k l = some r ∧ impl_EncodeInts.f k l = some r ∧ r.length ≤ 6 * l.length := fun k hk => by
    obtain ⟨r, e1, e2, e3⟩ := both l (by omega) l.length k 0 [] (by omega) hk (by simp; omega)
    exact ⟨r, e1, e2, by simpa using e3⟩
  obtain ⟨r, s1, i1, hr⟩ := hb (K + 1) (by omega)
  obtain ⟨r2, s2, i2, _⟩ := hb K (by omega)
  have e : r2 = r := by
    have := at_rounds (fun k => spec_EncodeInts.mono l k) (show K ≤ K + 1 by omega) s2
    rw [s1] at this
    exact (Option.some.inj this).symm
  subst e
  have hl := laws_toIntS_eq (K + 1) l (by omega) (by omega)
  have hl' := laws_toIntS_eq K l (by omega) (by omega)
  have el := laws_eqIntS_self (K + 1) l (by omega) (by omega)
  have er := laws_eqByteS_self (K + 1) r2 (by omega) (by omega)
  have er' := laws_eqByteS_self K r2 (by omega) (by omega)
  obtain ⟨l', m1⟩ := laws_markIntS_some (K + 1) l 1 (by omega) (by omega) (by omega)
  obtain ⟨r', m2, m3⟩ := laws_markByteS_held K r2 1 (by omega) (by omega) (by omega)
  simp only [hl, s1, i1, el, er, m1, Option.bind_some, if_true]
  rw [if_neg (by omega)]
  simp only [laws_FnExactEncodeInts.j0, Bool.not_true, Bool.false_eq_true, if_false, hl', m2, m3, Option.bind_some, i2, er', if_true]
  rw [if_neg (by omega)]
  rw [if_neg (by omega)]

end Go.Proofs.Ytoocbgjcigadfaa.PureFnExactEncodeInts
namespace Go.Proofs.Ytoocbgjcigadfaa.Pure
/-- The pure statement. -/
theorem FnExactEncodeInts : Go.Proofs.Ytoocbgjcigadfaa.PureFnExactEncodeInts.laws_FnExactEncodeInts.Pure := Go.Proofs.Ytoocbgjcigadfaa.PureFnExactEncodeInts.main
end Go.Proofs.Ytoocbgjcigadfaa.Pure

/- The printed law FnExactEncrypt, as a function of numbers and lists, answers true for all arguments that a call can be given; no conditions beyond the sizes that memory allows. -/
import Derived.Test.YtoocbgjcigadfaaWkFnExactEncryptx3
namespace Go.Proofs.Ytoocbgjcigadfaa.PureFnExactEncrypt
open Go.RowKit Go.Proofs.Ytoocbgjcigadfaa.PFnExactEncrypt Go.Proofs.YtoocbgjcigadfaaW.PrintWords Go.Proofs.YtoocbgjcigadfaaW.PrintLast Go.Proofs.YtoocbgjcigadfaaW.PrintMore
set_option linter.unusedVariables false
set_option linter.unusedSimpArgs false

/-- The pure statement of laws_FnExactEncrypt, typed by lawfill.py as print.sh types it where it does. -/
def laws_FnExactEncrypt.Pure : Prop := ∀ (a0 : Int) (l1 : List Int), (Lit.int .i64 a0).wf = true → l1.length ≤ maxLen → (∀ x ∈ l1, (Lit.int .u8 x).wf = true) → ∃ k, laws_FnExactEncrypt.f k a0 l1 = some true

def inr (a b c : Int) : Bool := decide (b ≤ a) && decide (a ≤ c)
theorem inr_iff (a b c : Int) : inr a b c = true ↔ b ≤ a ∧ a ≤ c := by unfold inr; simp
theorem l1In_eq (a b c : Int) : spec_l1In.f a b c = some (inr a b c) := by
  unfold spec_l1In.f inr
  by_cases h : b ≤ a <;> simp [h]
theorem inRange_eq (a b c : Int) : impl_InRange.f a b c = some (inr a b c) := by
  unfold impl_InRange.f inr
  by_cases h : b ≤ a <;> simp [h]
theorem rd_at (xs : List Int) (i : Nat) (h : i < xs.length) : rd xs (i : Int) = xs[i] := by
  unfold rd
  simp [List.getD_eq_getElem?_getD, h]
theorem succ_at (i n : Nat) (h : i < n) (hn : n ≤ 4611686018427387904) : wrap64 ((i : Int) + 1) = ((i + 1 : Nat) : Int) := by
  unfold wrap64
  omega
theorem wrap_id (n : Int) (h0 : -9223372036854775808 ≤ n) (h1 : n ≤ 9223372036854775807) : wrap64 n = n := by
  unfold wrap64
  omega
theorem u8_range {z : Int} (h : (Lit.int .u8 z).wf = true) : 0 ≤ z ∧ z ≤ 255 := by
  simp only [Lit.wf, Bool.and_eq_true, decide_eq_true_eq] at h
  have e1 : IntKind.u8.min = 0 := by decide
  have e2 : IntKind.u8.max = 255 := by decide
  omega
theorem i64_range {z : Int} (h : (Lit.int .i64 z).wf = true) : -9223372036854775808 ≤ z ∧ z ≤ 9223372036854775807 := by
  simp only [Lit.wf, Bool.and_eq_true, decide_eq_true_eq] at h
  have e1 : IntKind.i64.min = -9223372036854775808 := by decide
  have e2 : IntKind.i64.max = 9223372036854775807 := by decide
  omega
theorem tmod_range (a b : Int) (hb : 0 < b) : -b < Int.tmod a b ∧ Int.tmod a b < b := by
  rcases Int.le_total 0 a with h | h
  · have h1 := Int.tmod_nonneg b h
    have h2 := Int.tmod_lt_of_pos a hb
    omega
  · have h1 := Int.tmod_nonneg b (a := -a) (by omega)
    have h2 := Int.tmod_lt_of_pos (-a) hb
    rw [Int.neg_tmod] at h1 h2
    omega
def modOf (a b : Int) : Int := if inr b 1 1000000000000 = true then (if Int.tmod a b < 0 then Int.tmod a b + b else Int.tmod a b) else 0
theorem iMod (a b : Int) : impl_Mod.f a b = some (modOf a b) := by
  unfold impl_Mod.f modOf
  simp only [inRange_eq, Option.bind_some]
  by_cases h : inr b 1 1000000000000 = true
  · rw [if_pos h, if_pos h]
    rw [inr_iff] at h
    have hr := tmod_range a b (by omega)
    rw [if_neg (by omega)]
    by_cases n : Int.tmod a b < 0
    · rw [if_pos n, if_pos n]
      congr 1
      unfold wrap64
      omega
    · rw [if_neg n, if_neg n]
  · rw [if_neg h, if_neg h]
theorem sMod (a b : Int) : spec_Mod.f a b = some (modOf a b) := by
  unfold spec_Mod.f modOf
  simp only [l1In_eq, Option.bind_some]
  by_cases h : inr b 1 1000000000000 = true
  · rw [if_pos h, if_pos h]
    rw [inr_iff] at h
    have hr := tmod_range a b (by omega)
    rw [if_neg (by omega)]
    congr 1
    rw [show wrap64 (Int.tmod a b + b) = Int.tmod a b + b by unfold wrap64; omega]
    by_cases n : Int.tmod a b < 0
    · rw [if_pos n, Int.tmod_eq_emod_of_nonneg (by omega), Int.emod_eq_of_lt (by omega) (by omega)]
    · rw [if_neg n, Int.tmod_eq_emod_of_nonneg (by omega), Int.add_emod_right, Int.emod_eq_of_lt (by omega) (by omega)]
  · rw [if_neg h, if_neg h]
def step (d v : Int) : Int := Int.tmod (wrap64 ((wrap64 ((wrap64 (d * 1000003)) + modOf v 2147483647)) + 13)) 2147483647
def hashFrom (d : Int) (l : List Int) : Int := l.foldl step d
theorem fold_eq (d v : Int) : impl_fold.f d v = some (step d v) := by
  unfold impl_fold.f step
  rw [iMod]
  rfl
theorem sHash_loop (l : List Int) (hl : l.length ≤ 4611686018427387904) : ∀ (d k i : Nat) (x : Int), i + d = l.length → d < k → spec_Hash.l0 k l x (i : Int) = some (hashFrom x (l.drop i)) := by
  intro d
  induction d with
  | zero =>
    intro k i x hi hk
    obtain ⟨k, rfl⟩ : ∃ m, k = m + 1 := ⟨k - 1, by omega⟩
    simp only [spec_Hash.l0]
    rw [if_neg (by omega), List.drop_of_length_le (by omega)]
    rfl
  | succ d ih =>
    intro k i x hi hk
    obtain ⟨k, rfl⟩ : ∃ m, k = m + 1 := ⟨k - 1, by omega⟩
    simp only [spec_Hash.l0]
    rw [if_pos (by omega), if_pos (by omega), sMod, Option.bind_some, succ_at i l.length (by omega) hl, rd_at l i (by omega), List.drop_eq_getElem_cons (by omega)]
    exact ih k (i + 1) _ (by omega) (by omega)
theorem sHash (k : Nat) (l : List Int) (hl : l.length ≤ 4611686018427387904) (hk : l.length < k) : spec_Hash.f k l = some (hashFrom 11 l) := by
  unfold spec_Hash.f
  exact sHash_loop l hl l.length k 0 11 (by omega) (by omega)
def keyed (s : Int) (l : List Int) : Int := step (hashFrom (step 11 s) l) s
theorem iKeyed_loop (s : Int) (l : List Int) (hl : l.length ≤ 4611686018427387904) : ∀ (d k i : Nat) (x : Int), i + d = l.length → d < k → impl_KeyedHash.l0 k s x l (l.length : Int) (i : Int) = some (step (hashFrom x (l.drop i)) s) := by
  intro d
  induction d with
  | zero =>
    intro k i x hi hk
    obtain ⟨k, rfl⟩ : ∃ m, k = m + 1 := ⟨k - 1, by omega⟩
    simp only [impl_KeyedHash.l0]
    rw [if_neg (by omega), List.drop_of_length_le (by omega), fold_eq, Option.bind_some]
    rfl
  | succ d ih =>
    intro k i x hi hk
    obtain ⟨k, rfl⟩ : ∃ m, k = m + 1 := ⟨k - 1, by omega⟩
    simp only [impl_KeyedHash.l0]
    rw [if_pos (by omega), if_pos (by omega), if_pos (by omega), fold_eq, Option.bind_some, succ_at i l.length (by omega) hl, rd_at l i (by omega), List.drop_eq_getElem_cons (by omega)]
    exact ih k (i + 1) _ (by omega) (by omega)
theorem iKeyed (k : Nat) (s : Int) (l : List Int) (hl : l.length ≤ 4611686018427387904) (hk : l.length < k) : impl_KeyedHash.f k s l = some (keyed s l) := by
  unfold impl_KeyedHash.f
  rw [fold_eq, Option.bind_some]
  exact iKeyed_loop s l hl l.length k 0 _ (by omega) (by omega)
theorem sKeyed (k : Nat) (s : Int) (l : List Int) (hl : l.length ≤ 2097152) (hk : l.length + 2 < k) : spec_KeyedHash.f k s l = some (keyed s l) := by
  unfold spec_KeyedHash.f
  simp only [Option.bind_some]
  rw [if_pos (by simp; omega), if_pos (by simp; omega), sHash k _ (by simp; omega) (by simp; omega), Option.bind_some]
  unfold keyed hashFrom
  simp
theorem modOf_emod (a m : Int) (h : 1 ≤ m ∧ m ≤ 1000000000000) : modOf a m = a % m := by
  unfold modOf
  rw [if_pos (by rw [inr_iff]; exact h)]
  have hr := tmod_range a m (by omega)
  have he : a % m = Int.tmod a m % m := by
    have h2 := Int.mul_tdiv_add_tmod a m
    rw [← Int.mul_add_emod_self_left m (Int.tdiv a m) (Int.tmod a m), h2]
  rw [he]
  by_cases n : Int.tmod a m < 0
  · rw [if_pos n, ← Int.add_emod_right, Int.emod_eq_of_lt (by omega) (by omega)]
  · rw [if_neg n, Int.emod_eq_of_lt (by omega) (by omega)]
theorem step_eq (d v : Int) (h : 0 ≤ d ∧ d < 2147483647) : step d v = (d * 1000003 + v % 2147483647 + 13) % 2147483647 := by
  unfold step
  rw [modOf_emod v 2147483647 (by omega)]
  have : 0 ≤ v % 2147483647 ∧ v % 2147483647 < 2147483647 := ⟨by omega, by omega⟩
  rw [show wrap64 (d * 1000003) = d * 1000003 by unfold wrap64; omega, show wrap64 (d * 1000003 + v % 2147483647) = d * 1000003 + v % 2147483647 by unfold wrap64; omega, show wrap64 (d * 1000003 + v % 2147483647 + 13) = d * 1000003 + v % 2147483647 + 13 by unfold wrap64; omega, Int.tmod_eq_emod_of_nonneg (by omega)]
theorem step_range (d v : Int) (h : 0 ≤ d ∧ d < 2147483647) : 0 ≤ step d v ∧ step d v < 2147483647 := by
  rw [step_eq d v h]
  omega
theorem hashFrom_range (l : List Int) : ∀ d : Int, 0 ≤ d ∧ d < 2147483647 → 0 ≤ hashFrom d l ∧ hashFrom d l < 2147483647 := by
  induction l with
  | nil => intro d h; exact h
  | cons v l ih => intro d h; exact ih (step d v) (step_range d v h)
theorem keyed_range (s : Int) (l : List Int) : 0 ≤ keyed s l ∧ keyed s l < 2147483647 := step_range _ _ (hashFrom_range l _ (step_range 11 s (by omega)))
theorem laws_toByteS_loop (l : List Int) (hl : l.length ≤ 4611686018427387904) : ∀ (d k i : Nat) (out : List Int), i + d = l.length → d < k → out.length = l.length → (∀ j, j < i → out[j]? = l[j]?) → laws_toByteS.l0 k l out (i : Int) = some l := by
  intro d
  induction d with
  | zero =>
    intro k i out hi hk ho hj
    obtain ⟨k, rfl⟩ : ∃ m, k = m + 1 := ⟨k - 1, by omega⟩
    simp only [laws_toByteS.l0]
    rw [if_neg (by omega)]
    congr 1
    apply List.ext_getElem?
    intro j
    rcases Nat.lt_or_ge j i with h | h
    · exact hj j h
    · rw [List.getElem?_eq_none (by omega), List.getElem?_eq_none (by omega)]
  | succ d ih =>
    intro k i out hi hk ho hj
    obtain ⟨k, rfl⟩ : ∃ m, k = m + 1 := ⟨k - 1, by omega⟩
    simp only [laws_toByteS.l0]
    rw [if_pos (by omega), if_pos (by omega), if_pos (by omega), succ_at i l.length (by omega) hl, rd_at l i (by omega)]
    refine ih k (i + 1) _ (by omega) (by omega) (by simp [ho]) ?_
    intro j h
    rw [show ((i : Int)).toNat = i by omega, List.getElem?_set]
    by_cases e : i = j
    · subst e
      rw [if_pos rfl, if_pos (by omega), List.getElem?_eq_getElem (by omega)]
    · rw [if_neg e]
      exact hj j (by omega)
theorem laws_toByteS_eq (k : Nat) (l : List Int) (hk : l.length < k) (hl : l.length ≤ 1048576) : laws_toByteS.f k l = some l := by
  unfold laws_toByteS.f
  rw [if_pos (by omega), if_pos (by omega)]
  exact laws_toByteS_loop l (by omega) l.length k 0 _ (by omega) (by omega) (by simp) (by omega)
theorem laws_eqByteS_loop (l : List Int) (hl : l.length ≤ 4611686018427387904) : ∀ (d k i : Nat), i + d = l.length → d < k → laws_eqByteS.l0 k l l (i : Int) = some true := by
  intro d
  induction d with
  | zero =>
    intro k i hi hk
    obtain ⟨k, rfl⟩ : ∃ m, k = m + 1 := ⟨k - 1, by omega⟩
    simp only [laws_eqByteS.l0]
    rw [if_neg (by omega)]
  | succ d ih =>
    intro k i hi hk
    obtain ⟨k, rfl⟩ : ∃ m, k = m + 1 := ⟨k - 1, by omega⟩
    simp only [laws_eqByteS.l0]
    rw [if_pos (by omega), if_pos (by omega), if_pos (by omega), if_pos trivial, succ_at i l.length (by omega) hl]
    exact ih k (i + 1) (by omega) (by omega)
theorem laws_eqByteS_self (k : Nat) (l : List Int) (hk : l.length < k) (hl : l.length ≤ 4611686018427387904) : laws_eqByteS.f k l l = some true := by
  unfold laws_eqByteS.f
  rw [if_pos rfl]
  exact laws_eqByteS_loop l hl l.length k 0 (by omega) (by omega)
def laws_markByteS_val (m : Int) : Int := m % 256
theorem laws_markByteS_loop (s : Int) (hs : 0 ≤ s ∧ s ≤ 1152921504606846976) (n : Nat) (hn : n ≤ 1152921504606846976) : ∀ (d k i : Nat) (l : List Int), i + d = n → l.length = n → d < k → (∀ j, j < i → l[j]? = some (laws_markByteS_val (s + (j : Int)))) →
    ∃ l', laws_markByteS.l0 k l (s + (i : Int)) (i : Int) = some (s + (n : Int), l') ∧ l'.length = n ∧ ∀ j, j < n → l'[j]? = some (laws_markByteS_val (s + (j : Int))) := by
  intro d
  induction d with
  | zero =>
    intro k i l hi hl hk hj
    obtain ⟨k, rfl⟩ : ∃ m, k = m + 1 := ⟨k - 1, by omega⟩
    simp only [laws_markByteS.l0]
    rw [if_neg (by omega)]
    obtain rfl : i = n := by omega
    exact ⟨l, rfl, hl, hj⟩
  | succ d ih =>
    intro k i l hi hl hk hj
    obtain ⟨k, rfl⟩ : ∃ m, k = m + 1 := ⟨k - 1, by omega⟩
    simp only [laws_markByteS.l0]
    rw [if_pos (by omega), if_pos (by omega), succ_at i n (by omega) (by omega), show wrap64 (s + (i : Int) + 1) = s + ((i + 1 : Nat) : Int) by unfold wrap64; omega]
    refine ih k (i + 1) _ (by omega) (by simp [hl]) (by omega) ?_
    intro j h
    rw [show ((i : Int)).toNat = i by omega, List.getElem?_set]
    by_cases e : i = j
    · subst e
      rw [if_pos rfl, if_pos (by omega)]
      rfl
    · rw [if_neg e]
      exact hj j (by omega)
theorem laws_heldByteS_loop (s : Int) (hs : 0 ≤ s ∧ s ≤ 1152921504606846976) (n : Nat) (hn : n ≤ 1152921504606846976) (l : List Int) (hl : l.length = n) (hj : ∀ j, j < n → l[j]? = some (laws_markByteS_val (s + (j : Int)))) : ∀ (d k i : Nat), i + d = n → d < k →
    laws_heldByteS.l0 k l (s + (i : Int)) (i : Int) = some (s + (n : Int)) := by
  intro d
  induction d with
  | zero =>
    intro k i hi hk
    obtain ⟨k, rfl⟩ : ∃ m, k = m + 1 := ⟨k - 1, by omega⟩
    simp only [laws_heldByteS.l0]
    rw [if_neg (by omega)]
    obtain rfl : i = n := by omega
    rfl
  | succ d ih =>
    intro k i hi hk
    obtain ⟨k, rfl⟩ : ∃ m, k = m + 1 := ⟨k - 1, by omega⟩
    have e := hj i (by omega)
    rw [List.getElem?_eq_getElem (by omega)] at e
    have e' : rd l (i : Int) = laws_markByteS_val (s + (i : Int)) := by rw [rd_at l i (by omega)]; exact Option.some.inj e
    simp only [laws_heldByteS.l0]
    rw [if_pos (by omega), if_pos (by omega), e', if_pos (by rfl), succ_at i n (by omega) (by omega), show wrap64 (s + (i : Int) + 1) = s + ((i + 1 : Nat) : Int) by unfold wrap64; omega]
    exact ih k (i + 1) (by omega) (by omega)
theorem laws_markByteS_held (k : Nat) (l : List Int) (s : Int) (hk : l.length < k) (hl : l.length ≤ 1048576000) (hs : 0 ≤ s ∧ s ≤ 1152921504606846976) : ∃ l', laws_markByteS.f k l s = some (s + (l.length : Int), l') ∧ laws_heldByteS.f k l' s = some (s + (l.length : Int)) := by
  obtain ⟨l', h1, h2, h3⟩ := laws_markByteS_loop s hs l.length (by omega) l.length k 0 l (by omega) rfl (by omega) (by omega)
  refine ⟨l', ?_, ?_⟩
  · unfold laws_markByteS.f
    simpa using h1
  · unfold laws_heldByteS.f
    simpa using laws_heldByteS_loop s hs l.length (by omega) l' h2 h3 l.length k 0 (by omega) (by omega)
theorem cryptboth (s : Int) (l : List Int) (hl : l.length ≤ 1048576) (hw : ∀ z ∈ l, 0 ≤ z ∧ z ≤ 255) : ∀ (d k i : Nat) (acc : List Int), i + d = l.length → d + 4 < k → acc.length + d ≤ 2097152 → ∃ r, spec_Encrypt.l0 k s l acc (i : Int) = some r ∧ impl_Encrypt.l0 k s acc l (l.length : Int) (i : Int) = some r ∧ r.length = acc.length + d := by
  intro d
  induction d with
  | zero =>
    intro k i acc hi hk ha
    obtain ⟨k, rfl⟩ : ∃ m, k = m + 1 := ⟨k - 1, by omega⟩
    have h1 : ¬ (i : Int) < (l.length : Int) := by omega
    simp only [spec_Encrypt.l0, impl_Encrypt.l0, if_neg h1]
    exact ⟨acc, rfl, rfl, rfl⟩
  | succ d ih =>
    intro k i acc hi hk ha
    obtain ⟨k, rfl⟩ : ∃ m, k = m + 1 := ⟨k - 1, by omega⟩
    have h1 : (i : Int) < (l.length : Int) := by omega
    have h2 : (0 : Int) ≤ (i : Int) := by omega
    have h3 : acc.length < 140737488355328 := by omega
    have hb : 0 ≤ rd l (i : Int) ∧ rd l (i : Int) ≤ 255 := by rw [rd_at l i (by omega)]; exact hw _ (List.getElem_mem _)
    have hr := keyed_range s [(i : Int)]
    have sk := sKeyed k s [(i : Int)] (by simp) (by simp; omega)
    have ik := iKeyed k s [(i : Int)] (by simp) (by simp; omega)
    simp only [spec_Encrypt.l0, impl_Encrypt.l0, if_pos h1, if_pos h2, if_pos h3, sk, ik, Option.bind_some, succ_at i l.length (by omega) (by omega)]
    generalize rd l (i : Int) = b at hb ⊢
    generalize keyed s [(i : Int)] = h at hr ⊢
    have e : Int.tmod (wrap64 ((wrap64 b) + (Int.tmod h 256))) 256 % 256 = (b + h) % 256 := by
     rw [Int.tmod_eq_emod_of_nonneg hr.1, show wrap64 b = b by unfold wrap64; omega, show wrap64 (b + h % 256) = b + h % 256 by unfold wrap64; omega, Int.tmod_eq_emod_of_nonneg (by omega)]; omega
    rw [e]
    obtain ⟨r, e1, e2, e3⟩ := ih k (i + 1) (acc ++ [(b + h) % 256]) (by omega) (by omega) (by simp; omega)
    exact ⟨r, e1, e2, by simp at e3; omega⟩
theorem crypted (k : Nat) (s : Int) (l : List Int) (hl : l.length ≤ 1048576) (hw : ∀ z ∈ l, 0 ≤ z ∧ z ≤ 255) (hk : l.length + 4 < k) : ∃ r, spec_Encrypt.f k s l = some r ∧ impl_Encrypt.f k s l = some r ∧ r.length = l.length := by
  obtain ⟨r, h1, h2, h3⟩ := cryptboth s l hl hw l.length k 0 [] (by omega) (by omega) (by simp; omega)
  exact ⟨r, h1, h2, by simpa using h3⟩
theorem main : laws_FnExactEncrypt.Pure := by
  intro s l _ _ hw0
  have hw : ∀ z ∈ l, 0 ≤ z ∧ z ≤ 255 := fun z hz => u8_range (hw0 z hz)
  obtain ⟨K, hK⟩ : ∃ K, K = l.length + 20 := ⟨_, rfl⟩
  refine ⟨K + 1, ?_⟩
  unfold laws_FnExactEncrypt.f
  by_cases h1 : (l.length : Int) > 1048576
  · rw [if_pos h1]
  rw [if_neg h1]
  obtain ⟨r, s1, i1, hr⟩ := crypted (K + 1) s l (by omega) hw (by omega)
  obtain ⟨r2, s2, i2, _⟩ := crypted K s l (by omega) hw (by omega)
  have e : r2 = r := by
    have := at_rounds (fun k => spec_Encrypt.mono s l k) (show K ≤ K + 1 by omega) s2
    rw [s1] at this
    exact (Option.some.inj this).symm
  subst e
  have hl := laws_toByteS_eq (K + 1) l (by omega) (by omega)
  have hl' := laws_toByteS_eq K l (by omega) (by omega)
  have el := laws_eqByteS_self (K + 1) l (by omega) (by omega)
  have er := laws_eqByteS_self (K + 1) r2 (by omega) (by omega)
  have er' := laws_eqByteS_self K r2 (by omega) (by omega)
  obtain ⟨l', m1, _⟩ := laws_markByteS_held (K + 1) l 1 (by omega) (by omega) (by omega)
  obtain ⟨r', m2, m3⟩ := laws_markByteS_held K r2 1 (by omega) (by omega) (by omega)
  simp only [hl, s1, i1, el, er, m1, Option.bind_some, if_true]
  rw [if_neg (by omega)]
  simp only [laws_FnExactEncrypt.j0, Bool.not_true, Bool.false_eq_true, if_false, hl', m2, m3, Option.bind_some, i2, er', if_true]
  rw [if_neg (by omega)]
  rw [if_neg (by omega)]

end Go.Proofs.Ytoocbgjcigadfaa.PureFnExactEncrypt
namespace Go.Proofs.Ytoocbgjcigadfaa.Pure
/-- The pure statement. -/
theorem FnExactEncrypt : Go.Proofs.Ytoocbgjcigadfaa.PureFnExactEncrypt.laws_FnExactEncrypt.Pure := Go.Proofs.Ytoocbgjcigadfaa.PureFnExactEncrypt.main
end Go.Proofs.Ytoocbgjcigadfaa.Pure

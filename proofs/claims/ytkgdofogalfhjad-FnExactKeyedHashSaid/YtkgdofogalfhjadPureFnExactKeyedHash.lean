/- The printed law FnExactKeyedHash, as a function of numbers and lists, answers true for all arguments that a call can be given; no conditions beyond the sizes that memory allows. -/
import Derived.Test.YtkgdofogalfhjadPFnExactKeyedHashx1
namespace Go.Proofs.Ytkgdofogalfhjad.PureFnExactKeyedHash
open Go.RowKit Go.Proofs.Ytkgdofogalfhjad.PFnExactKeyedHash Go.Proofs.YtkgdofogalfhjadW.PrintWords Go.Proofs.YtkgdofogalfhjadW.PrintLast Go.Proofs.YtkgdofogalfhjadW.PrintMore
set_option linter.unusedVariables false
set_option linter.unusedSimpArgs false

/-- The pure statement of laws_FnExactKeyedHash, typed by lawfill.py as print.sh types it where it does. -/
def laws_FnExactKeyedHash.Pure : Prop := ∀ (a0 : Int) (l1 : List Int), (Lit.int .i64 a0).wf = true → l1.length ≤ maxLen → (∀ x ∈ l1, (Lit.int .i64 x).wf = true) → ∃ k, laws_FnExactKeyedHash.f k a0 l1 = some true

def inr (a b c : Int) : Bool := decide (b ≤ a) && decide (a ≤ c)
theorem inr_iff (a b c : Int) : inr a b c = true ↔ b ≤ a ∧ a ≤ c := by unfold inr; simp
theorem l1In_eq (a b c : Int) : spec_l1In.f a b c = some (inr a b c) := by
  unfold spec_l1In.f inr
  by_cases h : b ≤ a <;> simp [h]
theorem inRange_eq (a b c : Int) : impl_InRange.f a b c = some (inr a b c) := by
  unfold impl_InRange.f inr
  by_cases h : b ≤ a <;> simp [h]
theorem rd_at (xs : List Int) (i : Nat) (h : i < xs.length) : rd xs (i : Int) = xs[i] := by
  unfold rd
  simp [List.getD_eq_getElem?_getD, h]
theorem succ_at (i n : Nat) (h : i < n) (hn : n ≤ 4611686018427387904) : wrap64 ((i : Int) + 1) = ((i + 1 : Nat) : Int) := by
  unfold wrap64
  omega
theorem tmod_range (a b : Int) (hb : 0 < b) : -b < Int.tmod a b ∧ Int.tmod a b < b := by
  rcases Int.le_total 0 a with h | h
  · have h1 := Int.tmod_nonneg b h
    have h2 := Int.tmod_lt_of_pos a hb
    omega
  · have h1 := Int.tmod_nonneg b (a := -a) (by omega)
    have h2 := Int.tmod_lt_of_pos (-a) hb
    rw [Int.neg_tmod] at h1 h2
    omega
def modOf (a b : Int) : Int := if inr b 1 1000000000000 = true then (if Int.tmod a b < 0 then Int.tmod a b + b else Int.tmod a b) else 0
theorem iMod (a b : Int) : impl_Mod.f a b = some (modOf a b) := by
  unfold impl_Mod.f modOf
  simp only [inRange_eq, Option.bind_some]
  by_cases h : inr b 1 1000000000000 = true
  · rw [if_pos h, if_pos h]
    rw [inr_iff] at h
    have hr := tmod_range a b (by omega)
    rw [if_neg (by omega)]
    by_cases n : Int.tmod a b < 0
    · rw [if_pos n, if_pos n]
      congr 1
      unfold wrap64
      omega
    · rw [if_neg n, if_neg n]
  · rw [if_neg h, if_neg h]
theorem sMod (a b : Int) : spec_Mod.f a b = some (modOf a b) := by
  unfold spec_Mod.f modOf
  simp only [l1In_eq, Option.bind_some]
  by_cases h : inr b 1 1000000000000 = true
  · rw [if_pos h, if_pos h]
    rw [inr_iff] at h
    have hr := tmod_range a b (by omega)
    rw [if_neg (by omega)]
    congr 1
    rw [show wrap64 (Int.tmod a b + b) = Int.tmod a b + b by unfold wrap64; omega]
    by_cases n : Int.tmod a b < 0
    · rw [if_pos n, Int.tmod_eq_emod_of_nonneg (by omega), Int.emod_eq_of_lt (by omega) (by omega)]
    · rw [if_neg n, Int.tmod_eq_emod_of_nonneg (by omega), Int.add_emod_right, Int.emod_eq_of_lt (by omega) (by omega)]
  · rw [if_neg h, if_neg h]
def step (d v : Int) : Int := Int.tmod (wrap64 ((wrap64 ((wrap64 (d * 1000003)) + modOf v 2147483647)) + 13)) 2147483647
def hashFrom (d : Int) (l : List Int) : Int := l.foldl step d
theorem fold_eq (d v : Int) : impl_fold.f d v = some (step d v) := by
  unfold impl_fold.f step
  rw [iMod]
  rfl
theorem sHash_loop (l : List Int) (hl : l.length ≤ 4611686018427387904) : ∀ (d k i : Nat) (x : Int), i + d = l.length → d < k → spec_Hash.l0 k l x (i : Int) = some (hashFrom x (l.drop i)) := by
  intro d
  induction d with
  | zero =>
    intro k i x hi hk
    obtain ⟨k, rfl⟩ : ∃ m, k = m + 1 := ⟨k - 1, by omega⟩
    simp only [spec_Hash.l0]
    rw [if_neg (by omega), List.drop_of_length_le (by omega)]
    rfl
  | succ d ih =>
    intro k i x hi hk
    obtain ⟨k, rfl⟩ : ∃ m, k = m + 1 := ⟨k - 1, by omega⟩
    simp only [spec_Hash.l0]
    rw [if_pos (by omega), if_pos (by omega), sMod, Option.bind_some, succ_at i l.length (by omega) hl, rd_at l i (by omega), List.drop_eq_getElem_cons (by omega)]
    exact ih k (i + 1) _ (by omega) (by omega)
theorem sHash (k : Nat) (l : List Int) (hl : l.length ≤ 4611686018427387904) (hk : l.length < k) : spec_Hash.f k l = some (hashFrom 11 l) := by
  unfold spec_Hash.f
  exact sHash_loop l hl l.length k 0 11 (by omega) (by omega)
def keyed (s : Int) (l : List Int) : Int := step (hashFrom (step 11 s) l) s
theorem iKeyed_loop (s : Int) (l : List Int) (hl : l.length ≤ 4611686018427387904) : ∀ (d k i : Nat) (x : Int), i + d = l.length → d < k → impl_KeyedHash.l0 k s x l (l.length : Int) (i : Int) = some (step (hashFrom x (l.drop i)) s) := by
  intro d
  induction d with
  | zero =>
    intro k i x hi hk
    obtain ⟨k, rfl⟩ : ∃ m, k = m + 1 := ⟨k - 1, by omega⟩
    simp only [impl_KeyedHash.l0]
    rw [if_neg (by omega), List.drop_of_length_le (by omega), fold_eq, Option.bind_some]
    rfl
  | succ d ih =>
    intro k i x hi hk
    obtain ⟨k, rfl⟩ : ∃ m, k = m + 1 := ⟨k - 1, by omega⟩
    simp only [impl_KeyedHash.l0]
    rw [if_pos (by omega), if_pos (by omega), if_pos (by omega), fold_eq, Option.bind_some, succ_at i l.length (by omega) hl, rd_at l i (by omega), List.drop_eq_getElem_cons (by omega)]
    exact ih k (i + 1) _ (by omega) (by omega)
theorem iKeyed (k : Nat) (s : Int) (l : List Int) (hl : l.length ≤ 4611686018427387904) (hk : l.length < k) : impl_KeyedHash.f k s l = some (keyed s l) := by
  unfold impl_KeyedHash.f
  rw [fold_eq, Option.bind_some]
  exact iKeyed_loop s l hl l.length k 0 _ (by omega) (by omega)
theorem sKeyed (k : Nat) (s : Int) (l : List Int) (hl : l.length ≤ 2097152) (hk : l.length + 2 < k) : spec_KeyedHash.f k s l = some (keyed s l) := by
  unfold spec_KeyedHash.f
  simp only [Option.bind_some]
  rw [if_pos (by simp; omega), if_pos (by simp; omega), sHash k _ (by simp; omega) (by simp; omega), Option.bind_some]
  unfold keyed hashFrom
  simp
theorem laws_toIntS_loop (l : List Int) (hl : l.length ≤ 4611686018427387904) : ∀ (d k i : Nat) (out : List Int), i + d = l.length → d < k → out.length = l.length → (∀ j, j < i → out[j]? = l[j]?) → laws_toIntS.l0 k l out (i : Int) = some l := by
  intro d
  induction d with
  | zero =>
    intro k i out hi hk ho hj
    obtain ⟨k, rfl⟩ : ∃ m, k = m + 1 := ⟨k - 1, by omega⟩
    simp only [laws_toIntS.l0]
    rw [if_neg (by omega)]
    congr 1
    apply List.ext_getElem?
    intro j
    rcases Nat.lt_or_ge j i with h | h
    · exact hj j h
    · rw [List.getElem?_eq_none (by omega), List.getElem?_eq_none (by omega)]
  | succ d ih =>
    intro k i out hi hk ho hj
    obtain ⟨k, rfl⟩ : ∃ m, k = m + 1 := ⟨k - 1, by omega⟩
    simp only [laws_toIntS.l0]
    rw [if_pos (by omega), if_pos (by omega), if_pos (by omega), succ_at i l.length (by omega) hl, rd_at l i (by omega)]
    refine ih k (i + 1) _ (by omega) (by omega) (by simp [ho]) ?_
    intro j h
    rw [show ((i : Int)).toNat = i by omega, List.getElem?_set]
    by_cases e : i = j
    · subst e
      rw [if_pos rfl, if_pos (by omega), List.getElem?_eq_getElem (by omega)]
    · rw [if_neg e]
      exact hj j (by omega)
theorem laws_toIntS_eq (k : Nat) (l : List Int) (hk : l.length < k) (hl : l.length ≤ 1048576) : laws_toIntS.f k l = some l := by
  unfold laws_toIntS.f
  rw [if_pos (by omega), if_pos (by omega)]
  exact laws_toIntS_loop l (by omega) l.length k 0 _ (by omega) (by omega) (by simp) (by omega)
theorem laws_eqIntS_loop (l : List Int) (hl : l.length ≤ 4611686018427387904) : ∀ (d k i : Nat), i + d = l.length → d < k → laws_eqIntS.l0 k l l (i : Int) = some true := by
  intro d
  induction d with
  | zero =>
    intro k i hi hk
    obtain ⟨k, rfl⟩ : ∃ m, k = m + 1 := ⟨k - 1, by omega⟩
    simp only [laws_eqIntS.l0]
    rw [if_neg (by omega)]
  | succ d ih =>
    intro k i hi hk
    obtain ⟨k, rfl⟩ : ∃ m, k = m + 1 := ⟨k - 1, by omega⟩
    simp only [laws_eqIntS.l0]
    rw [if_pos (by omega), if_pos (by omega), if_pos (by omega), if_pos trivial, succ_at i l.length (by omega) hl]
    exact ih k (i + 1) (by omega) (by omega)
theorem laws_eqIntS_self (k : Nat) (l : List Int) (hk : l.length < k) (hl : l.length ≤ 4611686018427387904) : laws_eqIntS.f k l l = some true := by
  unfold laws_eqIntS.f
  rw [if_pos rfl]
  exact laws_eqIntS_loop l hl l.length k 0 (by omega) (by omega)
theorem main : laws_FnExactKeyedHash.Pure := by
  intro s a _ _ _
  refine ⟨a.length + 3, ?_⟩
  unfold laws_FnExactKeyedHash.f
  by_cases h1 : (a.length : Int) > 1048576
  · rw [if_pos h1]
  rw [if_neg h1]
  simp only [laws_toIntS_eq (a.length + 3) a (by omega) (by omega), laws_eqIntS_self (a.length + 3) a (by omega) (by omega), sKeyed (a.length + 3) s a (by omega) (by omega), iKeyed (a.length + 3) s a (by omega) (by omega), Option.bind_some, if_true]

end Go.Proofs.Ytkgdofogalfhjad.PureFnExactKeyedHash
namespace Go.Proofs.Ytkgdofogalfhjad.Pure
/-- The pure statement. -/
theorem FnExactKeyedHash : Go.Proofs.Ytkgdofogalfhjad.PureFnExactKeyedHash.laws_FnExactKeyedHash.Pure := Go.Proofs.Ytkgdofogalfhjad.PureFnExactKeyedHash.main
end Go.Proofs.Ytkgdofogalfhjad.Pure

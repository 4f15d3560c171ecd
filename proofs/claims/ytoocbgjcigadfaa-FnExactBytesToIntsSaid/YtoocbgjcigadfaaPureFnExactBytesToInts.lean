/- The printed law FnExactBytesToInts, as a function of numbers and lists, answers true for all arguments that a call can be given; no conditions beyond the sizes that memory allows. -/
import Derived.Test.YtoocbgjcigadfaaPFnExactBytesToIntsx2
namespace Go.Proofs.Ytoocbgjcigadfaa.PureFnExactBytesToInts
open Go.RowKit Go.Proofs.Ytoocbgjcigadfaa.PFnExactBytesToInts Go.Proofs.YtoocbgjcigadfaaW.PrintWords Go.Proofs.YtoocbgjcigadfaaW.PrintLast Go.Proofs.YtoocbgjcigadfaaW.PrintMore
set_option linter.unusedVariables false
set_option linter.unusedSimpArgs false

/-- The pure statement of laws_FnExactBytesToInts, typed by lawfill.py as print.sh types it where it does. -/
def laws_FnExactBytesToInts.Pure : Prop := ∀ (l0 : List Int), l0.length ≤ maxLen → (∀ x ∈ l0, (Lit.int .u8 x).wf = true) → ∃ k, laws_FnExactBytesToInts.f k l0 = some true

theorem rd_at (xs : List Int) (i : Nat) (h : i < xs.length) : rd xs (i : Int) = xs[i] := by
  unfold rd
  simp [List.getD_eq_getElem?_getD, h]
theorem succ_at (i n : Nat) (h : i < n) (hn : n ≤ 4611686018427387904) : wrap64 ((i : Int) + 1) = ((i + 1 : Nat) : Int) := by
  unfold wrap64
  omega
theorem wrap_id (n : Int) (h0 : -9223372036854775808 ≤ n) (h1 : n ≤ 9223372036854775807) : wrap64 n = n := by
  unfold wrap64
  omega
theorem laws_toByteS_loop (l : List Int) (hl : l.length ≤ 4611686018427387904) : ∀ (d k i : Nat) (out : List Int), i + d = l.length → d < k → out.length = l.length → (∀ j, j < i → out[j]? = l[j]?) → laws_toByteS.l0 k l out (i : Int) = some l := by
  intro d
  induction d with
  | zero =>
    intro k i out hi hk ho hj
    obtain ⟨k, rfl⟩ : ∃ m, k = m + 1 := ⟨k - 1, by omega⟩
    simp only [laws_toByteS.l0]
    rw [if_neg (by omega)]
    congr 1
    apply List.ext_getElem?
    intro j
    rcases Nat.lt_or_ge j i with h | h
    · exact hj j h
    · rw [List.getElem?_eq_none (by omega), List.getElem?_eq_none (by omega)]
  | succ d ih =>
    intro k i out hi hk ho hj
    obtain ⟨k, rfl⟩ : ∃ m, k = m + 1 := ⟨k - 1, by omega⟩
    simp only [laws_toByteS.l0]
    rw [if_pos (by omega), if_pos (by omega), if_pos (by omega), succ_at i l.length (by omega) hl, rd_at l i (by omega)]
    refine ih k (i + 1) _ (by omega) (by omega) (by simp [ho]) ?_
    intro j h
    rw [show ((i : Int)).toNat = i by omega, List.getElem?_set]
    by_cases e : i = j
    · subst e
      rw [if_pos rfl, if_pos (by omega), List.getElem?_eq_getElem (by omega)]
    · rw [if_neg e]
      exact hj j (by omega)
theorem laws_toByteS_eq (k : Nat) (l : List Int) (hk : l.length < k) (hl : l.length ≤ 1048576) : laws_toByteS.f k l = some l := by
  unfold laws_toByteS.f
  rw [if_pos (by omega), if_pos (by omega)]
  exact laws_toByteS_loop l (by omega) l.length k 0 _ (by omega) (by omega) (by simp) (by omega)
theorem laws_eqByteS_loop (l : List Int) (hl : l.length ≤ 4611686018427387904) : ∀ (d k i : Nat), i + d = l.length → d < k → laws_eqByteS.l0 k l l (i : Int) = some true := by
  intro d
  induction d with
  | zero =>
    intro k i hi hk
    obtain ⟨k, rfl⟩ : ∃ m, k = m + 1 := ⟨k - 1, by omega⟩
    simp only [laws_eqByteS.l0]
    rw [if_neg (by omega)]
  | succ d ih =>
    intro k i hi hk
    obtain ⟨k, rfl⟩ : ∃ m, k = m + 1 := ⟨k - 1, by omega⟩
    simp only [laws_eqByteS.l0]
    rw [if_pos (by omega), if_pos (by omega), if_pos (by omega), if_pos trivial, succ_at i l.length (by omega) hl]
    exact ih k (i + 1) (by omega) (by omega)
theorem laws_eqByteS_self (k : Nat) (l : List Int) (hk : l.length < k) (hl : l.length ≤ 4611686018427387904) : laws_eqByteS.f k l l = some true := by
  unfold laws_eqByteS.f
  rw [if_pos rfl]
  exact laws_eqByteS_loop l hl l.length k 0 (by omega) (by omega)
theorem laws_eqIntS_loop (l : List Int) (hl : l.length ≤ 4611686018427387904) : ∀ (d k i : Nat), i + d = l.length → d < k → laws_eqIntS.l0 k l l (i : Int) = some true := by
  intro d
  induction d with
  | zero =>
    intro k i hi hk
    obtain ⟨k, rfl⟩ : ∃ m, k = m + 1 := ⟨k - 1, by omega⟩
    simp only [laws_eqIntS.l0]
    rw [if_neg (by omega)]
  | succ d ih =>
    intro k i hi hk
    obtain ⟨k, rfl⟩ : ∃ m, k = m + 1 := ⟨k - 1, by omega⟩
    simp only [laws_eqIntS.l0]
    rw [if_pos (by omega), if_pos (by omega), if_pos (by omega), if_pos trivial, succ_at i l.length (by omega) hl]
    exact ih k (i + 1) (by omega) (by omega)
theorem laws_eqIntS_self (k : Nat) (l : List Int) (hk : l.length < k) (hl : l.length ≤ 4611686018427387904) : laws_eqIntS.f k l l = some true := by
  unfold laws_eqIntS.f
  rw [if_pos rfl]
  exact laws_eqIntS_loop l hl l.length k 0 (by omega) (by omega)
def laws_markIntS_val (m : Int) : Int := m
theorem laws_markIntS_loop (s : Int) (hs : 0 ≤ s ∧ s ≤ 1152921504606846976) (n : Nat) (hn : n ≤ 1152921504606846976) : ∀ (d k i : Nat) (l : List Int), i + d = n → l.length = n → d < k → (∀ j, j < i → l[j]? = some (laws_markIntS_val (s + (j : Int)))) →
    ∃ l', laws_markIntS.l0 k l (s + (i : Int)) (i : Int) = some (s + (n : Int), l') ∧ l'.length = n ∧ ∀ j, j < n → l'[j]? = some (laws_markIntS_val (s + (j : Int))) := by
  intro d
  induction d with
  | zero =>
    intro k i l hi hl hk hj
    obtain ⟨k, rfl⟩ : ∃ m, k = m + 1 := ⟨k - 1, by omega⟩
    simp only [laws_markIntS.l0]
    rw [if_neg (by omega)]
    obtain rfl : i = n := by omega
    exact ⟨l, rfl, hl, hj⟩
  | succ d ih =>
    intro k i l hi hl hk hj
    obtain ⟨k, rfl⟩ : ∃ m, k = m + 1 := ⟨k - 1, by omega⟩
    simp only [laws_markIntS.l0]
    rw [if_pos (by omega), if_pos (by omega), succ_at i n (by omega) (by omega), show wrap64 (s + (i : Int) + 1) = s + ((i + 1 : Nat) : Int) by unfold wrap64; omega]
    refine ih k (i + 1) _ (by omega) (by simp [hl]) (by omega) ?_
    intro j h
    rw [show ((i : Int)).toNat = i by omega, List.getElem?_set]
    by_cases e : i = j
    · subst e
      rw [if_pos rfl, if_pos (by omega)]
      rfl
    · rw [if_neg e]
      exact hj j (by omega)
theorem laws_heldIntS_loop (s : Int) (hs : 0 ≤ s ∧ s ≤ 1152921504606846976) (n : Nat) (hn : n ≤ 1152921504606846976) (l : List Int) (hl : l.length = n) (hj : ∀ j, j < n → l[j]? = some (laws_markIntS_val (s + (j : Int)))) : ∀ (d k i : Nat), i + d = n → d < k →
    laws_heldIntS.l0 k l (s + (i : Int)) (i : Int) = some (s + (n : Int)) := by
  intro d
  induction d with
  | zero =>
    intro k i hi hk
    obtain ⟨k, rfl⟩ : ∃ m, k = m + 1 := ⟨k - 1, by omega⟩
    simp only [laws_heldIntS.l0]
    rw [if_neg (by omega)]
    obtain rfl : i = n := by omega
    rfl
  | succ d ih =>
    intro k i hi hk
    obtain ⟨k, rfl⟩ : ∃ m, k = m + 1 := ⟨k - 1, by omega⟩
    have e := hj i (by omega)
    rw [List.getElem?_eq_getElem (by omega)] at e
    have e' : rd l (i : Int) = laws_markIntS_val (s + (i : Int)) := by rw [rd_at l i (by omega)]; exact Option.some.inj e
    simp only [laws_heldIntS.l0]
    rw [if_pos (by omega), if_pos (by omega), e', if_pos (by rfl), succ_at i n (by omega) (by omega), show wrap64 (s + (i : Int) + 1) = s + ((i + 1 : Nat) : Int) by unfold wrap64; omega]
    exact ih k (i + 1) (by omega) (by omega)
theorem laws_markIntS_held (k : Nat) (l : List Int) (s : Int) (hk : l.length < k) (hl : l.length ≤ 1048576000) (hs : 0 ≤ s ∧ s ≤ 1152921504606846976) : ∃ l', laws_markIntS.f k l s = some (s + (l.length : Int), l') ∧ laws_heldIntS.f k l' s = some (s + (l.length : Int)) := by
  obtain ⟨l', h1, h2, h3⟩ := laws_markIntS_loop s hs l.length (by omega) l.length k 0 l (by omega) rfl (by omega) (by omega)
  refine ⟨l', ?_, ?_⟩
  · unfold laws_markIntS.f
    simpa using h1
  · unfold laws_heldIntS.f
    simpa using laws_heldIntS_loop s hs l.length (by omega) l' h2 h3 l.length k 0 (by omega) (by omega)
theorem laws_markByteS_mloop (s : Int) (hs : 0 ≤ s ∧ s ≤ 1152921504606846976) (n : Nat) (hn : n ≤ 1152921504606846976) : ∀ (d k i : Nat) (l : List Int), i + d = n → l.length = n → d < k → ∃ l', laws_markByteS.l0 k l (s + (i : Int)) (i : Int) = some (s + (n : Int), l') := by
  intro d
  induction d with
  | zero =>
    intro k i l hi hl hk
    obtain ⟨k, rfl⟩ : ∃ m, k = m + 1 := ⟨k - 1, by omega⟩
    simp only [laws_markByteS.l0]
    rw [if_neg (by omega)]
    obtain rfl : i = n := by omega
    exact ⟨l, rfl⟩
  | succ d ih =>
    intro k i l hi hl hk
    obtain ⟨k, rfl⟩ : ∃ m, k = m + 1 := ⟨k - 1, by omega⟩
    simp only [laws_markByteS.l0]
    rw [if_pos (by omega), if_pos (by omega), succ_at i n (by omega) (by omega), show wrap64 (s + (i : Int) + 1) = s + ((i + 1 : Nat) : Int) by unfold wrap64; omega]
    exact ih k (i + 1) _ (by omega) (by simp [hl]) (by omega)
theorem laws_markByteS_some (k : Nat) (l : List Int) (s : Int) (hk : l.length < k) (hl : l.length ≤ 1048576000) (hs : 0 ≤ s ∧ s ≤ 1152921504606846976) : ∃ l', laws_markByteS.f k l s = some (s + (l.length : Int), l') := by
  obtain ⟨l', h1⟩ := laws_markByteS_mloop s hs l.length (by omega) l.length k 0 l (by omega) rfl (by omega)
  refine ⟨l', ?_⟩
  unfold laws_markByteS.f
  simpa using h1
theorem both (l : List Int) (hl : l.length ≤ 1048576) : ∀ (d k i : Nat) (acc : List Int), i + d = l.length → d < k → acc.length + d ≤ 2097152 → ∃ r, spec_BytesToInts.l0 k l acc (i : Int) = some r ∧ impl_BytesToInts.l0 k acc l (l.length : Int) (i : Int) = some r ∧ r.length = acc.length + d := by
  intro d
  induction d with
  | zero =>
    intro k i acc hi hk ha
    obtain ⟨k, rfl⟩ : ∃ m, k = m + 1 := ⟨k - 1, by omega⟩
    have h1 : ¬ (i : Int) < (l.length : Int) := by omega
    simp only [spec_BytesToInts.l0, impl_BytesToInts.l0, if_neg h1]
    exact ⟨acc, rfl, rfl, rfl⟩
  | succ d ih =>
    intro k i acc hi hk ha
    obtain ⟨k, rfl⟩ : ∃ m, k = m + 1 := ⟨k - 1, by omega⟩
    have h1 : (i : Int) < (l.length : Int) := by omega
    have h2 : (0 : Int) ≤ (i : Int) := by omega
    have h3 : acc.length < 17592186044416 := by omega
    simp only [spec_BytesToInts.l0, impl_BytesToInts.l0, if_pos h1, if_pos h2, if_pos h3, succ_at i l.length (by omega) (by omega)]
    obtain ⟨r, e1, e2, e3⟩ := ih k (i + 1) (acc ++ [wrap64 (rd l (i : Int))]) (by omega) (by omega) (by simp; omega)
    exact ⟨r, e1, e2, by simp at e3; omega⟩
theorem main : laws_FnExactBytesToInts.Pure := by
  intro l _ _
  obtain ⟨K, hK⟩ : ∃ K, K = l.length + 20 := ⟨_, rfl⟩
  refine ⟨K + 1, ?_⟩
  unfold laws_FnExactBytesToInts.f
  by_cases h1 : (l.length : Int) > 1048576
  · rw [if_pos h1]
  rw [if_neg h1]
  have hb : ∀ k, l.length < k → ∃ r, spec_BytesToInts.f k l = some r ∧ impl_BytesToInts.f k l = some r ∧ r.length = 1 + l.length := fun k hk => both l (by omega) l.length k 0 [(l.length : Int)] (by omega) hk (by simp; omega)
  obtain ⟨r, s1, i1, hr⟩ := hb (K + 1) (by omega)
  obtain ⟨r2, s2, i2, _⟩ := hb K (by omega)
  have e : r2 = r := by
    have := at_rounds (fun k => spec_BytesToInts.mono l k) (show K ≤ K + 1 by omega) s2
    rw [s1] at this
    exact (Option.some.inj this).symm
  subst e
  have hl := laws_toByteS_eq (K + 1) l (by omega) (by omega)
  have hl' := laws_toByteS_eq K l (by omega) (by omega)
  have el := laws_eqByteS_self (K + 1) l (by omega) (by omega)
  have er := laws_eqIntS_self (K + 1) r2 (by omega) (by omega)
  have er' := laws_eqIntS_self K r2 (by omega) (by omega)
  obtain ⟨l', m1⟩ := laws_markByteS_some (K + 1) l 1 (by omega) (by omega) (by omega)
  obtain ⟨r', m2, m3⟩ := laws_markIntS_held K r2 1 (by omega) (by omega) (by omega)
  simp only [hl, s1, i1, el, er, m1, Option.bind_some, if_true]
  rw [if_neg (by omega)]
  simp only [laws_FnExactBytesToInts.j0, Bool.not_true, Bool.false_eq_true, if_false, hl', m2, m3, Option.bind_some, i2, er', if_true]
  rw [if_neg (by omega)]
  rw [if_neg (by omega)]

end Go.Proofs.Ytoocbgjcigadfaa.PureFnExactBytesToInts
namespace Go.Proofs.Ytoocbgjcigadfaa.Pure
/-- The pure statement. -/
theorem FnExactBytesToInts : Go.Proofs.Ytoocbgjcigadfaa.PureFnExactBytesToInts.laws_FnExactBytesToInts.Pure := Go.Proofs.Ytoocbgjcigadfaa.PureFnExactBytesToInts.main
end Go.Proofs.Ytoocbgjcigadfaa.Pure

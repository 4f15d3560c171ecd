/- The printed law FnExactFoundIn, as a function of numbers and lists, answers true for all arguments that a call can be given; no conditions beyond the sizes that memory allows. -/
import Derived.Test.YtoocbgjcigadfadWkFnExactFoundInx4
namespace Go.Proofs.Ytoocbgjcigadfad.PureFnExactFoundIn
open Go.RowKit Go.Proofs.Ytoocbgjcigadfad.PFnExactFoundIn Go.Proofs.YtoocbgjcigadfadW.PrintWords Go.Proofs.YtoocbgjcigadfadW.PrintLast Go.Proofs.YtoocbgjcigadfadW.PrintMore
set_option linter.unusedVariables false
set_option linter.unusedSimpArgs false

/-- The pure statement of laws_FnExactFoundIn, typed by lawfill.py as print.sh types it where it does. -/
def laws_FnExactFoundIn.Pure : Prop := ∀ (l0 : List S69) (a1_0 : Int) (a1_1 : Int), l0.length ≤ maxLen → (Lit.int .i64 a1_0).wf = true → (Lit.int .i64 a1_1).wf = true → ∃ k, laws_FnExactFoundIn.f k l0 a1_0 a1_1 = some true

def inr (a b c : Int) : Bool := decide (b ≤ a) && decide (a ≤ c)
theorem inr_iff (a b c : Int) : inr a b c = true ↔ b ≤ a ∧ a ≤ c := by unfold inr; simp
theorem l1In_eq (a b c : Int) : spec_l1In.f a b c = some (inr a b c) := by
  unfold spec_l1In.f inr
  by_cases h : b ≤ a <;> simp [h]
theorem inRange_eq (a b c : Int) : impl_InRange.f a b c = some (inr a b c) := by
  unfold impl_InRange.f inr
  by_cases h : b ≤ a <;> simp [h]
def okSpan (a b : Int) : Bool := inr a 0 100000 && inr b 0 100000 && decide (a ≤ b)
theorem sIsSpan (a b : Int) : spec_IsSpan.f a b = some (okSpan a b) := by
  unfold spec_IsSpan.f okSpan
  simp only [l1In_eq, Option.bind_some]
  cases inr a 0 100000 <;> cases inr b 0 100000 <;> simp
theorem iIsSpan (a b : Int) : impl_IsSpan.f a b = some (okSpan a b) := by
  unfold impl_IsSpan.f okSpan
  simp only [inRange_eq, Option.bind_some]
  cases inr a 0 100000 <;> cases inr b 0 100000 <;> simp
theorem rd_at (xs : List Int) (i : Nat) (h : i < xs.length) : rd xs (i : Int) = xs[i] := by
  unfold rd
  simp [List.getD_eq_getElem?_getD, h]
theorem succ_at (i n : Nat) (h : i < n) (hn : n ≤ 4611686018427387904) : wrap64 ((i : Int) + 1) = ((i + 1 : Nat) : Int) := by
  unfold wrap64
  omega
theorem wrap_id (n : Int) (h0 : -9223372036854775808 ≤ n) (h1 : n ≤ 9223372036854775807) : wrap64 n = n := by
  unfold wrap64
  omega
theorem eq_self (x : S65) : laws_eqFind.f x.f0.f0 x.f0.f1 x.f0.f2 x.f0.f3 x.f0.f4 x.f1 x.f2 x.f3 x.f0.f0 x.f0.f1 x.f0.f2 x.f0.f3 x.f0.f4 x.f1 x.f2 x.f3 = some true := by
  unfold laws_eqFind.f laws_eqThing.f
  simp
theorem rd_T69_at (xs : List S69) (i : Nat) (h : i < xs.length) : rd_T69 xs (i : Int) = xs[i] := by
  unfold rd_T69
  simp [List.getD_eq_getElem?_getD, h]
def laws_toFindS_conv (x : S69) : S65 := ⟨⟨x.f0.f0, x.f0.f1, x.f0.f2, x.f0.f3, x.f0.f4⟩, x.f1, x.f2, x.f3⟩
theorem laws_toFindS_loop (l : List S69) (hl : l.length ≤ 4611686018427387904) : ∀ (d k i : Nat) (out : List S65), i + d = l.length → d < k → out.length = l.length → (∀ j, j < i → out[j]? = (l[j]?).map laws_toFindS_conv) → laws_toFindS.l0 k l out (i : Int) = some (l.map laws_toFindS_conv) := by
  intro d
  induction d with
  | zero =>
    intro k i out hi hk ho hj
    obtain ⟨k, rfl⟩ : ∃ m, k = m + 1 := ⟨k - 1, by omega⟩
    simp only [laws_toFindS.l0]
    rw [if_neg (by omega)]
    congr 1
    apply List.ext_getElem?
    intro j
    rw [List.getElem?_map]
    rcases Nat.lt_or_ge j i with h | h
    · exact hj j h
    · rw [List.getElem?_eq_none (by omega), List.getElem?_eq_none (by omega)]
      rfl
  | succ d ih =>
    intro k i out hi hk ho hj
    obtain ⟨k, rfl⟩ : ∃ m, k = m + 1 := ⟨k - 1, by omega⟩
    have h1 : (i : Int) < (l.length : Int) := by omega
    have h2 : (0 : Int) ≤ (i : Int) := by omega
    have h3 : (i : Int) < (out.length : Int) := by omega
    simp only [laws_toFindS.l0, if_pos h1, if_pos h2, if_pos h3, laws_toFind.f, laws_toThing.f, Option.bind_some, succ_at i l.length (by omega) hl, rd_T69_at l i (by omega), show ((i : Int)).toNat = i by omega]
    refine ih k (i + 1) (out.set i (laws_toFindS_conv l[i])) (by omega) (by omega) (by simp [ho]) ?_
    intro j h
    rw [List.getElem?_set]
    by_cases e : i = j
    · subst e
      rw [if_pos rfl, if_pos (by omega), List.getElem?_eq_getElem (by omega)]
      rfl
    · rw [if_neg e]
      exact hj j (by omega)
theorem laws_toFindS_eq (k : Nat) (l : List S69) (hk : l.length < k) (hl : l.length ≤ 1048576) : laws_toFindS.f k l = some (l.map laws_toFindS_conv) := by
  unfold laws_toFindS.f
  rw [if_pos (by omega), if_pos (by omega)]
  exact laws_toFindS_loop l (by omega) l.length k 0 _ (by omega) (by omega) (by simp) (by omega)
theorem laws_eqFindS_loop (l : List S65) (hl : l.length ≤ 4611686018427387904) : ∀ (d k i : Nat), i + d = l.length → d < k → laws_eqFindS.l0 k l l (i : Int) = some true := by
  intro d
  induction d with
  | zero =>
    intro k i hi hk
    obtain ⟨k, rfl⟩ : ∃ m, k = m + 1 := ⟨k - 1, by omega⟩
    simp only [laws_eqFindS.l0]
    rw [if_neg (by omega)]
  | succ d ih =>
    intro k i hi hk
    obtain ⟨k, rfl⟩ : ∃ m, k = m + 1 := ⟨k - 1, by omega⟩
    have h1 : (i : Int) < (l.length : Int) := by omega
    have h2 : (0 : Int) ≤ (i : Int) := by omega
    simp only [laws_eqFindS.l0, if_pos h1, if_pos h2, eq_self, Option.bind_some, if_true, succ_at i l.length (by omega) hl]
    exact ih k (i + 1) (by omega) (by omega)
theorem laws_eqFindS_self (k : Nat) (l : List S65) (hk : l.length < k) (hl : l.length ≤ 4611686018427387904) : laws_eqFindS.f k l l = some true := by
  unfold laws_eqFindS.f
  rw [if_pos rfl]
  exact laws_eqFindS_loop l hl l.length k 0 (by omega) (by omega)
theorem laws_eqIntS_loop (l : List Int) (hl : l.length ≤ 4611686018427387904) : ∀ (d k i : Nat), i + d = l.length → d < k → laws_eqIntS.l0 k l l (i : Int) = some true := by
  intro d
  induction d with
  | zero =>
    intro k i hi hk
    obtain ⟨k, rfl⟩ : ∃ m, k = m + 1 := ⟨k - 1, by omega⟩
    simp only [laws_eqIntS.l0]
    rw [if_neg (by omega)]
  | succ d ih =>
    intro k i hi hk
    obtain ⟨k, rfl⟩ : ∃ m, k = m + 1 := ⟨k - 1, by omega⟩
    simp only [laws_eqIntS.l0]
    rw [if_pos (by omega), if_pos (by omega), if_pos (by omega), if_pos trivial, succ_at i l.length (by omega) hl]
    exact ih k (i + 1) (by omega) (by omega)
theorem laws_eqIntS_self (k : Nat) (l : List Int) (hk : l.length < k) (hl : l.length ≤ 4611686018427387904) : laws_eqIntS.f k l l = some true := by
  unfold laws_eqIntS.f
  rw [if_pos rfl]
  exact laws_eqIntS_loop l hl l.length k 0 (by omega) (by omega)
def laws_markIntS_val (m : Int) : Int := m
theorem laws_markIntS_loop (s : Int) (hs : 0 ≤ s ∧ s ≤ 1152921504606846976) (n : Nat) (hn : n ≤ 1152921504606846976) : ∀ (d k i : Nat) (l : List Int), i + d = n → l.length = n → d < k → (∀ j, j < i → l[j]? = some (laws_markIntS_val (s + (j : Int)))) →
    ∃ l', laws_markIntS.l0 k l (s + (i : Int)) (i : Int) = some (s + (n : Int), l') ∧ l'.length = n ∧ ∀ j, j < n → l'[j]? = some (laws_markIntS_val (s + (j : Int))) := by
  intro d
  induction d with
  | zero =>
    intro k i l hi hl hk hj
    obtain ⟨k, rfl⟩ : ∃ m, k = m + 1 := ⟨k - 1, by omega⟩
    simp only [laws_markIntS.l0]
    rw [if_neg (by omega)]
    obtain rfl : i = n := by omega
    exact ⟨l, rfl, hl, hj⟩
  | succ d ih =>
    intro k i l hi hl hk hj
    obtain ⟨k, rfl⟩ : ∃ m, k = m + 1 := ⟨k - 1, by omega⟩
    simp only [laws_markIntS.l0]
    rw [if_pos (by omega), if_pos (by omega), succ_at i n (by omega) (by omega), show wrap64 (s + (i : Int) + 1) = s + ((i + 1 : Nat) : Int) by unfold wrap64; omega]
    refine ih k (i + 1) _ (by omega) (by simp [hl]) (by omega) ?_
    intro j h
    rw [show ((i : Int)).toNat = i by omega, List.getElem?_set]
    by_cases e : i = j
    · subst e
      rw [if_pos rfl, if_pos (by omega)]
      rfl
    · rw [if_neg e]
      exact hj j (by omega)
theorem laws_heldIntS_loop (s : Int) (hs : 0 ≤ s ∧ s ≤ 1152921504606846976) (n : Nat) (hn : n ≤ 1152921504606846976) (l : List Int) (hl : l.length = n) (hj : ∀ j, j < n → l[j]? = some (laws_markIntS_val (s + (j : Int)))) : ∀ (d k i : Nat), i + d = n → d < k →
    laws_heldIntS.l0 k l (s + (i : Int)) (i : Int) = some (s + (n : Int)) := by
  intro d
  induction d with
  | zero =>
    intro k i hi hk
    obtain ⟨k, rfl⟩ : ∃ m, k = m + 1 := ⟨k - 1, by omega⟩
    simp only [laws_heldIntS.l0]
    rw [if_neg (by omega)]
    obtain rfl : i = n := by omega
    rfl
  | succ d ih =>
    intro k i hi hk
    obtain ⟨k, rfl⟩ : ∃ m, k = m + 1 := ⟨k - 1, by omega⟩
    have e := hj i (by omega)
    rw [List.getElem?_eq_getElem (by omega)] at e
    have e' : rd l (i : Int) = laws_markIntS_val (s + (i : Int)) := by rw [rd_at l i (by omega)]; exact Option.some.inj e
    simp only [laws_heldIntS.l0]
    rw [if_pos (by omega), if_pos (by omega), e', if_pos (by rfl), succ_at i n (by omega) (by omega), show wrap64 (s + (i : Int) + 1) = s + ((i + 1 : Nat) : Int) by unfold wrap64; omega]
    exact ih k (i + 1) (by omega) (by omega)
theorem laws_markIntS_held (k : Nat) (l : List Int) (s : Int) (hk : l.length < k) (hl : l.length ≤ 1048576000) (hs : 0 ≤ s ∧ s ≤ 1152921504606846976) : ∃ l', laws_markIntS.f k l s = some (s + (l.length : Int), l') ∧ laws_heldIntS.f k l' s = some (s + (l.length : Int)) := by
  obtain ⟨l', h1, h2, h3⟩ := laws_markIntS_loop s hs l.length (by omega) l.length k 0 l (by omega) rfl (by omega) (by omega)
  refine ⟨l', ?_, ?_⟩
  · unfold laws_markIntS.f
    simpa using h1
  · unfold laws_heldIntS.f
    simpa using laws_heldIntS_loop s hs l.length (by omega) l' h2 h3 l.length k 0 (by omega) (by omega)
theorem markFind_loop (n : Nat) (hn : n ≤ 1048576) : ∀ (d k i : Nat) (l : List S65), i + d = n → l.length = n → d < k → ∃ l', laws_markFindS.l0 k l (1 + 8 * (i : Int)) (i : Int) = some (1 + 8 * (n : Int), l') ∧ l'.length = n := by
  intro d
  induction d with
  | zero =>
    intro k i l hi hl hk
    obtain ⟨k, rfl⟩ : ∃ m, k = m + 1 := ⟨k - 1, by omega⟩
    simp only [laws_markFindS.l0]
    rw [if_neg (by omega)]
    obtain rfl : i = n := by omega
    exact ⟨l, rfl, hl⟩
  | succ d ih =>
    intro k i l hi hl hk
    obtain ⟨k, rfl⟩ : ∃ m, k = m + 1 := ⟨k - 1, by omega⟩
    simp only [laws_markFindS.l0]
    rw [if_pos (by omega), if_pos (by omega), succ_at i n (by omega) (by omega)]
    simp only [wrap_id (1 + 8 * (i : Int) + 1) (by omega) (by omega), wrap_id (1 + 8 * (i : Int) + 1 + 1) (by omega) (by omega), wrap_id (1 + 8 * (i : Int) + 1 + 1 + 1) (by omega) (by omega), wrap_id (1 + 8 * (i : Int) + 1 + 1 + 1 + 1) (by omega) (by omega), wrap_id (1 + 8 * (i : Int) + 1 + 1 + 1 + 1 + 1) (by omega) (by omega), wrap_id (1 + 8 * (i : Int) + 1 + 1 + 1 + 1 + 1 + 1) (by omega) (by omega), wrap_id (1 + 8 * (i : Int) + 1 + 1 + 1 + 1 + 1 + 1 + 1) (by omega) (by omega), wrap_id (1 + 8 * (i : Int) + 1 + 1 + 1 + 1 + 1 + 1 + 1 + 1) (by omega) (by omega)]
    rw [show 1 + 8 * (i : Int) + 1 + 1 + 1 + 1 + 1 + 1 + 1 + 1 = 1 + 8 * ((i + 1 : Nat) : Int) by omega]
    exact ih k (i + 1) _ (by omega) (by simp [hl]) (by omega)
theorem markFind_some (k : Nat) (l : List S65) (hk : l.length < k) (hl : l.length ≤ 1048576) : ∃ l', laws_markFindS.f k l 1 = some (1 + 8 * (l.length : Int), l') ∧ l'.length = l.length := by
  obtain ⟨l', h1, h2⟩ := markFind_loop l.length hl l.length k 0 l (by omega) rfl (by omega)
  exact ⟨l', h1, h2⟩
def holds (s u h : Int) : Bool := okSpan s u && inr h s u
theorem sHolds (s u h : Int) : spec_Holds.f s u h = some (holds s u h) := by
  unfold spec_Holds.f holds
  simp only [sIsSpan, l1In_eq, Option.bind_some]
  cases okSpan s u <;> simp
theorem iHolds (s u h : Int) : impl_Holds.f s u h = some (holds s u h) := by
  unfold impl_Holds.f holds
  simp only [iIsSpan, inRange_eq, Option.bind_some]
  cases okSpan s u <;> simp
theorem found_loop (x : List S65) (a u : Int) (hx : x.length ≤ 1048576) : ∀ (d k i : Nat) (acc : List Int), i + d = x.length → d < k → acc.length + d ≤ 1048576 → ∃ r, spec_FoundIn.l0 k x acc (i : Int) a u = some r ∧ impl_FoundIn.l0 k acc x (x.length : Int) (i : Int) a u = some r ∧ r.length ≤ 1048576 := by
  intro d
  induction d with
  | zero =>
    intro k i acc hi hk ha
    obtain ⟨k, rfl⟩ : ∃ m, k = m + 1 := ⟨k - 1, by omega⟩
    have h1 : ¬ (i : Int) < (x.length : Int) := by omega
    simp only [spec_FoundIn.l0, impl_FoundIn.l0, if_neg h1]
    exact ⟨acc, rfl, rfl, by omega⟩
  | succ d ih =>
    intro k i acc hi hk ha
    obtain ⟨k, rfl⟩ : ∃ m, k = m + 1 := ⟨k - 1, by omega⟩
    have h1 : (i : Int) < (x.length : Int) := by omega
    have h2 : (0 : Int) ≤ (i : Int) := by omega
    have h3 : acc.length < 17592186044416 := by omega
    simp only [spec_FoundIn.l0, impl_FoundIn.l0, if_pos h1, if_pos h2, if_pos h3, sHolds, iHolds, Option.bind_some, succ_at i x.length (by omega) (by omega)]
    by_cases e : holds a u (rd_T65 x (i : Int)).f2 = true
    · rw [if_pos e, if_pos e]
      exact ih k (i + 1) _ (by omega) (by omega) (by simp; omega)
    · rw [if_neg e, if_neg e]
      exact ih k (i + 1) _ (by omega) (by omega) (by omega)
theorem found (k : Nat) (x : List S65) (a u : Int) (hx : x.length ≤ 1048576) (hk : x.length < k) : ∃ r, spec_FoundIn.f k x a u = some r ∧ impl_FoundIn.f k x a u = some r ∧ r.length ≤ 1048576 := found_loop x a u hx x.length k 0 [] (by omega) hk (by simp; omega)
theorem main : laws_FnExactFoundIn.Pure := by
  intro l a u hm _ _
  obtain ⟨K, hK⟩ : ∃ K, K = l.length + 1048600 := ⟨_, rfl⟩
  refine ⟨K + 1, ?_⟩
  unfold laws_FnExactFoundIn.f laws_szFindS.f laws_toSpan.f
  have hm' : l.length ≤ 9223372036854775807 := hm
  rw [wrap_id (1048576 - (l.length : Int)) (by omega) (by omega)]
  by_cases h1 : 1048576 - (l.length : Int) < 0
  · rw [if_pos h1, Option.bind_some, if_pos (by omega)]
  rw [if_neg h1, Option.bind_some, if_neg h1]
  have e1 := laws_toFindS_eq (K + 1) l (by omega) (by omega)
  have e0 := laws_toFindS_eq K l (by omega) (by omega)
  have hlen : (l.map laws_toFindS_conv).length = l.length := by simp
  generalize l.map laws_toFindS_conv = x at e1 e0 hlen
  obtain ⟨r, s1, i1, hr⟩ := found (K + 1) x a u (by omega) (by omega)
  obtain ⟨r2, s2, i2, _⟩ := found K x a u (by omega) (by omega)
  have e : r2 = r := by
    have := at_rounds (fun k => spec_FoundIn.mono x a u k) (show K ≤ K + 1 by omega) s2
    rw [s1] at this
    exact (Option.some.inj this).symm
  subst e
  have ex := laws_eqFindS_self (K + 1) x (by omega) (by omega)
  have er := laws_eqIntS_self (K + 1) r2 (by omega) (by omega)
  have er0 := laws_eqIntS_self K r2 (by omega) (by omega)
  obtain ⟨x', m1, _⟩ := markFind_some (K + 1) x (by omega) (by omega)
  obtain ⟨r', m2, m3⟩ := laws_markIntS_held K r2 1 (by omega) (by omega) (by omega)
  simp only [e1, s1, i1, er, ex, m1, Option.bind_some, if_true]
  rw [if_neg (by omega)]
  simp only [Bool.not_true, laws_FnExactFoundIn.j0, laws_toSpan.f, Bool.false_eq_true, if_false, m2, m3, Option.bind_some, if_true, e0, i2, er0]
  rw [if_neg (by omega), if_neg (by omega)]

end Go.Proofs.Ytoocbgjcigadfad.PureFnExactFoundIn
namespace Go.Proofs.Ytoocbgjcigadfad.Pure
/-- The pure statement. -/
theorem FnExactFoundIn : Go.Proofs.Ytoocbgjcigadfad.PureFnExactFoundIn.laws_FnExactFoundIn.Pure := Go.Proofs.Ytoocbgjcigadfad.PureFnExactFoundIn.main
end Go.Proofs.Ytoocbgjcigadfad.Pure

/- Plain laws on decimal numerals: which lists of digits are the numeral of their value; no program, no conditions. -/
import Derived.Lib.ItoaNum
import Derived.Lib.Bytes
namespace Go.Proofs.YtoocbgjcigadfadDoor.Dec
open Go.Lib

def isDigit (b : UInt8) : Prop := 48 ≤ b.toNat ∧ b.toNat ≤ 57
def val (l : List UInt8) : Nat := l.foldl (fun n b => 10 * n + (b.toNat - 48)) 0
theorem val_snoc (l : List UInt8) (b : UInt8) : val (l ++ [b]) = 10 * val l + (b.toNat - 48) := by simp [val]
theorem val_nil : val [] = 0 := rfl
theorem ofNat_toNat (b : UInt8) (h : isDigit b) : UInt8.ofNat (48 + (b.toNat - 48)) = b := by
  have h1 := h.1
  rw [show 48 + (b.toNat - 48) = b.toNat by omega]
  simp
theorem decDigits_small {u : Nat} (h : u < 10) : decDigits u = [UInt8.ofNat (48 + u)] := by rw [decDigits, dif_pos h]
theorem decDigits_big {u : Nat} (h : ¬ u < 10) : decDigits u = decDigits (u / 10) ++ [UInt8.ofNat (48 + u % 10)] := by rw [decDigits, dif_neg h]
theorem snoc_cases {α : Type} (l : List α) (h : l ≠ []) : ∃ l' b, l = l' ++ [b] := ⟨l.dropLast, l.getLast h, (List.dropLast_concat_getLast h).symm⟩

/-- A list of digits that does not begin with a zero, or is one digit, is the numeral of its value. -/
theorem numeral_of : ∀ (n : Nat) (l : List UInt8), l.length = n → l ≠ [] → (∀ b ∈ l, isDigit b) → (l.head? = some 48 → n = 1) → decDigits (val l) = l ∧ (l.head? ≠ some 48 → 0 < val l) := by
  intro n
  induction n using Nat.strongRecOn with
  | ind n ih =>
    intro l hl hne hd hz
    obtain ⟨l', b, rfl⟩ := snoc_cases l hne
    have hb : isDigit b := hd b (by simp)
    have hb1 := hb.1
    have hb2 := hb.2
    rw [val_snoc]
    by_cases e : l' = []
    · subst e
      rw [val_nil]
      refine ⟨?_, ?_⟩
      · rw [decDigits_small (by omega), show 48 + (10 * 0 + (b.toNat - 48)) = 48 + (b.toNat - 48) by omega, ofNat_toNat b hb]
        rfl
      · intro h
        have : b ≠ 48 := by
          intro e
          subst e
          simp at h
        have : b.toNat ≠ 48 := fun e => this (UInt8.toNat_inj.1 e)
        omega
    · have hlen : (l' ++ [b]).length = l'.length + 1 := by simp
      have hp : 0 < l'.length := List.length_pos_iff.2 e
      have hh : (l' ++ [b]).head? = l'.head? := by
        cases l' with
        | nil => exact absurd rfl e
        | cons x r => rfl
      have hz' : l'.head? ≠ some 48 := by
        intro h
        have := hz (by rw [hh]; exact h)
        omega
      obtain ⟨h1, h2⟩ := ih l'.length (by omega) l' rfl e (fun x hx => hd x (by simp [hx])) (fun h => absurd h hz')
      have h3 := h2 hz'
      refine ⟨?_, fun _ => by omega⟩
      rw [decDigits_big (by omega), show (10 * val l' + (b.toNat - 48)) / 10 = val l' by omega, show (10 * val l' + (b.toNat - 48)) % 10 = b.toNat - 48 by omega, h1, ofNat_toNat b hb]

/-- A numeral of more than one digit does not begin with a zero. -/
theorem numeral_head : ∀ (u : Nat), 0 < u → (decDigits u).head? ≠ some 48 := by
  intro u
  induction u using Nat.strongRecOn with
  | ind u ih =>
    intro hu
    by_cases h : u < 10
    · rw [decDigits_small h]
      have : ∀ x : Fin 10, 0 < x.val → UInt8.ofNat (48 + x.val) ≠ 48 := by decide
      simpa using this ⟨u, h⟩ hu
    · rw [decDigits_big h]
      have h1 := ih (u / 10) (by omega) (by omega)
      have hne : decDigits (u / 10) ≠ [] := by
        intro e
        have := decDigits_length (u / 10)
        have := nDigits_pos (u / 10)
        rw [e] at *
        simp at *
        omega
      cases hd : decDigits (u / 10) with
      | nil => exact absurd hd hne
      | cons x r =>
        rw [hd] at h1
        exact h1
theorem numeral_iff (l : List UInt8) (hne : l ≠ []) (hd : ∀ b ∈ l, isDigit b) : decDigits (val l) = l ↔ (l.head? = some 48 → l.length = 1) := by
  constructor
  · intro h hh
    rcases Nat.eq_zero_or_pos (val l) with h0 | h0
    · rw [h0, decDigits_small (by omega)] at h
      rw [← h]
      rfl
    · have := numeral_head (val l) h0
      rw [h] at this
      exact absurd hh this
  · intro h
    exact (numeral_of l.length l rfl hne hd h).1
theorem val_take_succ (l : List UInt8) (i : Nat) (h : i < l.length) : val (l.take (i + 1)) = 10 * val (l.take i) + (l[i].toNat - 48) := by
  rw [List.take_succ_eq_append_getElem h, val_snoc]
theorem val_lt (l : List UInt8) (hd : ∀ b ∈ l, isDigit b) : val l < 10 ^ l.length := by
  have : ∀ (n : Nat) (l : List UInt8), l.length = n → (∀ b ∈ l, isDigit b) → val l < 10 ^ n := by
    intro n
    induction n with
    | zero =>
      intro l hl _
      obtain rfl := List.eq_nil_of_length_eq_zero hl
      simp [val]
    | succ n ih =>
      intro l hl hd
      obtain ⟨l', b, rfl⟩ := snoc_cases l (by intro e; subst e; simp at hl)
      have := ih l' (by simpa using hl) (fun x hx => hd x (by simp [hx]))
      have hb := hd b (by simp)
      have h2 := hb.2
      rw [val_snoc, Nat.pow_succ]
      omega
  exact this l.length l rfl hd
theorem strOf_one (d : Int) : strOfNums [d] = ⟨#[UInt8.ofNat d.toNat]⟩ := by simp [strOfNums]
theorem mk_append (a b : List UInt8) : (⟨a.toArray⟩ : ByteArray) ++ ⟨b.toArray⟩ = ⟨(a ++ b).toArray⟩ := by
  apply ByteArray.ext
  simp
theorem mk_size (a : List UInt8) : (⟨a.toArray⟩ : ByteArray).size = a.length := by simp [ByteArray.size]
end Go.Proofs.YtoocbgjcigadfadDoor.Dec

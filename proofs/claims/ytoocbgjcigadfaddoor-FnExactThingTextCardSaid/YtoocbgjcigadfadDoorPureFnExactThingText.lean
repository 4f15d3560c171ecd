/- The printed law FnExactThingText, as a function of numbers and lists, answers true for all arguments that a call can be given; no conditions beyond the sizes that memory allows. -/
import Derived.Test.YtoocbgjcigadfadDoorWkFnExactThingTextx3
import Derived.Test.YtoocbgjcigadfadDoorDec
import Derived.Lib.Strings
namespace Go.Proofs.YtoocbgjcigadfadDoor.PureFnExactThingText
open Go.RowKit Go.Proofs.YtoocbgjcigadfadDoor.PFnExactThingText Go.Proofs.YtoocbgjcigadfadDoorW.PrintWords Go.Proofs.YtoocbgjcigadfadDoorW.PrintLast Go.Proofs.YtoocbgjcigadfadDoorW.PrintMore
set_option linter.unusedVariables false
set_option linter.unusedSimpArgs false

/-- The pure statement of laws_FnExactThingText, typed by lawfill.py as print.sh types it where it does. -/
def laws_FnExactThingText.Pure : Prop := ∀ (a0_0 : Int) (a0_1 : Int) (a0_2 : Int) (a0_3 : Int) (a0_4 : Int), (Lit.int .i64 a0_0).wf = true → (Lit.int .i64 a0_1).wf = true → (Lit.int .i64 a0_2).wf = true → (Lit.int .i64 a0_3).wf = true → (Lit.int .i64 a0_4).wf = true → ∃ k, laws_FnExactThingText.f k a0_0 a0_1 a0_2 a0_3 a0_4 = some true

def inr (a b c : Int) : Bool := decide (b ≤ a) && decide (a ≤ c)
theorem inr_iff (a b c : Int) : inr a b c = true ↔ b ≤ a ∧ a ≤ c := by unfold inr; simp
theorem l1In_eq (a b c : Int) : spec_l1In.f a b c = some (inr a b c) := by
  unfold spec_l1In.f inr
  by_cases h : b ≤ a <;> simp [h]
theorem inRange_eq (a b c : Int) : impl_InRange.f a b c = some (inr a b c) := by
  unfold impl_InRange.f inr
  by_cases h : b ≤ a <;> simp [h]
theorem rd_at (xs : List Int) (i : Nat) (h : i < xs.length) : rd xs (i : Int) = xs[i] := by
  unfold rd
  simp [List.getD_eq_getElem?_getD, h]
theorem succ_at (i n : Nat) (h : i < n) (hn : n ≤ 4611686018427387904) : wrap64 ((i : Int) + 1) = ((i + 1 : Nat) : Int) := by
  unfold wrap64
  omega
theorem wrap_id (n : Int) (h0 : -9223372036854775808 ≤ n) (h1 : n ≤ 9223372036854775807) : wrap64 n = n := by
  unfold wrap64
  omega
theorem u8_range {z : Int} (h : (Lit.int .u8 z).wf = true) : 0 ≤ z ∧ z ≤ 255 := by
  simp only [Lit.wf, Bool.and_eq_true, decide_eq_true_eq] at h
  have e1 : IntKind.u8.min = 0 := by decide
  have e2 : IntKind.u8.max = 255 := by decide
  omega
theorem i64_range {z : Int} (h : (Lit.int .i64 z).wf = true) : -9223372036854775808 ≤ z ∧ z ≤ 9223372036854775807 := by
  simp only [Lit.wf, Bool.and_eq_true, decide_eq_true_eq] at h
  have e1 : IntKind.i64.min = -9223372036854775808 := by decide
  have e2 : IntKind.i64.max = 9223372036854775807 := by decide
  omega
def okThing (a b c d e : Int) : Bool := inr a 1 999 && inr b 1 8 && inr c 0 7 && inr d 1 50 && inr e 0 10000000
theorem sIsThing (a b c d e : Int) : spec_IsThing.f a b c d e = some (okThing a b c d e) := by
  unfold spec_IsThing.f okThing
  simp only [l1In_eq, Option.bind_some]
  cases inr a 1 999 <;> cases inr b 1 8 <;> cases inr c 0 7 <;> cases inr d 1 50 <;> simp
theorem iIsThing (a b c d e : Int) : impl_IsThing.f a b c d e = some (okThing a b c d e) := by
  unfold impl_IsThing.f okThing
  simp only [inRange_eq, Option.bind_some]
  cases inr a 1 999 <;> cases inr b 1 8 <;> cases inr c 0 7 <;> cases inr d 1 50 <;> simp
def dd (x : Nat) : List UInt8 := if x = 0 then [] else Go.Lib.decDigits x
theorem dd_step (x : Nat) (h : x ≠ 0) : dd x = dd (x / 10) ++ [UInt8.ofNat (48 + x % 10)] := by
  unfold dd
  rw [if_neg h]
  by_cases h1 : x < 10
  · rw [Dec.decDigits_small h1, if_pos (by omega), show x % 10 = x by omega]
    rfl
  · rw [Dec.decDigits_big h1, if_neg (by omega)]
theorem sFormat_pos (n : Int) (hn : ¬ n < 0) : ∀ (f x k : Nat) (acc : List UInt8), x < 10 ^ f → x ≤ 9223372036854775808 → f < k → acc.length + f ≤ 1048576 → spec_FormatInt.l0 k n ⟨acc.toArray⟩ (x : Int) = some ⟨(dd x ++ acc).toArray⟩ := by
  intro f
  induction f with
  | zero =>
    intro x k acc hx _ hk ha
    obtain ⟨k, rfl⟩ : ∃ m, k = m + 1 := ⟨k - 1, by omega⟩
    obtain rfl : x = 0 := by simpa using hx
    simp only [spec_FormatInt.l0]
    rw [if_pos (by omega), if_neg hn]
    simp [dd]
  | succ f ih =>
    intro x k acc hx hx2 hk ha
    obtain ⟨k, rfl⟩ : ∃ m, k = m + 1 := ⟨k - 1, by omega⟩
    simp only [spec_FormatInt.l0]
    by_cases h0 : x = 0
    · subst h0
      rw [if_pos (by omega), if_neg hn]
      simp [dd]
    · rw [if_neg (by omega), Int.tmod_eq_emod_of_nonneg (by omega), if_neg (by omega), Option.bind_some, Dec.strOf_one, show ((wrap64 (48 + (x : Int) % 10)) % 256).toNat = 48 + x % 10 by unfold wrap64; omega,
        show (⟨#[UInt8.ofNat (48 + x % 10)]⟩ : ByteArray) = ⟨[UInt8.ofNat (48 + x % 10)].toArray⟩ from rfl, Dec.mk_append, Dec.mk_size, Dec.mk_size, if_pos (by simp; omega), Int.tdiv_eq_ediv_of_nonneg (by omega),
        show wrap64 ((x : Int) / 10) = ((x / 10 : Nat) : Int) by unfold wrap64; omega]
      rw [ih (x / 10) k _ (by rw [Nat.pow_succ] at hx; omega) (by omega) (by omega) (by simp; omega), dd_step x h0]
      simp
theorem sFormat_neg (n : Int) (hn : n < 0) : ∀ (f x k : Nat) (acc : List UInt8), x < 10 ^ f → x ≤ 9223372036854775808 → f < k → acc.length + f ≤ 1048576 → spec_FormatInt.l0 k n ⟨acc.toArray⟩ (-(x : Int)) = some ⟨(45 :: (dd x ++ acc)).toArray⟩ := by
  intro f
  induction f with
  | zero =>
    intro x k acc hx _ hk ha
    obtain ⟨k, rfl⟩ : ∃ m, k = m + 1 := ⟨k - 1, by omega⟩
    obtain rfl : x = 0 := by simpa using hx
    simp only [spec_FormatInt.l0]
    rw [if_pos (by omega), if_pos hn, Dec.mk_size, if_pos (by omega), show (⟨#[45]⟩ : ByteArray) = ⟨[45].toArray⟩ from rfl, Dec.mk_append]
    simp [dd]
  | succ f ih =>
    intro x k acc hx hx2 hk ha
    obtain ⟨k, rfl⟩ : ∃ m, k = m + 1 := ⟨k - 1, by omega⟩
    simp only [spec_FormatInt.l0]
    by_cases h0 : x = 0
    · subst h0
      rw [if_pos (by omega), if_pos hn, Dec.mk_size, if_pos (by omega), show (⟨#[45]⟩ : ByteArray) = ⟨[45].toArray⟩ from rfl, Dec.mk_append]
      simp [dd]
    · have hd : Int.tmod (-(x : Int)) 10 = -((x % 10 : Nat) : Int) := by rw [Int.neg_tmod, Int.tmod_eq_emod_of_nonneg (by omega)]; omega
      have hq : Int.tdiv (-(x : Int)) 10 = -((x / 10 : Nat) : Int) := by rw [Int.neg_tdiv, Int.tdiv_eq_ediv_of_nonneg (by omega)]; omega
      have ih' := ih (x / 10) k (UInt8.ofNat (48 + x % 10) :: acc) (by rw [Nat.pow_succ] at hx; omega) (by omega) (by omega) (by simp; omega)
      have hfin : (⟨(45 :: (dd (x / 10) ++ UInt8.ofNat (48 + x % 10) :: acc)).toArray⟩ : ByteArray) = ⟨(45 :: (dd x ++ acc)).toArray⟩ := by rw [dd_step x h0]; simp
      rw [hfin] at ih'
      rw [if_neg (by omega), hd, hq, show wrap64 (-((x / 10 : Nat) : Int)) = -((x / 10 : Nat) : Int) by unfold wrap64; omega]
      have hcat : (⟨#[UInt8.ofNat (48 + x % 10)]⟩ : ByteArray) ++ ⟨acc.toArray⟩ = ⟨(UInt8.ofNat (48 + x % 10) :: acc).toArray⟩ := Dec.mk_append [UInt8.ofNat (48 + x % 10)] acc
      have hsz : (⟨#[UInt8.ofNat (48 + x % 10)]⟩ : ByteArray).size = 1 := Dec.mk_size [UInt8.ofNat (48 + x % 10)]
      by_cases hm : -((x % 10 : Nat) : Int) < 0
      · rw [if_pos hm, Option.bind_some, Dec.strOf_one, show ((wrap64 (48 + wrap64 (-(-((x % 10 : Nat) : Int))))) % 256).toNat = 48 + x % 10 by unfold wrap64; omega, hcat, hsz, Dec.mk_size, if_pos (by omega)]
        exact ih'
      · rw [if_neg hm, Option.bind_some, Dec.strOf_one, show ((wrap64 (48 + -((x % 10 : Nat) : Int))) % 256).toNat = 48 + x % 10 by unfold wrap64; omega, hcat, hsz, Dec.mk_size, if_pos (by omega)]
        exact ih'
/-- The reference's FormatInt gives the numeral. -/
theorem sFormat (k : Nat) (n : Int) (h0 : -9223372036854775808 ≤ n) (h1 : n ≤ 9223372036854775807) (hk : 20 < k) : spec_FormatInt.f k n = some ⟨(Go.Lib.itoa n).toArray⟩ := by
  unfold spec_FormatInt.f Go.Lib.itoa
  by_cases hz : n = 0
  · subst hz
    rw [if_pos rfl, if_neg (by omega), show (0 : Int).toNat = 0 from rfl, Dec.decDigits_small (by omega)]
    rfl
  · rw [if_neg hz]
    by_cases hn : n < 0
    · rw [if_pos hn]
      have h := sFormat_neg n hn 20 n.natAbs k [] (by omega) (by omega) hk (by simp)
      rw [show -(n.natAbs : Int) = n by omega] at h
      rw [show (⟨#[]⟩ : ByteArray) = ⟨([] : List UInt8).toArray⟩ from rfl, h]
      simp [dd, show n.natAbs ≠ 0 by omega]
    · rw [if_neg hn]
      have h := sFormat_pos n hn 20 n.toNat k [] (by omega) (by omega) hk (by simp)
      rw [show (n.toNat : Int) = n by omega] at h
      rw [show (⟨#[]⟩ : ByteArray) = ⟨([] : List UInt8).toArray⟩ from rfl, h]
      simp [dd, show n.toNat ≠ 0 by omega]
theorem kind_same (a : Int) : spec_KindText.f a = impl_KindText.f a := by
  unfold spec_KindText.f impl_KindText.f
  simp only [l1In_eq, inRange_eq]
theorem colour_same (a : Int) : spec_ColourText.f a = impl_ColourText.f a := by
  unfold spec_ColourText.f impl_ColourText.f
  simp only [l1In_eq, inRange_eq]
theorem kind_at (a : Int) (h : inr a 1 8 = true) : ∃ s, impl_KindText.f a = some s ∧ s.size ≤ 8 := by
  obtain ⟨h0, h1⟩ := (inr_iff _ _ _).1 h
  have : a = 1 ∨ a = 2 ∨ a = 3 ∨ a = 4 ∨ a = 5 ∨ a = 6 ∨ a = 7 ∨ a = 8 := by omega
  rcases this with rfl | rfl | rfl | rfl | rfl | rfl | rfl | rfl <;> exact ⟨_, rfl, by decide⟩
theorem colour_at (a : Int) (h : inr a 0 7 = true) : ∃ s, impl_ColourText.f a = some s ∧ s.size ≤ 8 := by
  obtain ⟨h0, h1⟩ := (inr_iff _ _ _).1 h
  have : a = 0 ∨ a = 1 ∨ a = 2 ∨ a = 3 ∨ a = 4 ∨ a = 5 ∨ a = 6 ∨ a = 7 := by omega
  rcases this with rfl | rfl | rfl | rfl | rfl | rfl | rfl | rfl <;> exact ⟨_, rfl, by decide⟩
theorem iFormat (k : Nat) (n : Int) (h0 : -9223372036854775808 ≤ n) (h1 : n ≤ 9223372036854775807) : impl_FormatInt.f k n = some ⟨(Go.Lib.itoa n).toArray⟩ := by
  unfold impl_FormatInt.f
  rw [if_pos ⟨h0, h1⟩]
theorem digits_len : ∀ (f x : Nat), x < 10 ^ f → (Go.Lib.decDigits x).length ≤ f + 1 := by
  intro f
  induction f with
  | zero =>
    intro x h
    rw [Dec.decDigits_small (by simp at h; omega)]
    simp
  | succ f ih =>
    intro x h
    by_cases h1 : x < 10
    · rw [Dec.decDigits_small h1]
      simp
    · rw [Dec.decDigits_big h1, List.length_append]
      have := ih (x / 10) (by rw [Nat.pow_succ] at h; omega)
      simp
      omega
theorem itoa_len (n : Int) (h0 : 0 ≤ n) (h1 : n ≤ 999) : (⟨(Go.Lib.itoa n).toArray⟩ : ByteArray).size ≤ 20 := by
  rw [Dec.mk_size]
  unfold Go.Lib.itoa
  rw [if_neg (by omega)]
  have := digits_len 3 n.toNat (by omega)
  omega
theorem text_at (k : Nat) (a b c d e : Int) (h : okThing a b c d e = true) (hk : 20 < k) : ∃ s, spec_ThingText.f k a b c d e = some s ∧ impl_ThingText.f k a b c d e = some s := by
  have h' := h
  unfold okThing at h'
  simp only [Bool.and_eq_true, inr_iff] at h'
  obtain ⟨⟨⟨⟨⟨a0, a1⟩, b0⟩, c0⟩, d0, d1⟩, _⟩ := h'
  obtain ⟨s1, e1, q1⟩ := kind_at b ((inr_iff _ _ _).2 b0)
  obtain ⟨s2, e2, q2⟩ := colour_at c ((inr_iff _ _ _).2 c0)
  have l1 := itoa_len a (by omega) (by omega)
  have l2 := itoa_len d (by omega) (by omega)
  have f1 := sFormat k a (by omega) (by omega) hk
  have f2 := sFormat k d (by omega) (by omega) hk
  have g1 := iFormat k a (by omega) (by omega)
  have g2 := iFormat k d (by omega) (by omega)
  generalize (⟨(Go.Lib.itoa a).toArray⟩ : ByteArray) = x at f1 g1 l1
  generalize (⟨(Go.Lib.itoa d).toArray⟩ : ByteArray) = y at f2 g2 l2
  have h32 : (⟨#[32]⟩ : ByteArray).size = 1 := rfl
  unfold spec_ThingText.f impl_ThingText.f
  simp only [sIsThing, iIsThing, h, f1, f2, g1, g2, kind_same, colour_same, e1, e2, Option.bind_some, if_true]
  refine ⟨x ++ (⟨#[32]⟩ : ByteArray) ++ s2 ++ (⟨#[32]⟩ : ByteArray) ++ s1 ++ (⟨#[32]⟩ : ByteArray) ++ y, ?_, ?_⟩
  · iterate 6 rw [if_pos (by first | omega | (simp only [ByteArray.size_append, h32]; omega))]
  · iterate 6 rw [if_pos (by first | omega | (simp only [ByteArray.size_append, h32]; omega))]
theorem text_same (k : Nat) (a b c d e : Int) (hk : 20 < k) : ∃ s, spec_ThingText.f k a b c d e = some s ∧ impl_ThingText.f k a b c d e = some s := by
  by_cases h : okThing a b c d e = true
  · exact text_at k a b c d e h hk
  · unfold spec_ThingText.f impl_ThingText.f
    simp only [sIsThing, iIsThing, h, Option.bind_some, Bool.false_eq_true, if_false]
    exact ⟨_, rfl, rfl⟩
theorem main : laws_FnExactThingText.Pure := by
  intro a b c d e _ _ _ _ _
  refine ⟨100, ?_⟩
  obtain ⟨s, h1, h2⟩ := text_same 100 a b c d e (by omega)
  unfold laws_FnExactThingText.f laws_toThing.f
  simp only [Option.bind_some, h1, h2, if_true]

end Go.Proofs.YtoocbgjcigadfadDoor.PureFnExactThingText
namespace Go.Proofs.YtoocbgjcigadfadDoor.Pure
/-- The pure statement. -/
theorem FnExactThingText : Go.Proofs.YtoocbgjcigadfadDoor.PureFnExactThingText.laws_FnExactThingText.Pure := Go.Proofs.YtoocbgjcigadfadDoor.PureFnExactThingText.main
end Go.Proofs.YtoocbgjcigadfadDoor.Pure

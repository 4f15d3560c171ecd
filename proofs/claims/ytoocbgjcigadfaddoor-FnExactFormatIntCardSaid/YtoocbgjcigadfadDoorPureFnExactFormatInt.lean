/- The printed law FnExactFormatInt, as a function of numbers and lists, answers true for all arguments that a call can be given; no conditions beyond the sizes that memory allows. -/
import Derived.Test.YtoocbgjcigadfadDoorWkFnExactFormatIntx1
import Derived.Test.YtoocbgjcigadfadDoorDec
import Derived.Lib.Strings
namespace Go.Proofs.YtoocbgjcigadfadDoor.PureFnExactFormatInt
open Go.RowKit Go.Proofs.YtoocbgjcigadfadDoor.PFnExactFormatInt Go.Proofs.YtoocbgjcigadfadDoorW.PrintWords Go.Proofs.YtoocbgjcigadfadDoorW.PrintLast Go.Proofs.YtoocbgjcigadfadDoorW.PrintMore
set_option linter.unusedVariables false
set_option linter.unusedSimpArgs false

/-- The pure statement of laws_FnExactFormatInt, typed by lawfill.py as print.sh types it where it does. -/
def laws_FnExactFormatInt.Pure : Prop := ∀ (a0 : Int), (Lit.int .i64 a0).wf = true → ∃ k, laws_FnExactFormatInt.f k a0 = some true

theorem rd_at (xs : List Int) (i : Nat) (h : i < xs.length) : rd xs (i : Int) = xs[i] := by
  unfold rd
  simp [List.getD_eq_getElem?_getD, h]
theorem succ_at (i n : Nat) (h : i < n) (hn : n ≤ 4611686018427387904) : wrap64 ((i : Int) + 1) = ((i + 1 : Nat) : Int) := by
  unfold wrap64
  omega
theorem wrap_id (n : Int) (h0 : -9223372036854775808 ≤ n) (h1 : n ≤ 9223372036854775807) : wrap64 n = n := by
  unfold wrap64
  omega
theorem u8_range {z : Int} (h : (Lit.int .u8 z).wf = true) : 0 ≤ z ∧ z ≤ 255 := by
  simp only [Lit.wf, Bool.and_eq_true, decide_eq_true_eq] at h
  have e1 : IntKind.u8.min = 0 := by decide
  have e2 : IntKind.u8.max = 255 := by decide
  omega
theorem i64_range {z : Int} (h : (Lit.int .i64 z).wf = true) : -9223372036854775808 ≤ z ∧ z ≤ 9223372036854775807 := by
  simp only [Lit.wf, Bool.and_eq_true, decide_eq_true_eq] at h
  have e1 : IntKind.i64.min = -9223372036854775808 := by decide
  have e2 : IntKind.i64.max = 9223372036854775807 := by decide
  omega
def dd (x : Nat) : List UInt8 := if x = 0 then [] else Go.Lib.decDigits x
theorem dd_step (x : Nat) (h : x ≠ 0) : dd x = dd (x / 10) ++ [UInt8.ofNat (48 + x % 10)] := by
  unfold dd
  rw [if_neg h]
  by_cases h1 : x < 10
  · rw [Dec.decDigits_small h1, if_pos (by omega), show x % 10 = x by omega]
    rfl
  · rw [Dec.decDigits_big h1, if_neg (by omega)]
theorem sFormat_pos (n : Int) (hn : ¬ n < 0) : ∀ (f x k : Nat) (acc : List UInt8), x < 10 ^ f → x ≤ 9223372036854775808 → f < k → acc.length + f ≤ 1048576 → spec_FormatInt.l0 k n ⟨acc.toArray⟩ (x : Int) = some ⟨(dd x ++ acc).toArray⟩ := by
  intro f
  induction f with
  | zero =>
    intro x k acc hx _ hk ha
    obtain ⟨k, rfl⟩ : ∃ m, k = m + 1 := ⟨k - 1, by omega⟩
    obtain rfl : x = 0 := by simpa using hx
    simp only [spec_FormatInt.l0]
    rw [if_pos (by omega), if_neg hn]
    simp [dd]
  | succ f ih =>
    intro x k acc hx hx2 hk ha
    obtain ⟨k, rfl⟩ : ∃ m, k = m + 1 := ⟨k - 1, by omega⟩
    simp only [spec_FormatInt.l0]
    by_cases h0 : x = 0
    · subst h0
      rw [if_pos (by omega), if_neg hn]
      simp [dd]
    · rw [if_neg (by omega), Int.tmod_eq_emod_of_nonneg (by omega), if_neg (by omega), Option.bind_some, Dec.strOf_one, show ((wrap64 (48 + (x : Int) % 10)) % 256).toNat = 48 + x % 10 by unfold wrap64; omega,
        show (⟨#[UInt8.ofNat (48 + x % 10)]⟩ : ByteArray) = ⟨[UInt8.ofNat (48 + x % 10)].toArray⟩ from rfl, Dec.mk_append, Dec.mk_size, Dec.mk_size, if_pos (by simp; omega), Int.tdiv_eq_ediv_of_nonneg (by omega),
        show wrap64 ((x : Int) / 10) = ((x / 10 : Nat) : Int) by unfold wrap64; omega]
      rw [ih (x / 10) k _ (by rw [Nat.pow_succ] at hx; omega) (by omega) (by omega) (by simp; omega), dd_step x h0]
      simp
theorem sFormat_neg (n : Int) (hn : n < 0) : ∀ (f x k : Nat) (acc : List UInt8), x < 10 ^ f → x ≤ 9223372036854775808 → f < k → acc.length + f ≤ 1048576 → spec_FormatInt.l0 k n ⟨acc.toArray⟩ (-(x : Int)) = some ⟨(45 :: (dd x ++ acc)).toArray⟩ := by
  intro f
  induction f with
  | zero =>
    intro x k acc hx _ hk ha
    obtain ⟨k, rfl⟩ : ∃ m, k = m + 1 := ⟨k - 1, by omega⟩
    obtain rfl : x = 0 := by simpa using hx
    simp only [spec_FormatInt.l0]
    rw [if_pos (by omega), if_pos hn, Dec.mk_size, if_pos (by omega), show (⟨#[45]⟩ : ByteArray) = ⟨[45].toArray⟩ from rfl, Dec.mk_append]
    simp [dd]
  | succ f ih =>
    intro x k acc hx hx2 hk ha
    obtain ⟨k, rfl⟩ : ∃ m, k = m + 1 := ⟨k - 1, by omega⟩
    simp only [spec_FormatInt.l0]
    by_cases h0 : x = 0
    · subst h0
      rw [if_pos (by omega), if_pos hn, Dec.mk_size, if_pos (by omega), show (⟨#[45]⟩ : ByteArray) = ⟨[45].toArray⟩ from rfl, Dec.mk_append]
      simp [dd]
    · have hd : Int.tmod (-(x : Int)) 10 = -((x % 10 : Nat) : Int) := by rw [Int.neg_tmod, Int.tmod_eq_emod_of_nonneg (by omega)]; omega
      have hq : Int.tdiv (-(x : Int)) 10 = -((x / 10 : Nat) : Int) := by rw [Int.neg_tdiv, Int.tdiv_eq_ediv_of_nonneg (by omega)]; omega
      have ih' := ih (x / 10) k (UInt8.ofNat (48 + x % 10) :: acc) (by rw [Nat.pow_succ] at hx; omega) (by omega) (by omega) (by simp; omega)
      have hfin : (⟨(45 :: (dd (x / 10) ++ UInt8.ofNat (48 + x % 10) :: acc)).toArray⟩ : ByteArray) = ⟨(45 :: (dd x ++ acc)).toArray⟩ := by rw [dd_step x h0]; simp
      rw [hfin] at ih'
      rw [if_neg (by omega), hd, hq, show wrap64 (-((x / 10 : Nat) : Int)) = -((x / 10 : Nat) : Int) by unfold wrap64; omega]
      have hcat : (⟨#[UInt8.ofNat (48 + x % 10)]⟩ : ByteArray) ++ ⟨acc.toArray⟩ = ⟨(UInt8.ofNat (48 + x % 10) :: acc).toArray⟩ := Dec.mk_append [UInt8.ofNat (48 + x % 10)] acc
      have hsz : (⟨#[UInt8.ofNat (48 + x % 10)]⟩ : ByteArray).size = 1 := Dec.mk_size [UInt8.ofNat (48 + x % 10)]
      by_cases hm : -((x % 10 : Nat) : Int) < 0
      · rw [if_pos hm, Option.bind_some, Dec.strOf_one, show ((wrap64 (48 + wrap64 (-(-((x % 10 : Nat) : Int))))) % 256).toNat = 48 + x % 10 by unfold wrap64; omega, hcat, hsz, Dec.mk_size, if_pos (by omega)]
        exact ih'
      · rw [if_neg hm, Option.bind_some, Dec.strOf_one, show ((wrap64 (48 + -((x % 10 : Nat) : Int))) % 256).toNat = 48 + x % 10 by unfold wrap64; omega, hcat, hsz, Dec.mk_size, if_pos (by omega)]
        exact ih'
/-- The reference's FormatInt gives the numeral. -/
theorem sFormat (k : Nat) (n : Int) (h0 : -9223372036854775808 ≤ n) (h1 : n ≤ 9223372036854775807) (hk : 20 < k) : spec_FormatInt.f k n = some ⟨(Go.Lib.itoa n).toArray⟩ := by
  unfold spec_FormatInt.f Go.Lib.itoa
  by_cases hz : n = 0
  · subst hz
    rw [if_pos rfl, if_neg (by omega), show (0 : Int).toNat = 0 from rfl, Dec.decDigits_small (by omega)]
    rfl
  · rw [if_neg hz]
    by_cases hn : n < 0
    · rw [if_pos hn]
      have h := sFormat_neg n hn 20 n.natAbs k [] (by omega) (by omega) hk (by simp)
      rw [show -(n.natAbs : Int) = n by omega] at h
      rw [show (⟨#[]⟩ : ByteArray) = ⟨([] : List UInt8).toArray⟩ from rfl, h]
      simp [dd, show n.natAbs ≠ 0 by omega]
    · rw [if_neg hn]
      have h := sFormat_pos n hn 20 n.toNat k [] (by omega) (by omega) hk (by simp)
      rw [show (n.toNat : Int) = n by omega] at h
      rw [show (⟨#[]⟩ : ByteArray) = ⟨([] : List UInt8).toArray⟩ from rfl, h]
      simp [dd, show n.toNat ≠ 0 by omega]
theorem main : laws_FnExactFormatInt.Pure := by
  intro n hw
  obtain ⟨h0, h1⟩ := i64_range hw
  refine ⟨100, ?_⟩
  unfold laws_FnExactFormatInt.f impl_FormatInt.f
  rw [sFormat 100 n h0 h1 (by omega), if_pos ⟨h0, h1⟩, Option.bind_some, Option.bind_some, if_pos rfl]

end Go.Proofs.YtoocbgjcigadfadDoor.PureFnExactFormatInt
namespace Go.Proofs.YtoocbgjcigadfadDoor.Pure
/-- The pure statement. -/
theorem FnExactFormatInt : Go.Proofs.YtoocbgjcigadfadDoor.PureFnExactFormatInt.laws_FnExactFormatInt.Pure := Go.Proofs.YtoocbgjcigadfadDoor.PureFnExactFormatInt.main
end Go.Proofs.YtoocbgjcigadfadDoor.Pure

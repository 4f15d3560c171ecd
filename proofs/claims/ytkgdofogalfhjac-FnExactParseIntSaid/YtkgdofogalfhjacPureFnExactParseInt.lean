/- The printed law FnExactParseInt, as a function of numbers and lists, answers true for all arguments that a call can be given; no conditions beyond the sizes that memory allows. -/
import Derived.Test.YtkgdofogalfhjacPFnExactParseIntx1
import Derived.Test.YtkgdofogalfhjacDec
import Derived.Lib.Strings
namespace Go.Proofs.Ytkgdofogalfhjac.PureFnExactParseInt
open Go.RowKit Go.Proofs.Ytkgdofogalfhjac.PFnExactParseInt Go.Proofs.YtkgdofogalfhjacW.PrintWords Go.Proofs.YtkgdofogalfhjacW.PrintLast Go.Proofs.YtkgdofogalfhjacW.PrintMore
set_option linter.unusedVariables false
set_option linter.unusedSimpArgs false

def inr (a b c : Int) : Bool := decide (b ≤ a) && decide (a ≤ c)
theorem inr_iff (a b c : Int) : inr a b c = true ↔ b ≤ a ∧ a ≤ c := by unfold inr; simp
theorem l1In_eq (a b c : Int) : spec_l1In.f a b c = some (inr a b c) := by
  unfold spec_l1In.f inr
  by_cases h : b ≤ a <;> simp [h]
theorem rd_at (xs : List Int) (i : Nat) (h : i < xs.length) : rd xs (i : Int) = xs[i] := by
  unfold rd
  simp [List.getD_eq_getElem?_getD, h]
theorem succ_at (i n : Nat) (h : i < n) (hn : n ≤ 4611686018427387904) : wrap64 ((i : Int) + 1) = ((i + 1 : Nat) : Int) := by
  unfold wrap64
  omega
theorem wrap_id (n : Int) (h0 : -9223372036854775808 ≤ n) (h1 : n ≤ 9223372036854775807) : wrap64 n = n := by
  unfold wrap64
  omega
def dd (x : Nat) : List UInt8 := if x = 0 then [] else Go.Lib.decDigits x
theorem dd_step (x : Nat) (h : x ≠ 0) : dd x = dd (x / 10) ++ [UInt8.ofNat (48 + x % 10)] := by
  unfold dd
  rw [if_neg h]
  by_cases h1 : x < 10
  · rw [Dec.decDigits_small h1, if_pos (by omega), show x % 10 = x by omega]
    rfl
  · rw [Dec.decDigits_big h1, if_neg (by omega)]
theorem sFormat_pos (n : Int) (hn : ¬ n < 0) : ∀ (f x k : Nat) (acc : List UInt8), x < 10 ^ f → x ≤ 9223372036854775808 → f < k → acc.length + f ≤ 1048576 → spec_FormatInt.l0 k n ⟨acc.toArray⟩ (x : Int) = some ⟨(dd x ++ acc).toArray⟩ := by
  intro f
  induction f with
  | zero =>
    intro x k acc hx _ hk ha
    obtain ⟨k, rfl⟩ : ∃ m, k = m + 1 := ⟨k - 1, by omega⟩
    obtain rfl : x = 0 := by simpa using hx
    simp only [spec_FormatInt.l0]
    rw [if_pos (by omega), if_neg hn]
    simp [dd]
  | succ f ih =>
    intro x k acc hx hx2 hk ha
    obtain ⟨k, rfl⟩ : ∃ m, k = m + 1 := ⟨k - 1, by omega⟩
    simp only [spec_FormatInt.l0]
    by_cases h0 : x = 0
    · subst h0
      rw [if_pos (by omega), if_neg hn]
      simp [dd]
    · rw [if_neg (by omega), Int.tmod_eq_emod_of_nonneg (by omega), if_neg (by omega), Option.bind_some, Dec.strOf_one, show ((wrap64 (48 + (x : Int) % 10)) % 256).toNat = 48 + x % 10 by unfold wrap64; omega,
        show (⟨#[UInt8.ofNat (48 + x % 10)]⟩ : ByteArray) = ⟨[UInt8.ofNat (48 + x % 10)].toArray⟩ from rfl, Dec.mk_append, Dec.mk_size, Dec.mk_size, if_pos (by simp; omega), Int.tdiv_eq_ediv_of_nonneg (by omega),
        show wrap64 ((x : Int) / 10) = ((x / 10 : Nat) : Int) by unfold wrap64; omega]
      rw [ih (x / 10) k _ (by rw [Nat.pow_succ] at hx; omega) (by omega) (by omega) (by simp; omega), dd_step x h0]
      simp
theorem sFormat_neg (n : Int) (hn : n < 0) : ∀ (f x k : Nat) (acc : List UInt8), x < 10 ^ f → x ≤ 9223372036854775808 → f < k → acc.length + f ≤ 1048576 → spec_FormatInt.l0 k n ⟨acc.toArray⟩ (-(x : Int)) = some ⟨(45 :: (dd x ++ acc)).toArray⟩ := by
  intro f
  induction f with
  | zero =>
    intro x k acc hx _ hk ha
    obtain ⟨k, rfl⟩ : ∃ m, k = m + 1 := ⟨k - 1, by omega⟩
    obtain rfl : x = 0 := by simpa using hx
    simp only [spec_FormatInt.l0]
    rw [if_pos (by omega), if_pos hn, Dec.mk_size, if_pos (by omega), show (⟨#[45]⟩ : ByteArray) = ⟨[45].toArray⟩ from rfl, Dec.mk_append]
    simp [dd]
  | succ f ih =>
    intro x k acc hx hx2 hk ha
    obtain ⟨k, rfl⟩ : ∃ m, k = m + 1 := ⟨k - 1, by omega⟩
    simp only [spec_FormatInt.l0]
    by_cases h0 : x = 0
    · subst h0
      rw [if_pos (by omega), if_pos hn, Dec.mk_size, if_pos (by omega), show (⟨#[45]⟩ : ByteArray) = ⟨[45].toArray⟩ from rfl, Dec.mk_append]
      simp [dd]
    · have hd : Int.tmod (-(x : Int)) 10 = -((x % 10 : Nat) : Int) := by rw [Int.neg_tmod, Int.tmod_eq_emod_of_nonneg (by omega)]; omega
      have hq : Int.tdiv (-(x : Int)) 10 = -((x / 10 : Nat) : Int) := by rw [Int.neg_tdiv, Int.tdiv_eq_ediv_of_nonneg (by omega)]; omega
      have ih' := ih (x / 10) k (UInt8.ofNat (48 + x % 10) :: acc) (by rw [Nat.pow_succ] at hx; omega) (by omega) (by omega) (by simp; omega)
      have hfin : (⟨(45 :: (dd (x / 10) ++ UInt8.ofNat (48 + x % 10) :: acc)).toArray⟩ : ByteArray) = ⟨(45 :: (dd x ++ acc)).toArray⟩ := by rw [dd_step x h0]; simp
      rw [hfin] at ih'
      rw [if_neg (by omega), hd, hq, show wrap64 (-((x / 10 : Nat) : Int)) = -((x / 10 : Nat) : Int) by unfold wrap64; omega]
      have hcat : (⟨#[UInt8.ofNat (48 + x % 10)]⟩ : ByteArray) ++ ⟨acc.toArray⟩ = ⟨(UInt8.ofNat (48 + x % 10) :: acc).toArray⟩ := Dec.mk_append [UInt8.ofNat (48 + x % 10)] acc
      have hsz : (⟨#[UInt8.ofNat (48 + x % 10)]⟩ : ByteArray).size = 1 := Dec.mk_size [UInt8.ofNat (48 + x % 10)]
      by_cases hm : -((x % 10 : Nat) : Int) < 0
      · rw [if_pos hm, Option.bind_some, Dec.strOf_one, show ((wrap64 (48 + wrap64 (-(-((x % 10 : Nat) : Int))))) % 256).toNat = 48 + x % 10 by unfold wrap64; omega, hcat, hsz, Dec.mk_size, if_pos (by omega)]
        exact ih'
      · rw [if_neg hm, Option.bind_some, Dec.strOf_one, show ((wrap64 (48 + -((x % 10 : Nat) : Int))) % 256).toNat = 48 + x % 10 by unfold wrap64; omega, hcat, hsz, Dec.mk_size, if_pos (by omega)]
        exact ih'
/-- The reference's FormatInt gives the numeral. -/
theorem sFormat (k : Nat) (n : Int) (h0 : -9223372036854775808 ≤ n) (h1 : n ≤ 9223372036854775807) (hk : 20 < k) : spec_FormatInt.f k n = some ⟨(Go.Lib.itoa n).toArray⟩ := by
  unfold spec_FormatInt.f Go.Lib.itoa
  by_cases hz : n = 0
  · subst hz
    rw [if_pos rfl, if_neg (by omega), show (0 : Int).toNat = 0 from rfl, Dec.decDigits_small (by omega)]
    rfl
  · rw [if_neg hz]
    by_cases hn : n < 0
    · rw [if_pos hn]
      have h := sFormat_neg n hn 20 n.natAbs k [] (by omega) (by omega) hk (by simp)
      rw [show -(n.natAbs : Int) = n by omega] at h
      rw [show (⟨#[]⟩ : ByteArray) = ⟨([] : List UInt8).toArray⟩ from rfl, h]
      simp [dd, show n.natAbs ≠ 0 by omega]
    · rw [if_neg hn]
      have h := sFormat_pos n hn 20 n.toNat k [] (by omega) (by omega) hk (by simp)
      rw [show (n.toNat : Int) = n by omega] at h
      rw [show (⟨#[]⟩ : ByteArray) = ⟨([] : List UInt8).toArray⟩ from rfl, h]
      simp [dd, show n.toNat ≠ 0 by omega]
instance (b : UInt8) : Decidable (Dec.isDigit b) := by unfold Dec.isDigit; infer_instance
theorem bt_get (s : ByteArray) (i : Nat) (h : i < s.data.toList.length) : bt s (i : Int) = ((s.data.toList[i]).toNat : Int) := by
  have h2 : (i : Int).toNat < s.size := h
  unfold bt
  rw [dif_pos h2]
  rfl
theorem acc_step (v b : Nat) (hv : v < 10000000000000) (hb : 48 ≤ b ∧ b ≤ 57) : wrap64 (wrap64 (10 * (v : Int)) + ((b : Int) - 48) % 256) = ((10 * v + (b - 48) : Nat) : Int) := by
  rw [wrap_id (10 * (v : Int)) (by omega) (by omega), wrap_id _ (by omega) (by omega)]
  omega
theorem sParse_loop (s : ByteArray) (l : List UInt8) (hs : s.data.toList = l) (hl : l.length ≤ 13) (hne : l ≠ []) : ∀ (d k i : Nat), i + d = l.length → d + 21 < k → (∀ b ∈ l.take i, Dec.isDigit b) →
    spec_ParseInt.l0 k s (Dec.val (l.take i) : Int) (i : Int) = some (if (∀ b ∈ l, Dec.isDigit b) ∧ Dec.val l ≤ 1000000000000 ∧ Go.Lib.decDigits (Dec.val l) = l then ((Dec.val l : Int), true) else (0, false)) := by
  intro d
  have hsz : s.size = l.length := by rw [← hs]; rfl
  induction d with
  | zero =>
    intro k i hi hk hd
    obtain ⟨k, rfl⟩ : ∃ m, k = m + 1 := ⟨k - 1, by omega⟩
    simp only [spec_ParseInt.l0]
    rw [hsz, if_neg (by omega)]
    have ht : l.take i = l := List.take_of_length_le (by omega)
    rw [ht] at hd ⊢
    have hv := Dec.val_lt l hd
    have hv2 : 10 ^ l.length ≤ 10 ^ 13 := Nat.pow_le_pow_right (by decide) hl
    by_cases h1 : (Dec.val l : Int) > 1000000000000
    · rw [if_pos h1, if_neg (fun h => by omega)]
    · rw [if_neg h1, sFormat k _ (by omega) (by omega) (by omega), Option.bind_some]
      have e : (⟨(Go.Lib.itoa (Dec.val l : Int)).toArray⟩ : ByteArray).toList = Go.Lib.decDigits (Dec.val l) := by
        rw [Go.Lib.toList_data]
        unfold Go.Lib.itoa
        rw [if_neg (by omega)]
        simp
      rw [e, Go.Lib.toList_data, hs]
      by_cases h2 : Go.Lib.decDigits (Dec.val l) = l
      · rw [if_pos h2, if_pos ⟨hd, by omega, h2⟩]
      · rw [if_neg h2, if_neg (fun h => h2 h.2.2)]
  | succ d ih =>
    intro k i hi hk hd
    obtain ⟨k, rfl⟩ : ∃ m, k = m + 1 := ⟨k - 1, by omega⟩
    simp only [spec_ParseInt.l0]
    have hil : i < s.data.toList.length := by rw [hs]; omega
    have hb : bt s (i : Int) = ((l[i]'(by omega)).toNat : Int) := by rw [bt_get s i hil]; simp [hs]
    have hb2 := (l[i]'(by omega)).toNat_lt
    rw [hsz, if_pos (by omega), if_pos (by omega), hb, l1In_eq, Option.bind_some]
    by_cases h : Dec.isDigit (l[i]'(by omega))
    · have h1 := h.1
      have h2 := h.2
      have hv := Dec.val_lt (l.take i) hd
      have hv2 : 10 ^ (l.take i).length ≤ 10 ^ 13 := Nat.pow_le_pow_right (by decide) (by simp; omega)
      rw [wrap_id _ (by omega) (by omega), if_pos (by rw [inr_iff]; omega), acc_step (Dec.val (l.take i)) (l[i]'(by omega)).toNat (by omega) h, ← Dec.val_take_succ l i (by omega), succ_at i 14 (by omega) (by omega)]
      refine ih k (i + 1) (by omega) (by omega) ?_
      intro b hbm
      rw [List.take_succ_eq_append_getElem (by omega)] at hbm
      rcases List.mem_append.1 hbm with hm | hm
      · exact hd b hm
      · simp at hm
        exact hm ▸ h
    · rw [wrap_id _ (by omega) (by omega), if_neg (by rw [inr_iff]; unfold Dec.isDigit at h; omega), if_neg (fun hh => h (hh.1 _ (List.getElem_mem _)))]
theorem iParse_loop (s : ByteArray) (l : List UInt8) (hs : s.data.toList = l) (hl : l.length ≤ 13) : ∀ (d k i : Nat), i + d = l.length → d < k → (∀ b ∈ l.take i, Dec.isDigit b) →
    impl_ParseInt.l0 k s (Dec.val (l.take i) : Int) (l.length : Int) (i : Int) = some (if (∀ b ∈ l, Dec.isDigit b) ∧ Dec.val l ≤ 1000000000000 then ((Dec.val l : Int), true) else (0, false)) := by
  intro d
  have hsz : s.size = l.length := by rw [← hs]; rfl
  induction d with
  | zero =>
    intro k i hi hk hd
    obtain ⟨k, rfl⟩ : ∃ m, k = m + 1 := ⟨k - 1, by omega⟩
    simp only [impl_ParseInt.l0]
    rw [if_neg (by omega)]
    have ht : l.take i = l := List.take_of_length_le (by omega)
    rw [ht] at hd ⊢
    by_cases h1 : (Dec.val l : Int) > 1000000000000
    · rw [if_pos h1, if_neg (fun h => by omega)]
    · rw [if_neg h1, if_pos ⟨hd, by omega⟩]
  | succ d ih =>
    intro k i hi hk hd
    obtain ⟨k, rfl⟩ : ∃ m, k = m + 1 := ⟨k - 1, by omega⟩
    simp only [impl_ParseInt.l0]
    have hil : i < s.data.toList.length := by rw [hs]; omega
    have hb : bt s (i : Int) = ((l[i]'(by omega)).toNat : Int) := by rw [bt_get s i hil]; simp [hs]
    have hb2 := (l[i]'(by omega)).toNat_lt
    rw [hsz, if_pos (by omega), if_pos (by omega), if_pos (by omega), hb]
    by_cases h : Dec.isDigit (l[i]'(by omega))
    · have h1 := h.1
      have h2 := h.2
      have hv := Dec.val_lt (l.take i) hd
      have hv2 : 10 ^ (l.take i).length ≤ 10 ^ 13 := Nat.pow_le_pow_right (by decide) (by simp; omega)
      rw [if_neg (by omega), if_neg (by omega), acc_step (Dec.val (l.take i)) (l[i]'(by omega)).toNat (by omega) h, ← Dec.val_take_succ l i (by omega), succ_at i 14 (by omega) (by omega)]
      refine ih k (i + 1) (by omega) (by omega) ?_
      intro b hbm
      rw [List.take_succ_eq_append_getElem (by omega)] at hbm
      rcases List.mem_append.1 hbm with hm | hm
      · exact hd b hm
      · simp at hm
        exact hm ▸ h
    · have hf : ¬ ((∀ b ∈ l, Dec.isDigit b) ∧ Dec.val l ≤ 1000000000000) := fun hh => h (hh.1 _ (List.getElem_mem _))
      rw [if_neg hf]
      unfold Dec.isDigit at h
      by_cases h3 : ((l[i]'(by omega)).toNat : Int) < 48
      · rw [if_pos h3]
      · rw [if_neg h3, if_pos (by omega)]
/-- What both come to. -/
def parsed (l : List UInt8) : Int × Bool := if l ≠ [] ∧ l.length ≤ 13 ∧ (∀ b ∈ l, Dec.isDigit b) ∧ Dec.val l ≤ 1000000000000 ∧ (l.head? = some 48 → l.length = 1) then ((Dec.val l : Int), true) else (0, false)
theorem sParse (k : Nat) (s : ByteArray) (hk : 40 < k) : spec_ParseInt.f k s = some (parsed s.data.toList) := by
  obtain ⟨l, hs⟩ : ∃ l, s.data.toList = l := ⟨_, rfl⟩
  have hsz : s.size = l.length := by rw [← hs]; rfl
  unfold spec_ParseInt.f parsed
  rw [l1In_eq, Option.bind_some, hs, hsz]
  by_cases h1 : inr (l.length : Int) 1 13 = true
  · rw [if_pos h1]
    rw [inr_iff] at h1
    have hne : l ≠ [] := by intro e; subst e; simp at h1
    have h := sParse_loop s l hs (by omega) hne l.length k 0 (by omega) (by omega) (by simp)
    rw [show (Dec.val (l.take 0) : Int) = 0 from rfl, show ((0 : Nat) : Int) = 0 from rfl] at h
    rw [h]
    congr 1
    by_cases hd : ∀ b ∈ l, Dec.isDigit b
    · have hi := Dec.numeral_iff l hne hd
      by_cases hv : Dec.val l ≤ 1000000000000
      · by_cases hz : Go.Lib.decDigits (Dec.val l) = l
        · rw [if_pos ⟨hd, hv, hz⟩, if_pos ⟨hne, by omega, hd, hv, hi.1 hz⟩]
        · rw [if_neg (fun h => hz h.2.2), if_neg (fun h => hz (hi.2 h.2.2.2.2))]
      · rw [if_neg (fun h => hv h.2.1), if_neg (fun h => hv h.2.2.2.1)]
    · rw [if_neg (fun h => hd h.1), if_neg (fun h => hd h.2.2.1)]
  · rw [if_neg h1, if_neg]
    rw [inr_iff] at h1
    rintro ⟨hne, h13, _⟩
    have := List.length_pos_iff.2 hne
    omega
theorem iParse (k : Nat) (s : ByteArray) (hk : 40 < k) : impl_ParseInt.f k s = some (parsed s.data.toList) := by
  obtain ⟨l, hs⟩ : ∃ l, s.data.toList = l := ⟨_, rfl⟩
  have hsz : s.size = l.length := by rw [← hs]; rfl
  obtain ⟨k, rfl⟩ : ∃ m, k = m + 1 := ⟨k - 1, by omega⟩
  have hj1 : impl_ParseInt.j0 (k + 1) s true = some (0, false) := by simp only [impl_ParseInt.j0, if_true]
  have hj0 : l.length ≤ 13 → impl_ParseInt.j0 (k + 1) s false = some (if (∀ b ∈ l, Dec.isDigit b) ∧ Dec.val l ≤ 1000000000000 then ((Dec.val l : Int), true) else (0, false)) := by
    intro h13
    simp only [impl_ParseInt.j0, Bool.false_eq_true, if_false]
    have h := iParse_loop s l hs h13 l.length k 0 (by omega) (by omega) (by simp)
    rw [show (Dec.val (l.take 0) : Int) = 0 from rfl, show ((0 : Nat) : Int) = 0 from rfl] at h
    rw [hsz]
    exact h
  unfold impl_ParseInt.f parsed
  rw [hs, hsz]
  by_cases h0 : l = []
  · subst h0
    rw [if_pos (by simp), hj1, if_neg (by simp)]
  have hp := List.length_pos_iff.2 h0
  rw [if_neg (by omega)]
  by_cases h13 : (l.length : Int) > 13
  · rw [if_pos h13, hj1, if_neg (fun h => by omega)]
  rw [if_neg h13]
  have fin : (l.head? = some 48 → l.length = 1) → impl_ParseInt.j0 (k + 1) s false = some (if l ≠ [] ∧ l.length ≤ 13 ∧ (∀ b ∈ l, Dec.isDigit b) ∧ Dec.val l ≤ 1000000000000 ∧ (l.head? = some 48 → l.length = 1) then ((Dec.val l : Int), true) else (0, false)) := by
    intro hz
    rw [hj0 (by omega)]
    congr 1
    by_cases h : (∀ b ∈ l, Dec.isDigit b) ∧ Dec.val l ≤ 1000000000000
    · rw [if_pos h, if_pos ⟨h0, by omega, h.1, h.2, hz⟩]
    · rw [if_neg h, if_neg (fun hh => h ⟨hh.2.2.1, hh.2.2.2.1⟩)]
  by_cases h1 : (l.length : Int) > 1
  · rw [if_pos h1, if_pos (by omega)]
    have hb : bt s 0 = ((l[0]'(by omega)).toNat : Int) := by
      have := bt_get s 0 (by rw [hs]; omega)
      rw [show ((0 : Nat) : Int) = 0 from rfl] at this
      rw [this]
      simp [hs]
    have hh : l.head? = some (l[0]'(by omega)) := by rw [List.head?_eq_getElem?, List.getElem?_eq_getElem]
    rw [hb]
    by_cases hz : l[0]'(by omega) = 48
    · rw [hz, show (((48 : UInt8).toNat : Int) == 48) = true from rfl, hj1, if_neg]
      rintro ⟨_, _, _, _, h⟩
      have := h (by rw [hh, hz])
      omega
    · have hn : ((l[0]'(by omega)).toNat : Int) ≠ 48 := by
        intro e
        exact hz (UInt8.toNat_inj.1 (by simp; omega))
      rw [show (((l[0]'(by omega)).toNat : Int) == 48) = false by simpa using hn]
      exact fin (fun h => by rw [hh] at h; exact absurd (Option.some.inj h) hz)
  · rw [if_neg h1]
    exact fin (fun _ => by omega)
theorem main : laws_FnExactParseInt.Pure := by
  intro s _
  refine ⟨100, ?_⟩
  unfold laws_FnExactParseInt.f
  by_cases h1 : (s.size : Int) > 1048576
  · rw [if_pos h1]
  rw [if_neg h1, sParse 100 s (by omega), iParse 100 s (by omega)]
  simp

end Go.Proofs.Ytkgdofogalfhjac.PureFnExactParseInt
namespace Go.Proofs.Ytkgdofogalfhjac.Pure
/-- The pure statement. -/
theorem FnExactParseInt : Go.Proofs.Ytkgdofogalfhjac.PFnExactParseInt.laws_FnExactParseInt.Pure := Go.Proofs.Ytkgdofogalfhjac.PureFnExactParseInt.main
end Go.Proofs.Ytkgdofogalfhjac.Pure

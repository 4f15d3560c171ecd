/- The law FnExactDeriveFromString, walked by hand over the printed contracts of what it calls: at every input it returns true and changes nothing that lay in memory before; no conditions. -/
import Derived.Test.YtkgdofogalfhjadPFnExactDeriveFromStringx1
import Derived.Lib.AtoiErrMem
namespace Go.Proofs.Ytkgdofogalfhjad.PFnExactDeriveFromString
open Go.RowKit Go.Proofs.YtkgdofogalfhjadW.PrintWords Go.Proofs.YtkgdofogalfhjadW.PrintLast Go.Proofs.YtkgdofogalfhjadW.PrintMore
attribute [local go_sem] max2_int min2_int max_two min_two max_three min_three max_four min_four
set_option linter.unusedVariables false
set_option linter.unusedSimpArgs false

/-- The bytes of a string, as numbers. -/
def numsOf (s : ByteArray) : List Int := s.data.toList.map fun b => (b.toNat : Int)
theorem numsOf_length (s : ByteArray) : (numsOf s).length = s.size := by
  unfold numsOf
  rw [List.length_map]
  rfl
theorem conv_reads (W : World) (s : ByteArray) (hs : s.size ≤ 9223372036854775807) : Kd.C (Kd.int .u8) (Lib.bytesWorld W 5 s) (some ⟨W.heap.size, 0, none⟩) (numsOf s).length (numsOf s) := by
  refine Kd.C_of_reads (d := (0 : Int)) (h1 := fun _ => rfl) ⟨rfl, by rw [numsOf_length]; exact hs, fun _ => ⟨_, rfl, fun j hj => ?_⟩⟩
  rw [numsOf_length] at hj
  rw [add_plain, Lib.bytesWorld_cell W 5 s j hj]
  congr 2
  have hj2 : j < s.data.toList.length := hj
  rw [List.getD_eq_getElem?_getD, List.getD_eq_getElem?_getD, List.getElem?_eq_getElem hj2, List.getElem?_eq_getElem (by unfold numsOf; rw [List.length_map]; exact hj2)]
  simp [numsOf]
theorem conv_run (s : ByteArray) (W : World) : (convert 9 29 (.string s)).run Try.prog W = .ok (.slice (some ⟨W.heap.size, 0, none⟩) (numsOf s).length (grownCap W s.size 0 5)) (Lib.bytesWorld W 5 s) := by
  rw [numsOf_length]
  exact Lib.run_convert_string_bytes W 9 29 5 s Try.underlying9 Try.underlying29 Try.underlying5
theorem conv_cap (s : ByteArray) (W : World) : (numsOf s).length ≤ grownCap W s.size 0 5 := by
  rw [numsOf_length]
  have := grownCap_ge W s.size 0 5
  omega
set_option maxRecDepth 100000 in
theorem impl_DeriveFromString.calls (k : Nat) (a0 : Int) (s : ByteArray) (l : List Int) (n : Int) (w : World) (hs : s.size ≤ 9223372036854775807) (h1 : impl_BytesToInts.f k (numsOf s) = some l) (h2 : impl_KeyedHash.f k a0 l = some n) :
    Calls Try.prog 26 #[.int .i64 a0, .string s] w fun e w' => e = .returned (.int .i64 (if n = 0 then 1 else n)) ∧ Below w.heap.size w w' := by
  have A := Aside0.mk h1
  have B := Aside0.mk h2
  have C := Aside0.mk hs
  clear h1 h2 hs
  have hconv := conv_run s
  by_cases hn : n = 0
  · rw [if_pos hn]
    have hn0 : decide (n = 0) = true := by simpa using hn
    have hn1 : (n == 0) = true := by simpa using hn
    clear hn
    go_enter Try.func26, Try.ntmps26
    go_wp2_with (first | (go_at_call 33; (with_reducible refine (impl_BytesToInts.calls k _ _ (numsOf s) l _ (conv_reads w s C.out) (conv_cap s w) A.out).mono ?_); rintro e w1 ⟨v, rfl, hR, hb1⟩; obtain ⟨vA, vc, rfl⟩ := Kd.R_slice hR; have R1 := Aside0.mk hR; have B1 := Aside0.mk (below_step (Lib.bytesWorld_below w 5 s) hb1); clear hR hb1) | (go_at_call 14; (with_reducible refine (impl_KeyedHash.calls k a0 _ _ l n _ (Kd.R_reads' R1.out).2.2 (Kd.R_reads' R1.out).2.1 B.out).mono ?_); rintro e w2 ⟨rfl, ⟨nd, rfl⟩⟩))
    go_ret
    exact ⟨rfl, pw_below_drewN B1.out _⟩
  · rw [if_neg hn]
    have hn0 : decide (n = 0) = false := by simpa using hn
    have hn1 : (n == 0) = false := by simpa using hn
    clear hn
    go_enter Try.func26, Try.ntmps26
    go_wp2_with (first | (go_at_call 33; (with_reducible refine (impl_BytesToInts.calls k _ _ (numsOf s) l _ (conv_reads w s C.out) (conv_cap s w) A.out).mono ?_); rintro e w1 ⟨v, rfl, hR, hb1⟩; obtain ⟨vA, vc, rfl⟩ := Kd.R_slice hR; have R1 := Aside0.mk hR; have B1 := Aside0.mk (below_step (Lib.bytesWorld_below w 5 s) hb1); clear hR hb1) | (go_at_call 14; (with_reducible refine (impl_KeyedHash.calls k a0 _ _ l n _ (Kd.R_reads' R1.out).2.2 (Kd.R_reads' R1.out).2.1 B.out).mono ?_); rintro e w2 ⟨rfl, ⟨nd, rfl⟩⟩))
    go_ret
    exact ⟨rfl, pw_below_drewN B1.out _⟩
set_option maxRecDepth 100000 in
theorem spec_DeriveFromString.calls (k : Nat) (a0 : Int) (s : ByteArray) (l : List Int) (n r : Int) (w : World) (hs : s.size ≤ 9223372036854775807) (h1 : spec_BytesToInts.f k (numsOf s) = some l) (h2 : spec_KeyedHash.f k a0 l = some n) (h3 : spec_Max.f 1 n = some r) :
    Calls Try.prog 25 #[.int .i64 a0, .string s] w fun e w' => e = .returned (.int .i64 r) ∧ Below w.heap.size w w' := by
  have A := Aside0.mk h1
  have B := Aside0.mk h2
  have D := Aside0.mk h3
  have C := Aside0.mk hs
  clear h1 h2 h3 hs
  have hconv := conv_run s
  go_enter Try.func25, Try.ntmps25
  go_wp2_with (first | (go_at_call 32; (with_reducible refine (spec_BytesToInts.calls k _ _ (numsOf s) l _ (conv_reads w s C.out) (conv_cap s w) A.out).mono ?_); rintro e w1 ⟨v, rfl, hR, hb1⟩; obtain ⟨vA, vc, rfl⟩ := Kd.R_slice hR; have R1 := Aside0.mk hR; have B1 := Aside0.mk (below_step (Lib.bytesWorld_below w 5 s) hb1); clear hR hb1) | (go_at_call 13; (with_reducible refine (spec_KeyedHash.calls k a0 _ _ l n _ (Kd.R_reads' R1.out).2.2 (Kd.R_reads' R1.out).2.1 B.out).mono ?_); rintro e w2 ⟨rfl, hb2⟩; have B2 := Aside0.mk (below_step B1.out hb2); clear hb2) | (go_at_call 31; (with_reducible refine (spec_Max.calls 1 n r _ D.out).mono ?_); rintro e w3 ⟨rfl, ⟨nd, rfl⟩⟩))
  go_ret
  exact ⟨rfl, pw_below_drewN B2.out _⟩
def inr (a b c : Int) : Bool := decide (b ≤ a) && decide (a ≤ c)
theorem inr_iff (a b c : Int) : inr a b c = true ↔ b ≤ a ∧ a ≤ c := by unfold inr; simp
theorem l1In_eq (a b c : Int) : spec_l1In.f a b c = some (inr a b c) := by
  unfold spec_l1In.f inr
  by_cases h : b ≤ a <;> simp [h]
theorem inRange_eq (a b c : Int) : impl_InRange.f a b c = some (inr a b c) := by
  unfold impl_InRange.f inr
  by_cases h : b ≤ a <;> simp [h]
theorem rd_at (xs : List Int) (i : Nat) (h : i < xs.length) : rd xs (i : Int) = xs[i] := by
  unfold rd
  simp [List.getD_eq_getElem?_getD, h]
theorem succ_at (i n : Nat) (h : i < n) (hn : n ≤ 4611686018427387904) : wrap64 ((i : Int) + 1) = ((i + 1 : Nat) : Int) := by
  unfold wrap64
  omega
theorem wrap_id (n : Int) (h0 : -9223372036854775808 ≤ n) (h1 : n ≤ 9223372036854775807) : wrap64 n = n := by
  unfold wrap64
  omega
theorem tmod_range (a b : Int) (hb : 0 < b) : -b < Int.tmod a b ∧ Int.tmod a b < b := by
  rcases Int.le_total 0 a with h | h
  · have h1 := Int.tmod_nonneg b h
    have h2 := Int.tmod_lt_of_pos a hb
    omega
  · have h1 := Int.tmod_nonneg b (a := -a) (by omega)
    have h2 := Int.tmod_lt_of_pos (-a) hb
    rw [Int.neg_tmod] at h1 h2
    omega
def modOf (a b : Int) : Int := if inr b 1 1000000000000 = true then (if Int.tmod a b < 0 then Int.tmod a b + b else Int.tmod a b) else 0
theorem iMod (a b : Int) : impl_Mod.f a b = some (modOf a b) := by
  unfold impl_Mod.f modOf
  simp only [inRange_eq, Option.bind_some]
  by_cases h : inr b 1 1000000000000 = true
  · rw [if_pos h, if_pos h]
    rw [inr_iff] at h
    have hr := tmod_range a b (by omega)
    rw [if_neg (by omega)]
    by_cases n : Int.tmod a b < 0
    · rw [if_pos n, if_pos n]
      congr 1
      unfold wrap64
      omega
    · rw [if_neg n, if_neg n]
  · rw [if_neg h, if_neg h]
theorem sMod (a b : Int) : spec_Mod.f a b = some (modOf a b) := by
  unfold spec_Mod.f modOf
  simp only [l1In_eq, Option.bind_some]
  by_cases h : inr b 1 1000000000000 = true
  · rw [if_pos h, if_pos h]
    rw [inr_iff] at h
    have hr := tmod_range a b (by omega)
    rw [if_neg (by omega)]
    congr 1
    rw [show wrap64 (Int.tmod a b + b) = Int.tmod a b + b by unfold wrap64; omega]
    by_cases n : Int.tmod a b < 0
    · rw [if_pos n, Int.tmod_eq_emod_of_nonneg (by omega), Int.emod_eq_of_lt (by omega) (by omega)]
    · rw [if_neg n, Int.tmod_eq_emod_of_nonneg (by omega), Int.add_emod_right, Int.emod_eq_of_lt (by omega) (by omega)]
  · rw [if_neg h, if_neg h]
def step (d v : Int) : Int := Int.tmod (wrap64 ((wrap64 ((wrap64 (d * 1000003)) + modOf v 2147483647)) + 13)) 2147483647
def hashFrom (d : Int) (l : List Int) : Int := l.foldl step d
theorem fold_eq (d v : Int) : impl_fold.f d v = some (step d v) := by
  unfold impl_fold.f step
  rw [iMod]
  rfl
theorem sHash_loop (l : List Int) (hl : l.length ≤ 4611686018427387904) : ∀ (d k i : Nat) (x : Int), i + d = l.length → d < k → spec_Hash.l0 k l x (i : Int) = some (hashFrom x (l.drop i)) := by
  intro d
  induction d with
  | zero =>
    intro k i x hi hk
    obtain ⟨k, rfl⟩ : ∃ m, k = m + 1 := ⟨k - 1, by omega⟩
    simp only [spec_Hash.l0]
    rw [if_neg (by omega), List.drop_of_length_le (by omega)]
    rfl
  | succ d ih =>
    intro k i x hi hk
    obtain ⟨k, rfl⟩ : ∃ m, k = m + 1 := ⟨k - 1, by omega⟩
    simp only [spec_Hash.l0]
    rw [if_pos (by omega), if_pos (by omega), sMod, Option.bind_some, succ_at i l.length (by omega) hl, rd_at l i (by omega), List.drop_eq_getElem_cons (by omega)]
    exact ih k (i + 1) _ (by omega) (by omega)
theorem sHash (k : Nat) (l : List Int) (hl : l.length ≤ 4611686018427387904) (hk : l.length < k) : spec_Hash.f k l = some (hashFrom 11 l) := by
  unfold spec_Hash.f
  exact sHash_loop l hl l.length k 0 11 (by omega) (by omega)
def keyed (s : Int) (l : List Int) : Int := step (hashFrom (step 11 s) l) s
theorem iKeyed_loop (s : Int) (l : List Int) (hl : l.length ≤ 4611686018427387904) : ∀ (d k i : Nat) (x : Int), i + d = l.length → d < k → impl_KeyedHash.l0 k s x l (l.length : Int) (i : Int) = some (step (hashFrom x (l.drop i)) s) := by
  intro d
  induction d with
  | zero =>
    intro k i x hi hk
    obtain ⟨k, rfl⟩ : ∃ m, k = m + 1 := ⟨k - 1, by omega⟩
    simp only [impl_KeyedHash.l0]
    rw [if_neg (by omega), List.drop_of_length_le (by omega), fold_eq, Option.bind_some]
    rfl
  | succ d ih =>
    intro k i x hi hk
    obtain ⟨k, rfl⟩ : ∃ m, k = m + 1 := ⟨k - 1, by omega⟩
    simp only [impl_KeyedHash.l0]
    rw [if_pos (by omega), if_pos (by omega), if_pos (by omega), fold_eq, Option.bind_some, succ_at i l.length (by omega) hl, rd_at l i (by omega), List.drop_eq_getElem_cons (by omega)]
    exact ih k (i + 1) _ (by omega) (by omega)
theorem iKeyed (k : Nat) (s : Int) (l : List Int) (hl : l.length ≤ 4611686018427387904) (hk : l.length < k) : impl_KeyedHash.f k s l = some (keyed s l) := by
  unfold impl_KeyedHash.f
  rw [fold_eq, Option.bind_some]
  exact iKeyed_loop s l hl l.length k 0 _ (by omega) (by omega)
theorem sKeyed (k : Nat) (s : Int) (l : List Int) (hl : l.length ≤ 2097152) (hk : l.length + 2 < k) : spec_KeyedHash.f k s l = some (keyed s l) := by
  unfold spec_KeyedHash.f
  simp only [Option.bind_some]
  rw [if_pos (by simp; omega), if_pos (by simp; omega), sHash k _ (by simp; omega) (by simp; omega), Option.bind_some]
  unfold keyed hashFrom
  simp
theorem modOf_emod (a m : Int) (h : 1 ≤ m ∧ m ≤ 1000000000000) : modOf a m = a % m := by
  unfold modOf
  rw [if_pos (by rw [inr_iff]; exact h)]
  have hr := tmod_range a m (by omega)
  have he : a % m = Int.tmod a m % m := by
    have h2 := Int.mul_tdiv_add_tmod a m
    rw [← Int.mul_add_emod_self_left m (Int.tdiv a m) (Int.tmod a m), h2]
  rw [he]
  by_cases n : Int.tmod a m < 0
  · rw [if_pos n, ← Int.add_emod_right, Int.emod_eq_of_lt (by omega) (by omega)]
  · rw [if_neg n, Int.emod_eq_of_lt (by omega) (by omega)]
theorem step_eq (d v : Int) (h : 0 ≤ d ∧ d < 2147483647) : step d v = (d * 1000003 + v % 2147483647 + 13) % 2147483647 := by
  unfold step
  rw [modOf_emod v 2147483647 (by omega)]
  have : 0 ≤ v % 2147483647 ∧ v % 2147483647 < 2147483647 := ⟨by omega, by omega⟩
  rw [show wrap64 (d * 1000003) = d * 1000003 by unfold wrap64; omega, show wrap64 (d * 1000003 + v % 2147483647) = d * 1000003 + v % 2147483647 by unfold wrap64; omega, show wrap64 (d * 1000003 + v % 2147483647 + 13) = d * 1000003 + v % 2147483647 + 13 by unfold wrap64; omega, Int.tmod_eq_emod_of_nonneg (by omega)]
theorem step_range (d v : Int) (h : 0 ≤ d ∧ d < 2147483647) : 0 ≤ step d v ∧ step d v < 2147483647 := by
  rw [step_eq d v h]
  omega
theorem hashFrom_range (l : List Int) : ∀ d : Int, 0 ≤ d ∧ d < 2147483647 → 0 ≤ hashFrom d l ∧ hashFrom d l < 2147483647 := by
  induction l with
  | nil => intro d h; exact h
  | cons v l ih => intro d h; exact ih (step d v) (step_range d v h)
theorem keyed_range (s : Int) (l : List Int) : 0 ≤ keyed s l ∧ keyed s l < 2147483647 := step_range _ _ (hashFrom_range l _ (step_range 11 s (by omega)))
theorem both (l : List Int) (hl : l.length ≤ 1048576) : ∀ (d k i : Nat) (acc : List Int), i + d = l.length → d < k → acc.length + d ≤ 2097152 → ∃ r, spec_BytesToInts.l0 k l acc (i : Int) = some r ∧ impl_BytesToInts.l0 k acc l (l.length : Int) (i : Int) = some r ∧ r.length = acc.length + d := by
  intro d
  induction d with
  | zero =>
    intro k i acc hi hk ha
    obtain ⟨k, rfl⟩ : ∃ m, k = m + 1 := ⟨k - 1, by omega⟩
    have h1 : ¬ (i : Int) < (l.length : Int) := by omega
    simp only [spec_BytesToInts.l0, impl_BytesToInts.l0, if_neg h1]
    exact ⟨acc, rfl, rfl, rfl⟩
  | succ d ih =>
    intro k i acc hi hk ha
    obtain ⟨k, rfl⟩ : ∃ m, k = m + 1 := ⟨k - 1, by omega⟩
    have h1 : (i : Int) < (l.length : Int) := by omega
    have h2 : (0 : Int) ≤ (i : Int) := by omega
    have h3 : acc.length < 17592186044416 := by omega
    simp only [spec_BytesToInts.l0, impl_BytesToInts.l0, if_pos h1, if_pos h2, if_pos h3, succ_at i l.length (by omega) (by omega)]
    obtain ⟨r, e1, e2, e3⟩ := ih k (i + 1) (acc ++ [wrap64 (rd l (i : Int))]) (by omega) (by omega) (by simp; omega)
    exact ⟨r, e1, e2, by simp at e3; omega⟩
theorem derived (a : Int) (s : ByteArray) (hs : s.size ≤ 1048576) : ∃ k l n, impl_BytesToInts.f k (numsOf s) = some l ∧ spec_BytesToInts.f k (numsOf s) = some l ∧ impl_KeyedHash.f k a l = some n ∧ spec_KeyedHash.f k a l = some n ∧ spec_Max.f 1 n = some (if n = 0 then 1 else n) := by
  have hl := numsOf_length s
  obtain ⟨l, e1, e2, e3⟩ := both (numsOf s) (by omega) (numsOf s).length (s.size + 10) 0 [((numsOf s).length : Int)] (by omega) (by omega) (by simp; omega)
  have e4 : l.length = s.size + 1 := by simp at e3; omega
  have hr := keyed_range a l
  refine ⟨s.size + 10, l, keyed a l, e2, e1, iKeyed _ a l (by omega) (by omega), sKeyed _ a l (by omega) (by omega), ?_⟩
  unfold spec_Max.f
  by_cases h : keyed a l > 1
  · rw [if_pos h, if_neg (by omega)]
  · rw [if_neg h]
    by_cases h0 : keyed a l = 0
    · rw [if_pos h0]
    · rw [if_neg h0, show keyed a l = 1 by omega]
set_option maxRecDepth 100000 in
theorem laws_FnExactDeriveFromString.big (a0 : Int) (a1 : ByteArray) (w : World) (h : 1048576 < a1.size) : Calls Try.prog 8 #[.int .i64 a0, .string a1] w fun e w' => e = .returned (.bool true) ∧ Below w.heap.size w w' := by
  have h1 : decide (1048576 < a1.size) = true := by simpa using h
  have h2 : decide ((a1.size : Int) > 1048576) = true := by simp; omega
  have h3 : decide ((1048576 : Int) < (a1.size : Int)) = true := by simp; omega
  go_enter Try.func8, Try.ntmps8
  go_wp2_with (fail)
  go_ret
  exact ⟨rfl, Below.refl _ _⟩
set_option maxRecDepth 100000 in
theorem laws_FnExactDeriveFromString.small (a0 : Int) (a1 : ByteArray) (w : World) (h : a1.size ≤ 1048576) : Calls Try.prog 8 #[.int .i64 a0, .string a1] w fun e w' => e = .returned (.bool true) ∧ Below w.heap.size w w' := by
  obtain ⟨k, l, n, e1, e2, e3, e4, e5⟩ := derived a0 a1 h
  generalize hr : (if n = 0 then (1 : Int) else n) = r at e5
  have I := Aside0.mk (fun W => hr ▸ impl_DeriveFromString.calls k a0 a1 l n W (by omega) e1 e3)
  have J := Aside0.mk (fun W => spec_DeriveFromString.calls k a0 a1 l n r W (by omega) e2 e4 e5)
  clear e1 e2 e3 e4 e5 hr
  have h1 : decide (1048576 < a1.size) = false := by simp; omega
  have h2 : decide ((a1.size : Int) > 1048576) = false := by simp; omega
  have h3 : decide ((1048576 : Int) < (a1.size : Int)) = false := by simp; omega
  clear h
  go_enter Try.func8, Try.ntmps8
  go_wp2_with (first | (go_at_call 25; (with_reducible refine (J.out _).mono ?_); rintro e w1 ⟨rfl, hb1⟩; have B1 := Aside0.mk hb1; clear hb1) | (go_at_call 26; (with_reducible refine (I.out _).mono ?_); rintro e w2 ⟨rfl, hb2⟩; have B2 := Aside0.mk (below_step B1.out hb2); clear hb2))
  go_ret
  exact ⟨rfl, B2.out⟩
theorem laws_FnExactDeriveFromString.walk (a0 : Int) (a1 : ByteArray) (w : World) (w0 : (Lit.int .i64 a0).wf = true) (w1 : a1.size ≤ 140737488351232) : Calls Try.prog 8 #[.int .i64 a0, .string a1] w fun e w' => e = .returned (.bool true) ∧ Below w.heap.size w w' := by
  by_cases h : a1.size ≤ 1048576
  · exact laws_FnExactDeriveFromString.small a0 a1 w h
  · exact laws_FnExactDeriveFromString.big a0 a1 w (by omega)

end Go.Proofs.Ytkgdofogalfhjad.PFnExactDeriveFromString

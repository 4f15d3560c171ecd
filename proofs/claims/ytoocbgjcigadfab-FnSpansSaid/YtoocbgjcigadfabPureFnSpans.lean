/- The printed law FnSpans, as a function of numbers and lists, answers true for all arguments that a call can be given; no conditions beyond the sizes that memory allows. -/
import Derived.Test.YtoocbgjcigadfabCutFnSpans
namespace Go.Proofs.Ytoocbgjcigadfab.PureFnSpans
open Go.RowKit Go.Proofs.Ytoocbgjcigadfab.PFnSpans Go.Proofs.YtoocbgjcigadfabW.PrintWords Go.Proofs.YtoocbgjcigadfabW.PrintLast Go.Proofs.YtoocbgjcigadfabW.PrintMore
set_option linter.unusedVariables false
set_option linter.unusedSimpArgs false

/-- The pure statement of laws_FnSpans, typed by lawfill.py as print.sh types it where it does. -/
def laws_FnSpans.Pure : Prop := ∀ (l0 : List Int), l0.length ≤ maxLen → (∀ x ∈ l0, (Lit.int .u8 x).wf = true) → ∃ k, laws_FnSpans.f k l0 = some true

def inr (a b c : Int) : Bool := decide (b ≤ a) && decide (a ≤ c)
theorem inr_iff (a b c : Int) : inr a b c = true ↔ b ≤ a ∧ a ≤ c := by unfold inr; simp
theorem l1In_eq (a b c : Int) : spec_l1In.f a b c = some (inr a b c) := by
  unfold spec_l1In.f inr
  by_cases h : b ≤ a <;> simp [h]
theorem inRange_eq (a b c : Int) : impl_InRange.f a b c = some (inr a b c) := by
  unfold impl_InRange.f inr
  by_cases h : b ≤ a <;> simp [h]
def okSpan (a b : Int) : Bool := inr a 0 100000 && inr b 0 100000 && decide (a ≤ b)
theorem sIsSpan (a b : Int) : spec_IsSpan.f a b = some (okSpan a b) := by
  unfold spec_IsSpan.f okSpan
  simp only [l1In_eq, Option.bind_some]
  cases inr a 0 100000 <;> cases inr b 0 100000 <;> simp
theorem iIsSpan (a b : Int) : impl_IsSpan.f a b = some (okSpan a b) := by
  unfold impl_IsSpan.f okSpan
  simp only [inRange_eq, Option.bind_some]
  cases inr a 0 100000 <;> cases inr b 0 100000 <;> simp
theorem rd_at (xs : List Int) (i : Nat) (h : i < xs.length) : rd xs (i : Int) = xs[i] := by
  unfold rd
  simp [List.getD_eq_getElem?_getD, h]
theorem succ_at (i n : Nat) (h : i < n) (hn : n ≤ 4611686018427387904) : wrap64 ((i : Int) + 1) = ((i + 1 : Nat) : Int) := by
  unfold wrap64
  omega
theorem wrap_id (n : Int) (h0 : -9223372036854775808 ≤ n) (h1 : n ≤ 9223372036854775807) : wrap64 n = n := by
  unfold wrap64
  omega
theorem wraps_i64 (n : Int) (h0 : 0 ≤ n) (h1 : n < 2 ^ 63) : IntKind.i64.wrap n = n := by
  rw [IntKind.wrap_i64]
  omega
theorem and127 (n : Int) (h0 : 0 ≤ n) (h1 : n < 2 ^ 63) : Go.bits .and .i64 n 127 = n % 128 :=
  bits_mask .i64 63 (by decide) wraps_i64 7 (by decide) n h0 h1
theorem and127b (n : Int) (h0 : 0 ≤ n) (h1 : n < 2 ^ 8) : Go.bits .and .u8 n 127 = n % 128 :=
  bits_mask .u8 8 (by decide) wraps_u8 7 (by decide) n h0 h1
def okc (b : List Int) (i : Int) : Prop := 0 ≤ i ∧ i ≤ (b.length : Int) ∧ b.length ≤ 1048576
theorem and255 (x : Int) : 0 ≤ Go.bits .and .i64 x 255 ∧ Go.bits .and .i64 x 255 ≤ 255 := by
  have e : Go.bits .and .i64 x 255 = IntKind.i64.wrap (((BitVec.ofInt 64 x &&& BitVec.ofInt 64 255).toNat : Nat) : Int) := rfl
  have h : (BitVec.ofInt 64 x &&& BitVec.ofInt 64 255).toNat ≤ 255 := by
    rw [BitVec.toNat_and]
    exact Nat.and_le_right
  rw [e, wraps_i64 _ (by omega) (by omega)]
  omega
theorem byte_ok (b : List Int) (i h : Int) (hi : okc b i) : ∃ r i' h', spec_l1Byte.f b i h = some (r, i', h') ∧ okc b i' ∧ 0 ≤ r ∧ r ≤ 255 := by
  unfold spec_l1Byte.f
  obtain ⟨h0, h1, h2⟩ := hi
  by_cases c : i < (b.length : Int)
  · rw [if_pos c, if_pos h0, wrap_id (i + 1) (by omega) (by omega)]
    exact ⟨_, _, _, rfl, ⟨by omega, by omega, h2⟩, and255 _⟩
  · rw [if_neg c]
    exact ⟨_, _, _, rfl, ⟨h0, h1, h2⟩, and255 _⟩
theorem below_ok (b : List Int) (i h n : Int) (hi : okc b i) : ∃ r i' h', spec_l1Below.f b i h n = some (r, i', h') ∧ okc b i' ∧ 0 ≤ r ∧ (0 < n → r < n) ∧ (n ≤ 0 → r = 0) := by
  unfold spec_l1Below.f
  by_cases c : n ≤ 0
  · rw [if_pos c]
    exact ⟨0, i, h, rfl, hi, by omega, by omega, fun _ => rfl⟩
  rw [if_neg c]
  by_cases c2 : n ≤ 256
  · obtain ⟨r, i', h', e, ho, hr⟩ := byte_ok b i h hi
    rw [if_pos c2, e, Option.bind_some, if_neg (by omega), Int.tmod_eq_emod_of_nonneg hr.1]
    exact ⟨_, _, _, rfl, ho, Int.emod_nonneg _ (by omega), fun hp => Int.emod_lt_of_pos _ hp, fun hn => by omega⟩
  · obtain ⟨r, i1, h1, e1, ho1, hr1⟩ := byte_ok b i h hi
    obtain ⟨r2, i2, h2, e2, ho2, hr2⟩ := byte_ok b i1 h1 ho1
    obtain ⟨r3, i3, h3, e3, ho3, hr3⟩ := byte_ok b i2 h2 ho2
    rw [if_neg c2, e1, Option.bind_some]
    simp only [e2, e3, Option.bind_some]
    rw [if_neg (by omega), wrap_id (r * 65536) (by omega) (by omega), wrap_id (r2 * 256) (by omega) (by omega), wrap_id (r * 65536 + r2 * 256) (by omega) (by omega), wrap_id (r * 65536 + r2 * 256 + r3) (by omega) (by omega), Int.tmod_eq_emod_of_nonneg (by omega)]
    exact ⟨_, _, _, rfl, ho3, Int.emod_nonneg _ (by omega), fun hp => Int.emod_lt_of_pos _ hp, fun hn => by omega⟩
theorem new_ok (k : Nat) (l : List Int) (hl : l.length ≤ 1048576) (hk : l.length < k) : ∃ h, spec_l1New.f k l = some (l, 0, h) := by
  have loop : ∀ (d k i : Nat) (h : Int), i + d = l.length → d < k → ∃ h', spec_l1New.l0 k l h (i : Int) = some (l, 0, h') := by
    intro d
    induction d with
    | zero =>
      intro k i h hi hk
      obtain ⟨k, rfl⟩ : ∃ m, k = m + 1 := ⟨k - 1, by omega⟩
      simp only [spec_l1New.l0]
      rw [if_neg (by omega)]
      exact ⟨h, rfl⟩
    | succ d ih =>
      intro k i h hi hk
      obtain ⟨k, rfl⟩ : ∃ m, k = m + 1 := ⟨k - 1, by omega⟩
      simp only [spec_l1New.l0]
      rw [if_pos (by omega)]
      by_cases c : (i : Int) < 4000
      · rw [if_pos c, if_pos (by omega), succ_at i l.length (by omega) (by omega)]
        exact ih k (i + 1) _ (by omega) (by omega)
      · rw [if_neg c]
        exact ⟨h, rfl⟩
  unfold spec_l1New.f
  exact loop l.length k 0 _ (by omega) hk
theorem okc_start (l : List Int) (hl : l.length ≤ 1048576) : okc l 0 := ⟨by omega, by omega, hl⟩
theorem int_ok (b : List Int) (i h : Int) (l : List Int) (hi : okc b i) (hl : 0 < l.length) : ∃ r i' h', spec_l1Int.f b i h l = some (r, i', h') ∧ okc b i' ∧ r ∈ l := by
  unfold spec_l1Int.f
  obtain ⟨r, i', h', e, ho, h0, h1, _⟩ := below_ok b i h (l.length : Int) hi
  have h2 := h1 (by omega)
  rw [e, Option.bind_some, if_pos h0, if_pos h2]
  refine ⟨_, _, _, rfl, ho, ?_⟩
  obtain ⟨n, rfl⟩ := Int.eq_ofNat_of_zero_le h0
  rw [rd_at l n (by omega)]
  exact List.getElem_mem _
theorem draw5_ok (b : List Int) (i h : Int) (hi : okc b i) : ∃ r s i' h', spec_l5Draw.f b i h = some (r, s, i', h') ∧ okc b i' := by
  unfold spec_l5Draw.f
  obtain ⟨r1, i1, h1, e1, o1, _⟩ := below_ok b i h 60 hi
  obtain ⟨r2, i2, h2, e2, o2, _⟩ := below_ok b i1 h1 30 o1
  simp only [e1, e2, Option.bind_some]
  exact ⟨_, _, _, _, rfl, o2⟩
theorem any5_ok (b : List Int) (i h : Int) (hi : okc b i) : ∃ r s i' h', spec_l5Any.f b i h = some (r, s, i', h') ∧ okc b i' := by
  unfold spec_l5Any.f
  obtain ⟨r1, s1, i1, h1, e1, o1⟩ := draw5_ok b i h hi
  obtain ⟨r2, i2, h2, e2, o2, _⟩ := below_ok b i1 h1 10 o1
  simp only [e1, e2, Option.bind_some]
  by_cases c0 : r2 = 0
  · rw [if_pos c0]
    unfold spec_l4Raw.f
    obtain ⟨r3, i3, h3, e3, o3, _⟩ := int_ok b i2 h2 [(-1), 0, 8, 50, 51, 1000, 9223372036854775807, (-9223372036854775808)] o2 (by simp)
    simp only [e3, Option.bind_some]
    exact ⟨_, _, _, _, rfl, o3⟩
  rw [if_neg c0]
  by_cases c1 : r2 = 1
  · rw [if_pos c1]
    obtain ⟨r3, i3, h3, e3, o3, _⟩ := int_ok b i2 h2 [(-1), 0, 100000, 100001] o2 (by simp)
    simp only [e3, Option.bind_some]
    exact ⟨_, _, _, _, rfl, o3⟩
  · rw [if_neg c1]
    exact ⟨_, _, _, _, rfl, o2⟩
theorem okSpan_iff (a b : Int) : okSpan a b = true ↔ 0 ≤ a ∧ a ≤ 100000 ∧ 0 ≤ b ∧ b ≤ 100000 ∧ a ≤ b := by
  unfold okSpan inr
  simp [and_assoc]
def hrs (a b : Int) : Int := if okSpan a b = true then b - a + 1 else 0
def hld (a b x : Int) : Bool := okSpan a b && inr x a b
theorem hrs_eq (a b : Int) : impl_Hours.f a b = some (hrs a b) := by
  unfold impl_Hours.f hrs
  simp only [iIsSpan, Option.bind_some]
  by_cases h : okSpan a b = true
  · have h' := (okSpan_iff a b).1 h
    rw [if_pos h, if_pos h, wrap_id (b - a) (by omega) (by omega), wrap_id (b - a + 1) (by omega) (by omega)]
  · rw [if_neg h, if_neg h]
theorem hld_eq (a b x : Int) : impl_Holds.f a b x = some (hld a b x) := by
  unfold impl_Holds.f hld
  simp only [iIsSpan, inRange_eq, Option.bind_some]
  cases okSpan a b <;> simp
theorem hld_iff (a b x : Int) : hld a b x = true ↔ okSpan a b = true ∧ a ≤ x ∧ x ≤ b := by
  unfold hld inr
  simp
theorem hrs_pos (a b x : Int) (h : hld a b x = true) : hrs a b > 0 := by
  have h' := (hld_iff a b x).1 h
  unfold hrs
  rw [if_pos h'.1]
  omega
theorem end_ok (a b x : Int) : ((impl_Holds.f a b x).bind fun t => (if t = true then ((impl_Hours.f a b).bind fun s => (some (decide (s > 0)))) else (some true))) = some true := by
  rw [hld_eq, hrs_eq, Option.bind_some, Option.bind_some]
  by_cases h : hld a b x = true
  · rw [if_pos h, decide_eq_true (hrs_pos a b x h)]
  · rw [if_neg h]
theorem mx_eq (a c : Int) : mx a c = if c > a then c else a := by unfold mx; rfl
theorem mn_eq (a c : Int) : mn a c = if c < a then c else a := by unfold mn; rfl
theorem mx_comm' (a c : Int) : mx a c = mx c a := by
  rw [mx_eq, mx_eq]
  split <;> split <;> omega
theorem mn_comm' (a c : Int) : mn a c = mn c a := by
  rw [mn_eq, mn_eq]
  split <;> split <;> omega
def meet (a b c d : Int) : Int × Int × Bool := if okSpan a b = true ∧ okSpan c d = true ∧ okSpan (mx a c) (mn b d) = true then (mx a c, mn b d, true) else (0, 0, false)
theorem iMeet (a b c d : Int) : impl_Meet.f a b c d = some (meet a b c d) := by
  unfold impl_Meet.f meet
  simp only [iIsSpan, Option.bind_some]
  cases okSpan a b
  · simp
  · cases okSpan c d
    · simp
    · cases okSpan (mx a c) (mn b d) <;> simp
theorem sMeet (a b c d : Int) : spec_Meet.f a b c d = some (meet a b c d) := by
  unfold spec_Meet.f meet
  have s1 : spec_Max.f a c = some (mx a c) := by rw [mx_eq]; unfold spec_Max.f; split <;> rfl
  have s2 : spec_Min.f b d = some (mn b d) := by rw [mn_eq]; unfold spec_Min.f; split <;> rfl
  simp only [sIsSpan, Option.bind_some, s1, s2]
  cases okSpan a b
  · simp
  · cases okSpan c d
    · simp
    · cases okSpan (mx a c) (mn b d) <;> simp
theorem meet_comm (a b c d : Int) : meet c d a b = meet a b c d := by
  unfold meet
  rw [mx_comm' c a, mn_comm' d b]
  by_cases h : okSpan a b = true ∧ okSpan c d = true ∧ okSpan (mx a c) (mn b d) = true
  · rw [if_pos h, if_pos ⟨h.2.1, h.1, h.2.2⟩]
  · rw [if_neg h, if_neg (fun g => h ⟨g.2.1, g.1, g.2.2⟩)]
theorem iHull (a b c d : Int) : impl_Hull.f a b c d = some (if okSpan a b = true ∧ okSpan c d = true then (mn a c, mx b d, true) else (0, 0, false)) := by
  unfold impl_Hull.f
  simp only [iIsSpan, Option.bind_some]
  cases okSpan a b
  · simp
  · cases okSpan c d <;> simp
theorem j2_ok (k : Nat) (l : List Int) (hl : l.length ≤ 1048576) (hk : l.length < k) (x a b : Int) : laws_FnSpans.j2 (k + 1) l x false a b = some true := by
  obtain ⟨h, n1⟩ := new_ok k l hl hk
  obtain ⟨c, d, i2, h2, n2, o2⟩ := any5_ok l 0 h (okc_start l hl)
  obtain ⟨n, i3, h3, n3, o3, _⟩ := int_ok l i2 h2 [0, 1, 24, 100000, 100001, (-1)] o2 (by simp)
  simp only [laws_FnSpans.j2]
  rw [if_neg (by simp)]
  unfold spec_DrawWiden.f impl_Widen.f
  simp only [n1, n2, n3, Option.bind_some, iIsSpan, inRange_eq]
  by_cases h1 : okSpan c d = true
  · by_cases h4 : inr n 0 100000 = true
    · have g1 := (okSpan_iff c d).1 h1
      have g2 := (inr_iff n 0 100000).1 h4
      have e1 : mx 0 (wrap64 (c - n)) = if c - n > 0 then c - n else 0 := by rw [wrap_id (c - n) (by omega) (by omega), mx_eq]
      have e2 : mn 100000 (wrap64 (d + n)) = if d + n < 100000 then d + n else 100000 := by rw [wrap_id (d + n) (by omega) (by omega), mn_eq]
      have g3 : okSpan (mx 0 (wrap64 (c - n))) (mn 100000 (wrap64 (d + n))) = true := by
        rw [e1, e2, okSpan_iff]
        split <;> split <;> omega
      have g4 : hrs (mx 0 (wrap64 (c - n))) (mn 100000 (wrap64 (d + n))) ≥ hrs c d := by
        unfold hrs
        rw [if_pos g3, if_pos h1, e1, e2]
        split <;> split <;> omega
      simp only [if_pos h1, if_pos h4, if_true, g3, hrs_eq, Option.bind_some]
      rw [if_pos g4]
      have g := end_ok a b x
      simpa only [hrs_eq, Option.bind_some] using g
    · simp only [if_pos h1, if_neg h4, Option.bind_some, Bool.false_eq_true, if_false]
      exact end_ok a b x
  · simp only [if_neg h1, Option.bind_some, Bool.false_eq_true, if_false]
    exact end_ok a b x
theorem j1_ok (k : Nat) (l : List Int) (hl : l.length ≤ 1048576) (hk : l.length < k) (a b c d : Int) : laws_FnSpans.j1 (k + 2) l (meet a b c d).2.2 false a b c d (meet a b c d).1 (meet a b c d).2.1 = some true := by
  obtain ⟨h, n1⟩ := new_ok (k + 1) l hl (by omega)
  obtain ⟨e, f, i2, h2, n2, o2⟩ := any5_ok l 0 h (okc_start l hl)
  obtain ⟨n, i3, h3, n3, o3, _⟩ := below_ok l i2 h2 90 o2
  simp only [laws_FnSpans.j1]
  rw [if_neg (by simp)]
  unfold spec_DrawHolds.f
  simp only [n1, n2, n3, Option.bind_some, hld_eq]
  have q := j2_ok k l hl hk n e f
  by_cases h1 : hld a b n = true
  · rw [if_pos h1]
    by_cases h4 : (hld c d n != hld (meet a b c d).1 (meet a b c d).2.1 n) = true
    · rw [if_pos h4]
      by_cases h5 : okSpan a b = true ∧ okSpan c d = true ∧ okSpan (mx a c) (mn b d) = true
      · exfalso
        have hm : meet a b c d = (mx a c, mn b d, true) := by unfold meet; rw [if_pos h5]
        rw [hm, bne_iff_ne] at h4
        apply h4
        have g := (hld_iff a b n).1 h1
        show hld c d n = hld (mx a c) (mn b d) n
        rw [Bool.eq_iff_iff, hld_iff, hld_iff]
        constructor
        · rintro ⟨_, g2⟩
          refine ⟨h5.2.2, ?_⟩
          rw [mx_eq, mn_eq]
          split <;> split <;> omega
        · rintro ⟨_, g2⟩
          refine ⟨h5.2.1, ?_⟩
          rw [mx_eq, mn_eq] at g2
          revert g2
          split <;> split <;> omega
      · have hm : (meet a b c d).2.2 = false := by unfold meet; rw [if_neg h5]
        rw [hm]
        exact q
    · rw [if_neg h4]
      exact q
  · rw [if_neg h1]
    exact q
theorem j0_ok (k : Nat) (l : List Int) (hl : l.length ≤ 1048576) (hk : l.length < k) (a b c d : Int) (hu : Int × Int × Bool) (hh : hu = if okSpan a b = true ∧ okSpan c d = true then (mn a c, mx b d, true) else (0, 0, false)) : laws_FnSpans.j0 (k + 3) l (meet a b c d).2.2 hu.2.2 false a b c d (meet a b c d).1 (meet a b c d).2.1 hu.1 hu.2.1 = some true := by
  simp only [laws_FnSpans.j0]
  rw [if_neg (by simp)]
  have q := j1_ok k l hl hk a b c d
  by_cases h : okSpan a b = true ∧ okSpan c d = true
  · rw [if_pos h] at hh
    subst hh
    have g1 := (okSpan_iff a b).1 h.1
    have g2 := (okSpan_iff c d).1 h.2
    have ho : okSpan (mn a c) (mx b d) = true := by
      rw [okSpan_iff, mx_eq, mn_eq]
      split <;> split <;> omega
    have t1 : hld (mn a c) (mx b d) a = true := by rw [hld_iff]; refine ⟨ho, ?_⟩; rw [mx_eq, mn_eq]; split <;> split <;> omega
    have t2 : hld (mn a c) (mx b d) b = true := by rw [hld_iff]; refine ⟨ho, ?_⟩; rw [mx_eq, mn_eq]; split <;> split <;> omega
    have t3 : hld (mn a c) (mx b d) c = true := by rw [hld_iff]; refine ⟨ho, ?_⟩; rw [mx_eq, mn_eq]; split <;> split <;> omega
    have t4 : hld (mn a c) (mx b d) d = true := by rw [hld_iff]; refine ⟨ho, ?_⟩; rw [mx_eq, mn_eq]; split <;> split <;> omega
    simp only [hld_eq, hrs_eq, Option.bind_some, t1, t2, t3, t4, if_true]
    by_cases h3 : hrs (mn a c) (mx b d) > wrap64 (hrs a b + hrs c d)
    · rw [if_pos h3]
      by_cases h5 : okSpan a b = true ∧ okSpan c d = true ∧ okSpan (mx a c) (mn b d) = true
      · exfalso
        have e1 : hrs a b = b - a + 1 := by unfold hrs; rw [if_pos h.1]
        have e2 : hrs c d = d - c + 1 := by unfold hrs; rw [if_pos h.2]
        have e3 : hrs (mn a c) (mx b d) = mx b d - mn a c + 1 := by unfold hrs; rw [if_pos ho]
        rw [e1, e2, e3, wrap_id (b - a + 1 + (d - c + 1)) (by omega) (by omega)] at h3
        have g5 := (okSpan_iff _ _).1 h5.2.2
        rw [mx_eq, mn_eq] at g5 h3
        revert g5 h3
        split <;> split <;> split <;> split <;> omega
      · have hm : (meet a b c d).2.2 = false := by unfold meet; rw [if_neg h5]
        rw [hm] at q ⊢
        exact q
    · rw [if_neg h3]
      exact q
  · rw [if_neg h] at hh
    subst hh
    simp only [Bool.false_eq_true, if_false]
    exact q
theorem main : laws_FnSpans.Pure := by
  intro l _ _
  refine ⟨l.length + 40, ?_⟩
  unfold laws_FnSpans.f laws_big.f
  rw [Option.bind_some]
  by_cases h1 : (l.length : Int) > 1048576
  · rw [if_pos (by simp; omega)]
  rw [if_neg (by simp; omega)]
  obtain ⟨h, n1⟩ := new_ok (l.length + 40) l (by omega) (by omega)
  obtain ⟨a, b, i2, h2, n2, o2⟩ := any5_ok l 0 h (okc_start l (by omega))
  obtain ⟨c, d, i3, h3, n3, o3⟩ := any5_ok l i2 h2 o2
  obtain ⟨hu, hh⟩ : ∃ hu : Int × Int × Bool, hu = if okSpan a b = true ∧ okSpan c d = true then (mn a c, mx b d, true) else (0, 0, false) := ⟨_, rfl⟩
  have q := j0_ok (l.length + 37) l (by omega) (by omega) a b c d hu hh
  unfold spec_DrawMeet.f
  simp only [n1, n2, n3, iMeet, sMeet, iHull, Option.bind_some, meet_comm a b c d, ← hh, hrs_eq]
  rw [if_neg (by simp), if_neg (by simp), if_neg (by simp)]
  by_cases h5 : okSpan a b = true ∧ okSpan c d = true ∧ okSpan (mx a c) (mn b d) = true
  · have hm : meet a b c d = (mx a c, mn b d, true) := by unfold meet; rw [if_pos h5]
    have hu2 : hu.2.2 = true := by rw [hh, if_pos ⟨h5.1, h5.2.1⟩]
    have g1 := (okSpan_iff a b).1 h5.1
    have g2 := (okSpan_iff c d).1 h5.2.1
    have g3 := (okSpan_iff _ _).1 h5.2.2
    have e1 : hrs a b = b - a + 1 := by unfold hrs; rw [if_pos h5.1]
    have e2 : hrs c d = d - c + 1 := by unfold hrs; rw [if_pos h5.2.1]
    have e3 : hrs (mx a c) (mn b d) = mn b d - mx a c + 1 := by unfold hrs; rw [if_pos h5.2.2]
    have r1 : ¬ (hrs (mx a c) (mn b d) > hrs a b) := by
      rw [e1, e3]
      revert g3
      rw [mx_eq, mn_eq]
      split <;> split <;> omega
    have r2 : ¬ (hrs (mx a c) (mn b d) > hrs c d) := by
      rw [e2, e3]
      revert g3
      rw [mx_eq, mn_eq]
      split <;> split <;> omega
    rw [hm] at q ⊢
    rw [hu2] at q ⊢
    simp only [if_true]
    rw [if_neg r1, decide_eq_false r2]
    exact q
  · have hm : (meet a b c d).2.2 = false := by unfold meet; rw [if_neg h5]
    rw [if_neg (by rw [hm]; simp)]
    exact q

end Go.Proofs.Ytoocbgjcigadfab.PureFnSpans
namespace Go.Proofs.Ytoocbgjcigadfab.Pure
/-- The pure statement. -/
theorem FnSpans : Go.Proofs.Ytoocbgjcigadfab.PureFnSpans.laws_FnSpans.Pure := Go.Proofs.Ytoocbgjcigadfab.PureFnSpans.main
end Go.Proofs.Ytoocbgjcigadfab.Pure

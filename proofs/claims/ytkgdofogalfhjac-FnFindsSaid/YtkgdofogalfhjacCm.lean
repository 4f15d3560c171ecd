/- Plain laws on readings of arguments, over any program: whatever reads as a value of a type of integers, structs and slices is such a value in memory as the printed contracts ask for it; no conditions. -/
import Derived.WalkKit
import Derived.ProofKit
import Derived.OpenShut
import Derived.ShutString
import Derived.ChangeOld
import Derived.Below
import Derived.Carry
import Derived.SizedLaws
import Derived.Deep.Slices
import Derived.Test.YtkgdofogalfhjacWWords
namespace Go.Proofs.Ytkgdofogalfhjac.Cm
open Go.ChangeShapes Go.WideShapes Go.ChangeAt Go.RowKit Go.Deep Go.Proofs.YtkgdofogalfhjacW.PrintWords
set_option linter.unusedVariables false

/-- Whatever reads as a value of type t is, in memory, a value of the kind d that meets ok. -/
def ReadsAs {α : Type} (P : Program) (t : TypeId) (d : Kd α) (ok : α → Prop) : Prop :=
  ∀ (H : Type) (enc : TypeId × Value → H) (w : World) (base : Nat) (spare : Nat → Bool) (held : Bool) (n : Nat) (cs : List Value) (x : DataW H × List MemPlace),
    DataW.trod enc P w base spare held n t cs = some x → ∃ a : α, d.K w a cs ∧ ok a

theorem readsAs_int {P : Program} {t : TypeId} {k : IntKind} (ht : P.underlying t = some (.int k)) : ReadsAs P t (Kd.int k) (fun z => (Lit.int k z).wf = true) := by
  intro H enc w base spare held n cs x h
  obtain ⟨z, rfl, hx, hw⟩ := DataW.trod_int ht h
  exact ⟨z, rfl, hw⟩

theorem rows_of {α : Type} {len : Nat} {Q : Nat → α → Prop} (each : ∀ i, i < len → ∃ y, Q i y) : ∀ k, k ≤ len → ∃ xs : List α, xs.length = k ∧ ∀ j p, xs[j]? = some p → Q j p
  | 0, _ => ⟨[], rfl, fun j p h => by simp at h⟩
  | k + 1, hk => by
    obtain ⟨xs, hl, hx⟩ := rows_of each k (by omega)
    obtain ⟨y, hy⟩ := each k (by omega)
    refine ⟨xs ++ [y], by simp [hl], fun j p h => ?_⟩
    rcases Nat.lt_or_ge j k with hj | hj
    · rw [List.getElem?_append_left (by omega)] at h
      exact hx j p h
    · have hjl := (List.getElem?_eq_some_iff.1 h).1
      simp only [List.length_append, List.length_singleton] at hjl
      obtain rfl : j = k := by omega
      rw [List.getElem?_append_right (by omega), show j - xs.length = 0 by omega] at h
      simp only [List.getElem?_cons_zero, Option.some.injEq] at h
      exact h ▸ hy

theorem readsAs_slice {α : Type} {P : Program} {t e : TypeId} {d : Kd α} {ok : α → Prop} (ht : P.underlying t = some (.slice e)) (hC : P.cellsOf e = d.sz) (he : ReadsAs P e d ok) :
    ReadsAs P t (Kd.slice e d) (fun xs => xs.length ≤ maxLen ∧ ∀ x ∈ xs, ok x) := by
  intro H enc w base spare held n cs x h
  rcases open_slice ht h with ⟨rfl, _⟩ | ⟨a, len, cap, m, n', D, Pl, rfl, hb, hl, hm, hmm, _, hi⟩
  · exact ⟨[], ⟨none, 0, rfl, Nat.le_refl _, ⟨rfl, by simp, fun h => absurd h (by simp)⟩⟩, by simp, by simp⟩
  · have each : ∀ i, i < len → ∃ (y : α), ok y ∧ ∃ c : List Value, c.length = d.sz ∧ d.K w y c ∧ ∀ j u, c[j]? = some u → w.cell? (a.add (i * d.sz + j)) = some u := by
      intro i hil
      obtain ⟨c, hc, ht'⟩ := hi i (by subst hmm; split <;> omega)
      obtain ⟨y, hy, hok⟩ := he H enc w base spare held _ _ _ ht'
      obtain ⟨_, hcl, hat⟩ := World.cells?_some hc
      refine ⟨y, hok, c, d.K_len hy, hy, fun j u hu => ?_⟩
      have hj : j < c.length := (List.getElem?_eq_some_iff.1 hu).1
      have h2 := hat j (by omega)
      rw [hC] at h2
      rw [← Go.Deep.add_add, h2]
      exact hu
    obtain ⟨xs, hxl, hxs⟩ := rows_of each len (Nat.le_refl _)
    subst hxl
    refine ⟨xs, ⟨some a, cap, rfl, hl, rfl, by simp only [maxLen] at hm; omega, fun _ => ⟨a, rfl, fun j p hj => (hxs j p hj).2⟩⟩, by omega, fun x hx => ?_⟩
    obtain ⟨i, hi', rfl⟩ := List.mem_iff_getElem.1 hx
    exact (hxs i _ (List.getElem?_eq_getElem hi')).1

/-- The fields of a struct from place j on, whose cells begin at off, are of the kind d. -/
def Tail {α : Type} (P : Program) (fs : Array Field) (j off : Nat) (d : Kd α) (ok : α → Prop) : Prop :=
  ∀ (H : Type) (enc : TypeId × Value → H) (w : World) (base : Nat) (spare : Nat → Bool) (held : Bool) (n : Nat) (cs : List Value) (xs : List (DataW H × List MemPlace)),
    xs.length = fs.size → (∀ (i : Nat) (f : Field), fs[i]? = some f → DataW.trod enc P w base spare held n f.type ((cs.drop f.offset).take (P.cellsOf f.type)) = xs[i]?) → cs.length = off + d.sz →
      ∃ a : α, d.K w a (cs.drop off) ∧ ok a

theorem field_reads {α : Type} {P : Program} {fs : Array Field} {j : Nat} {f : Field} {d : Kd α} {ok : α → Prop} (hj : fs[j]? = some f) (hr : ReadsAs P f.type d ok)
    {H : Type} {enc : TypeId × Value → H} {w : World} {base : Nat} {spare : Nat → Bool} {held : Bool} {n : Nat} {cs : List Value} {xs : List (DataW H × List MemPlace)} (hl : xs.length = fs.size)
    (hf : ∀ (i : Nat) (f : Field), fs[i]? = some f → DataW.trod enc P w base spare held n f.type ((cs.drop f.offset).take (P.cellsOf f.type)) = xs[i]?) :
    ∃ a : α, d.K w a ((cs.drop f.offset).take (P.cellsOf f.type)) ∧ ok a := by
  have e := hf j f hj
  have hjl : j < fs.size := (Array.getElem?_eq_some_iff.1 hj).1
  rw [List.getElem?_eq_getElem (show j < xs.length by omega)] at e
  exact hr H enc w base spare held n _ _ e

theorem tail_last {α : Type} {P : Program} {fs : Array Field} {j off : Nat} {d : Kd α} {ok : α → Prop} (f : Field) (hj : fs[j]? = some f) (ho : f.offset = off) (hC : P.cellsOf f.type = d.sz) (hr : ReadsAs P f.type d ok) : Tail P fs j off d ok := by
  intro H enc w base spare held n cs xs hl hf hcs
  obtain ⟨a, hk, hok⟩ := field_reads hj hr hl hf
  rw [ho, hC, List.take_of_length_le (by rw [List.length_drop]; omega)] at hk
  exact ⟨a, hk, hok⟩

theorem tail_cons {α β : Type} {P : Program} {fs : Array Field} {j off : Nat} {d : Kd α} {d' : Kd β} {ok : α → Prop} {ok' : β → Prop} (f : Field) (hj : fs[j]? = some f) (ho : f.offset = off) (hC : P.cellsOf f.type = d.sz) (hr : ReadsAs P f.type d ok)
    (ht : Tail P fs (j + 1) (off + d.sz) d' ok') : Tail P fs j off (Kd.pair d d') (fun p => ok p.1 ∧ ok' p.2) := by
  intro H enc w base spare held n cs xs hl hf hcs
  obtain ⟨a, hk, hok⟩ := field_reads hj hr hl hf
  obtain ⟨b, hk2, hok2⟩ := ht H enc w base spare held n cs xs hl hf (by rw [hcs]; show off + (d.sz + d'.sz) = _; omega)
  rw [ho, hC] at hk
  refine ⟨(a, b), ⟨(cs.drop off).take d.sz, cs.drop (off + d.sz), ?_, hk, hk2⟩, hok, hok2⟩
  rw [← List.drop_drop, List.take_append_drop]

theorem readsAs_struct {α : Type} {P : Program} {t : TypeId} {fs : Array Field} {d : Kd α} {ok : α → Prop} (ht : P.underlying t = some (.struct fs)) (hC : P.cellsOf t = d.sz) (h : Tail P fs 0 0 d ok) : ReadsAs P t d ok := by
  intro H enc w base spare held n cs x hx
  obtain ⟨xs, m, _, _, hlen, hxl, hf⟩ := DataW.trod_struct ht hx
  obtain ⟨a, hk, hok⟩ := h H enc w base spare held m cs xs hxl hf (by omega)
  exact ⟨a, hk, hok⟩

theorem readsAs_iso {α β : Type} {P : Program} {t : TypeId} {d : Kd α} {ok : α → Prop} {f : β → α} (g : α → β) (hfg : ∀ a, f (g a) = a) (h : ReadsAs P t d ok) : ReadsAs P t (Kd.iso d f) (fun b => ok (f b)) := by
  intro H enc w base spare held n cs x hx
  obtain ⟨a, hk, hok⟩ := h H enc w base spare held n cs x hx
  exact ⟨g a, by show d.K w (f (g a)) cs; rw [hfg]; exact hk, by show ok (f (g a)); rw [hfg]; exact hok⟩

theorem readsAs_mono {α : Type} {P : Program} {t : TypeId} {d : Kd α} {ok ok' : α → Prop} (h : ReadsAs P t d ok) (hm : ∀ a, ok a → ok' a) : ReadsAs P t d ok' := by
  intro H enc w base spare held n cs x hx
  obtain ⟨a, hk, hok⟩ := h H enc w base spare held n cs x hx
  exact ⟨a, hk, hm a hok⟩

/-- A struct by value, opened. -/
theorem open_as_struct {H : Type} {enc : TypeId × Value → H} {P : Program} {w : World} {base : Nat} {spare : Nat → Bool} {held : Bool} {r : Reach} {b0 : Nat} {t : TypeId} {fs : Array Field} {v : Value} {dd : DataW H} {p : List MemPlace}
    {α : Type} {d : Kd α} {ok : α → Prop} (hs : P.underlying t = some (.struct fs)) (hr : ReadsAs P t d ok) (hv : Value.okWide P w r b0 t v) (h : DataW.Trod enc P w base spare held t v dd p) :
    ∃ (a : α) (cs : List Value), v = .agg cs.toArray ∧ d.K w a cs ∧ ok a := by
  obtain ⟨cs, rfl, hsz⟩ := okWide_struct hs hv
  obtain ⟨fuel, hf⟩ := h
  obtain ⟨a, hk, hok⟩ := hr H enc w base spare held fuel _ _ hf
  exact ⟨a, cs.toList, rfl, hk, hok⟩

/-- A slice, opened. -/
theorem open_as_slice {H : Type} {enc : TypeId × Value → H} {P : Program} {w : World} {base : Nat} {spare : Nat → Bool} {held : Bool} {r : Reach} {b0 : Nat} {t e : TypeId} {v : Value} {dd : DataW H} {p : List MemPlace}
    {α : Type} {d : Kd α} {ok : List α → Prop} (hs : P.underlying t = some (.slice e)) (hr : ReadsAs P t (Kd.slice e d) ok) (hv : Value.okWide P w r b0 t v) (h : DataW.Trod enc P w base spare held t v dd p) :
    ∃ (xs : List α) (A : Option Addr) (c : Nat), v = .slice A xs.length c ∧ xs.length ≤ c ∧ d.C w A xs.length xs ∧ ok xs := by
  obtain ⟨A, len, cap, rfl⟩ := okWide_slice hs hv
  obtain ⟨fuel, hf⟩ := h
  obtain ⟨xs, ⟨A', c, he, hc, hC⟩, hok⟩ := hr H enc w base spare held fuel _ _ hf
  have he' : Value.slice A len cap = .slice A' xs.length c := by simpa [Value.cells] using he
  exact ⟨xs, A', c, he', hc, hC, hok⟩

theorem trod_lt_of {H : Type} {enc : TypeId × Value → H} {P : Program} {W : World} {t : TypeId} {v : Value} {d : DataW H} {p : List MemPlace} (k : DataW.Trod enc P W 0 (fun _ => true) true t v d p) : ∀ x ∈ p, x.block < W.heap.size := by
  obtain ⟨m, hm⟩ := k
  exact DataW.trod_lt m _ _ _ hm
end Go.Proofs.Ytkgdofogalfhjac.Cm

/-
  My own kit: an argument that is read, opened by kinds: whole numbers, bools, strings, structs, slices.
-/
import Derived.Test.YtekjhfhlbkcklaaWWords
import Derived.Test.YtekjhfhlbkcklaaWMore
import Derived.Deep.Slices
import Derived.Deep.SlicePairs
import Derived.ChangeMaps5
import Derived.WalkKit
import Derived.ProofKit
import Derived.OpenShut
import Derived.ShutString
import Derived.ChangeOld
import Derived.Below
import Derived.SizedLaws
set_option linter.unusedVariables false
set_option linter.unusedSimpArgs false
namespace Go.Proofs.Ytekjhfhlbkcklaa.Op
open Go.ChangeShapes Go.WideShapes Go.ChangeAt Go.RowKit
open Go.Proofs.YtekjhfhlbkcklaaW.PrintWords

/-- What is read at type T is of kind d, and ok. -/
def Opens {α : Type} (P : Program) (T : TypeId) (d : Kd α) (ok : α → Prop) : Prop :=
  ∀ (H : Type) (enc : TypeId × Value → H) (w : World) (base : Nat) (sp : Nat → Bool) (held : Bool) (fuel : Nat) (cs : List Value) (x : DataW H × List MemPlace),
    DataW.trod enc P w base sp held fuel T cs = some x → ∃ a, d.K w a cs ∧ ok a
/-- .. and the fields fs, of which the first begins at off. -/
def OpensF {α : Type} (P : Program) (fs : List Field) (off : Nat) (d : Kd α) (ok : α → Prop) : Prop :=
  ∀ (H : Type) (enc : TypeId × Value → H) (w : World) (base : Nat) (sp : Nat → Bool) (held : Bool) (cs : List Value), cs.length = off + d.sz →
    (∀ f ∈ fs, ∃ n y, DataW.trod enc P w base sp held n f.type ((cs.drop f.offset).take (P.cellsOf f.type)) = some y) → ∃ a, d.K w a (cs.drop off) ∧ ok a
section
variable {P : Program} {T : TypeId}
theorem opens_int {k : IntKind} (h : P.underlying T = some (.int k)) : Opens P T (Kd.int k) (fun n => (Lit.int k n).wf = true) := by
  intro H enc w base sp held fuel cs x hx
  obtain ⟨n, rfl, rfl, hw⟩ := DataW.trod_int h hx
  exact ⟨n, rfl, hw⟩
theorem opens_bool (h : P.underlying T = some .bool) : Opens P T Kd.bool (fun _ => True) := by
  intro H enc w base sp held fuel cs x hx
  obtain ⟨b, rfl, rfl⟩ := DataW.trod_bool h hx
  exact ⟨b, rfl, trivial⟩
theorem opens_string (h : P.underlying T = some .string) : Opens P T Kd.string (fun s => s.size ≤ maxLen) := by
  intro H enc w base sp held fuel cs x hx
  obtain ⟨s, rfl, rfl, hs⟩ := DataW.trod_string h hx
  exact ⟨s, rfl, hs⟩
theorem take_each {α : Type} {p : Nat → α → Prop} : ∀ (n : Nat), (∀ i, i < n → ∃ a, p i a) → ∃ xs : List α, xs.length = n ∧ ∀ i x, xs[i]? = some x → p i x
  | 0, _ => ⟨[], rfl, by simp⟩
  | n + 1, h => by
    obtain ⟨xs, hl, hx⟩ := take_each n (fun i hi => h i (by omega))
    obtain ⟨a, ha⟩ := h n (by omega)
    refine ⟨xs ++ [a], by simp [hl], fun i x hi => ?_⟩
    rcases Nat.lt_or_ge i n with h1 | h1
    · rw [List.getElem?_append_left (by omega)] at hi; exact hx i x hi
    · rw [List.getElem?_append_right (by omega)] at hi
      obtain ⟨h2, h3⟩ := List.getElem?_eq_some_iff.1 hi
      obtain rfl : i = n := by simp at h2; omega
      simp [hl] at h3
      rw [← h3]; exact ha
theorem opens_slice {α : Type} {e : TypeId} {d : Kd α} {ok : α → Prop} (h : P.underlying T = some (.slice e)) (hc : P.cellsOf e = d.sz) (he : Opens P e d ok) :
    Opens P T (Kd.slice e d) (fun xs => (∀ x ∈ xs, ok x) ∧ xs.length ≤ maxLen) := by
  intro H enc w base sp held fuel cs x hx
  rcases DataW.trod_slice h hx with ⟨rfl, rfl⟩ | ⟨a, len, cap, elems, rest, n, rfl, rfl, rfl, hb, hl, hm, hlen, hel, -, -⟩
  · exact ⟨[], ⟨none, 0, rfl, Nat.le_refl _, rfl, by simp, fun h => absurd h (by simp)⟩, by simp, Nat.zero_le _⟩
  · have each : ∀ i, i < len → ∃ y : α, (∃ cs', cs'.length = d.sz ∧ d.K w y cs' ∧ ∀ j u, cs'[j]? = some u → w.cell? (a.add (i * d.sz + j)) = some u) ∧ ok y := by
      intro i hi
      have h1 := hel i hi
      rw [List.getElem?_eq_getElem (by omega), Option.bind_eq_some_iff] at h1
      obtain ⟨cs', h2, h3⟩ := h1
      obtain ⟨y, h4, h5⟩ := he H enc w base sp held n cs' _ h3
      obtain ⟨_, h6, h7⟩ := World.cells?_some h2
      rw [hc] at h6 h7
      refine ⟨y, ⟨cs', h6, h4, fun j u hu => ?_⟩, h5⟩
      have hj : j < d.sz := by have := (List.getElem?_eq_some_iff.1 hu).1; omega
      rw [← hu, ← h7 j hj]
      congr 1
      rw [Go.Proofs.YtekjhfhlbkcklaaW.PrintWords.add_add]
    obtain ⟨xs, hxl, hxs⟩ := take_each len each
    refine ⟨xs, ⟨some a, cap, by rw [hxl], by omega, rfl, by simp [maxLen] at hm; omega, fun _ => ⟨a, rfl, fun j p hp => ?_⟩⟩, fun y hy => ?_, by omega⟩
    · obtain ⟨⟨cs', h1, h2, h3⟩, _⟩ := hxs j p hp
      exact ⟨cs', h1, h2, h3⟩
    · obtain ⟨j, hj, e⟩ := List.getElem_of_mem hy
      exact (hxs j y (by rw [← e]; exact List.getElem?_eq_getElem hj)).2
theorem opensF_last {α : Type} {f : Field} {off : Nat} {d : Kd α} {ok : α → Prop} (h0 : f.offset = off) (hc : P.cellsOf f.type = d.sz) (h : Opens P f.type d ok) : OpensF P [f] off d ok := by
  intro H enc w base sp held cs hl hf
  obtain ⟨n, y, hy⟩ := hf f (.head _)
  rw [h0, hc, List.take_of_length_le (by simp; omega)] at hy
  exact h H enc w base sp held n _ y hy
theorem opensF_cons {α β : Type} {f : Field} {fs : List Field} {off : Nat} {d : Kd α} {d2 : Kd β} {ok : α → Prop} {ok2 : β → Prop} (h0 : f.offset = off) (hc : P.cellsOf f.type = d.sz) (h : Opens P f.type d ok)
    (h2 : OpensF P fs (off + d.sz) d2 ok2) : OpensF P (f :: fs) off (Kd.pair d d2) (fun p => ok p.1 ∧ ok2 p.2) := by
  intro H enc w base sp held cs hl hf
  have hl' : cs.length = off + (d.sz + d2.sz) := hl
  obtain ⟨n, y, hy⟩ := hf f (.head _)
  rw [h0, hc] at hy
  obtain ⟨a, ha, oa⟩ := h H enc w base sp held n _ y hy
  obtain ⟨b, hb, ob⟩ := h2 H enc w base sp held cs (by omega) (fun g hg => hf g (.tail _ hg))
  refine ⟨(a, b), ⟨_, _, ?_, ha, hb⟩, oa, ob⟩
  rw [← List.drop_drop, List.take_append_drop]
theorem opens_struct {α β : Type} {fs : Array Field} {d : Kd α} {ok : α → Prop} {g : β → α} (gi : α → β) (hg : ∀ a, g (gi a) = a) (h : P.underlying T = some (.struct fs)) (hc : P.cellsOf T = d.sz) (hf : OpensF P fs.toList 0 d ok) :
    Opens P T (Kd.iso d g) (fun b => ok (g b)) := by
  intro H enc w base sp held fuel cs x hx
  obtain ⟨xs, n, rfl, rfl, hl, hxl, hx⟩ := DataW.trod_struct h hx
  obtain ⟨a, ha, oa⟩ := hf H enc w base sp held cs (by omega) (fun f hm => by
    obtain ⟨i, hi, e⟩ := List.getElem_of_mem hm
    have hi' : i < fs.size := by simpa using hi
    have h1 := hx i f (by rw [← e]; simp [hi'])
    exact ⟨n, xs[i]'(by omega), by rw [h1]; exact List.getElem?_eq_getElem (by omega)⟩)
  refine ⟨gi a, ?_, by show ok (g (gi a)); rw [hg]; exact oa⟩
  show d.K w (g (gi a)) cs
  rw [hg]
  simpa using ha
/-- A slice that came in. -/
theorem slice_in {α : Type} {e : TypeId} {d : Kd α} {ok : List α → Prop} {H : Type} {enc : TypeId × Value → H} {w : World} {base : Nat} {sp : Nat → Bool} {held : Bool} {r : Reach} {b0 : Nat} {v : Value} {x : DataW H} {p : List MemPlace}
    (hu : P.underlying T = some (.slice e)) (h : Opens P T (Kd.slice e d) ok) (hv : Value.okWide P w r b0 T v) (ht : DataW.Trod enc P w base sp held T v x p) :
    ∃ A c xs, v = .slice A xs.length c ∧ xs.length ≤ c ∧ d.C w A xs.length xs ∧ ok xs := by
  obtain ⟨a, len, cap, rfl⟩ := okWide_slice hu hv
  obtain ⟨fuel, hf⟩ := ht
  obtain ⟨xs, ⟨A, c, hcs, hl, hC⟩, ho⟩ := h H enc w base sp held fuel _ _ hf
  have hcs' : a = A ∧ len = xs.length ∧ cap = c := by simpa [Value.cells] using hcs
  obtain ⟨rfl, rfl, rfl⟩ := hcs'
  exact ⟨a, cap, xs, rfl, hl, hC, ho⟩
/-- A struct that came in. -/
theorem struct_in {α : Type} {fs : Array Field} {d : Kd α} {ok : α → Prop} {H : Type} {enc : TypeId × Value → H} {w : World} {base : Nat} {sp : Nat → Bool} {held : Bool} {r : Reach} {b0 : Nat} {v : Value} {x : DataW H} {p : List MemPlace}
    (hu : P.underlying T = some (.struct fs)) (h : Opens P T d ok) (hv : Value.okWide P w r b0 T v) (ht : DataW.Trod enc P w base sp held T v x p) :
    ∃ a cs, v = .agg cs ∧ d.K w a cs.toList ∧ ok a := by
  obtain ⟨cs, rfl, hsz⟩ := okWide_struct hu hv
  obtain ⟨fuel, hf⟩ := ht
  obtain ⟨a, ha, oa⟩ := h H enc w base sp held fuel _ _ hf
  exact ⟨a, cs, rfl, by simpa [Value.cells] using ha, oa⟩
end
end Go.Proofs.Ytekjhfhlbkcklaa.Op

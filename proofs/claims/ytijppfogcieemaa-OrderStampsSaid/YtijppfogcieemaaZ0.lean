import Derived.Test.YtijppfogcieemaaZ1
import Derived.Test.YtijppfogcieemaaSlp
import Derived.Shelf.SlSortCmp.NoneTotal
import Derived.Lib.SlicesCompact
namespace Go.Proofs.Ytijppfogcieemaa.Z
open Go.RowKit Go.Shelf Go.Lib Go.Sort
open Go.Proofs.YtijppfogcieemaaW.PrintWords Go.Proofs.YtijppfogcieemaaW.PrintLast Go.Proofs.YtijppfogcieemaaW.PrintMore
open Go.Proofs.Ytijppfogcieemaa.PA
abbrev Bel := Go.RowKit.Below

instance : Inhabited S24 := ⟨z24⟩
instance : DecidableEq S24 := fun a b => if h : a.f0 = b.f0 ∧ a.f1 = b.f1 then .isTrue (by cases a; cases b; simp at h; rw [h.1, h.2]) else .isFalse (fun e => h (by rw [e]; exact ⟨rfl, rfl⟩))
def enc2 (x : S24) : List Value := [.int .i64 x.f0, .int .i64 x.f1]
def cmpS (x y : S24) : Int := cmp2 (x.f0, x.f1) (y.f0, y.f1)
def ltS (x y : S24) : Bool := decide (x.f0 < y.f0 ∨ x.f0 = y.f0 ∧ x.f1 < y.f1)
theorem lt_eq : ltOf cmpS = ltS := by
  funext x y
  simp only [ltOf, cmpS, cmp2, ltS]
  by_cases h : (x.f0, x.f1) = (y.f0, y.f1)
  · rw [if_pos h]; simp at h; simp; omega
  · rw [if_neg h]; split <;> simp_all
theorem swo : SWO ltS := ⟨fun x => by simp [ltS], fun x y z h1 h2 => by simp [ltS] at *; omega, fun x y z h1 h2 => by simp [ltS] at *; omega⟩
theorem apart (x y : S24) (h1 : ltS x y = false) (h2 : ltS y x = false) : x = y := by
  cases x; cases y; simp [ltS] at *; omega

theorem enc_cells (x : S24) : enc2 x = [.int .i64 x.f0, .int .i64 x.f1] := rfl
theorem holds_c0 {w : World} {g : Nat} {d : Array S24} (h : HoldsK enc2 2 w g 0 d) {i : Nat} (hi : i < d.size) : w.cell? ⟨g, i * 2, none⟩ = some (.int .i64 d[i]!.f0) ∧ w.frozen? ⟨g, i * 2, none⟩ = false := by
  have := HoldsK.cell h hi (c := 0) (by omega)
  simpa [enc2] using this
theorem holds_c1 {w : World} {g : Nat} {d : Array S24} (h : HoldsK enc2 2 w g 0 d) {i : Nat} (hi : i < d.size) : w.cell? ⟨g, i * 2 + 1, none⟩ = some (.int .i64 d[i]!.f1) ∧ w.frozen? ⟨g, i * 2 + 1, none⟩ = false := by
  have := HoldsK.cell h hi (c := 1) (by omega)
  simpa [enc2] using this
/-- One element is stored. -/
theorem holds_set {w : World} {g : Nat} {d : Array S24} (h : HoldsK enc2 2 w g 0 d) {i : Nat} (hi : i < d.size) (x : S24) :
    HoldsK enc2 2 ((w.setCell ⟨g, i * 2, none⟩ (.int .i64 x.f0)).setCell ⟨g, i * 2 + 1, none⟩ (.int .i64 x.f1)) g 0 (d.setIfInBounds i x) := by
  have e : flatK enc2 2 (d.setIfInBounds i x) = setMany (flatK enc2 2 d) (i * 2) (enc2 x) := by
    refine ext_get! (by simp) fun t ht => ?_
    have ht' : t < d.size * 2 := by simpa using ht
    rw [get_setMany _ _ _ t (by simpa using ht'), get_flatK _ _ _ t (by simpa using ht'), get_flatK _ _ _ t ht']
    by_cases a : t / 2 = i
    · rw [if_pos (by simp [enc2]; omega), a, getElem!_set_same d i x hi, show t - i * 2 = t % 2 by omega]
    · rw [if_neg (by simp [enc2]; omega), getElem!_set_other d i _ x a]
  have hs : ((w.setCell ⟨g, i * 2, none⟩ (.int .i64 x.f0)).setCell ⟨g, i * 2 + 1, none⟩ (.int .i64 x.f1)) = putRow id w g 0 (setMany (flatK enc2 2 d) (i * 2) (enc2 x)) := by
    rw [← setCells_putRow w g 0 (enc2 x) (i * 2) (flatK enc2 2 d) (by simp [enc2]; omega), putRow_self id w g 0 _ h]
    simp [enc2, World.setCells]
  unfold HoldsK
  rw [hs, e]
  exact holds_putRow id w g 0 _ _ h (by simp)
/-- The prefix of a row is held over a run of stores behind it. -/
theorem holds_tail {w : World} {g : Nat} {d : Array S24} (h : HoldsK enc2 2 w g 0 d) {m : Nat} (hm : m ≤ d.size) (vs : List Value) :
    ∀ j, j < m → (w.setCells g (m * 2) vs).cell? ⟨g, j * 2, none⟩ = some (.int .i64 d[j]!.f0) ∧ (w.setCells g (m * 2) vs).cell? ⟨g, j * 2 + 1, none⟩ = some (.int .i64 d[j]!.f1) := by
  intro j hj
  have key : ∀ t, t < m * 2 → (w.setCells g (m * 2) vs).cell? ⟨g, t, none⟩ = w.cell? ⟨g, t, none⟩ := fun t ht => World.cell?_setCells_out g vs _ w _ (fun _ _ => .inl ht)
  rw [key _ (by omega), key _ (by omega)]
  exact ⟨(holds_c0 h (by omega)).1, (holds_c1 h (by omega)).1⟩
theorem below_setCells {B : Nat} {a : World} {g : Nat} (hg : B ≤ g) : ∀ (vs : List Value) (s : Nat) (w : World), Bel B a w → Bel B a (w.setCells g s vs)
  | [], _, _, h => h
  | v :: r, s, w, h => below_setCells hg r (s + 1) _ (h.setCell hg v)
/-- A run of stores in the sort's form. -/
theorem below_putRow {B : Nat} {a w : World} (h : Bel B a w) {g : Nat} (hg : B ≤ g) (F : Array Value) : Bel B a (putRow id w g 0 F) :=
  ⟨h.os, h.tape, h.output, by simpa [putRow, mapBlock] using h.size, fun k hk => by
    rw [← h.block k hk]
    simp only [putRow, mapBlock, Array.getElem?_modify]
    rw [if_neg (by omega)]⟩
theorem below_grow {B : Nat} {a w : World} (h : Bel B a w) (hB : B ≤ w.heap.size) (os : Array Obj) : Bel B a (grow w os) :=
  ⟨h.os, h.tape, h.output, by have := h.size; simp; omega, fun k hk => by rw [← h.block k hk]; exact heap_grow_old w os (by omega)⟩
theorem below_sortWorld {B : Nat} {a w : World} (h : Bel B a w) (hB : B ≤ w.heap.size) {g : Nat} (hg : B ≤ g) (n : Nat) (d : Array S24) (os : Array Obj) : Bel B a (sortWorldK enc2 2 w g 0 n d os) := by
  unfold sortWorldK putRowK
  have h1 : Bel B a (Sort.ahead w n) := ⟨h.os, h.tape, h.output, h.size, h.block⟩
  exact below_grow (below_putRow h1 hg _) (by simpa [putRow, mapBlock, Sort.ahead] using hB) os
theorem holds_sortWorld {w : World} {g : Nat} {d d' : Array S24} (h : HoldsK enc2 2 w g 0 d) (hs : d'.size = d.size) (hg : g < w.heap.size) (n : Nat) (os : Array Obj) : HoldsK enc2 2 (sortWorldK enc2 2 w g 0 n d' os) g 0 d' :=
  holdsK_grow enc2 2 _ os g 0 d' (by simpa [putRowK, putRow, mapBlock, Sort.ahead] using hg) (holdsK_putRowK enc2 2 _ g 0 d d' (holdsK_ahead enc2 2 w n g 0 d h) hs)

/-- THE SORT's CALL. -/
theorem sort_calls (g cap : Nat) (xs : List S24) (w : World) (hH : HoldsK enc2 2 w g 0 xs.toArray) (hg : g < w.heap.size) (hn : xs.length ≤ 1000) :
    Calls Try.prog 11 #[.slice (some ⟨g, 0, none⟩) xs.length cap, .func (.func 10) #[] #[]] w fun e w' =>
      e = .returned (.tuple #[]) ∧ HoldsK enc2 2 w' g 0 (xs.mergeSort fun x y => !(ltS) y x).toArray ∧ w.heap.size ≤ w'.heap.size ∧ ∀ B a, Bel B a w → B ≤ w.heap.size → B ≤ g → Bel B a w' := by
  have h := AnyQ.slices_SortFunc_total (P := Try.prog) Try.sortL 2 Try.isAgg31 Try.sizeOf31 enc2 (fun _ => rfl) (fun x v hv => by simp [enc2] at hv; rcases hv with rfl | rfl <;> rfl) cmpS (by rw [lt_eq]; exact swo) 10 #[] g 0 cap xs.toArray w (enters_of Try.func10 (by kernel_rfl) rfl)
    (fun m os dk _ x y => by simpa [enc2, cmpS] using moment_compare (x.f0, x.f1) (y.f0, y.f1) _) hH hg (by simp; omega) (by rw [lt_eq]; exact apart)
  rw [lt_eq] at h
  refine (show Calls Try.prog 11 #[.slice (some ⟨g, 0, none⟩) xs.length cap, .func (.func 10) #[] #[]] w _ from h).mono ?_
  rintro e w' ⟨rfl, n, os, rfl⟩
  refine ⟨rfl, holds_sortWorld hH (by simp) hg n os, ?_, fun B a hb hB hBg => below_sortWorld hb hB hBg n _ os⟩
  simp [sortWorldK, putRowK, putRow, mapBlock, Sort.ahead]
end Go.Proofs.Ytijppfogcieemaa.Z

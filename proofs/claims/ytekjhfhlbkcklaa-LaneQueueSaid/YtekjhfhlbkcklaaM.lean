/-
  The lane as a plain machine: its messages by their numbers from the start; what each method makes of them. · The lane as a plain machine: laying, publishing, taking, retiring, the first, the state, letting all go. · The lane's methods over the plain machine: what each call tells, and what it makes of the machine. · Reset over the plain machine.
-/
import Derived.Test.YtekjhfhlbkcklaaLI
import Derived.Test.YtekjhfhlbkcklaaLw
set_option linter.unusedVariables false
set_option linter.unusedSimpArgs false
namespace Go.Proofs.Ytekjhfhlbkcklaa.L
open Go.RowKit Go.Proofs.Ytekjhfhlbkcklaa.K

theorem wrap_u64 (n : Int) : IntKind.u64.wrap n = n % 18446744073709551616 := by simp [IntKind.wrap, IntKind.bits, IntKind.signed]
/-- The number of the i-th claim from the start. -/
def sq (s : Int) (i : Nat) : Int := (s + i) % 18446744073709551616
theorem sq_in (s : Int) (i : Nat) : 0 ≤ sq s i ∧ sq s i < 18446744073709551616 := by unfold sq; omega
theorem sq_succ (s : Int) (i : Nat) : IntKind.u64.wrap (sq s i + 1) = sq s (i + 1) := by rw [wrap_u64]; unfold sq; omega
theorem sq_inj {s : Int} {i j : Nat} (hi : i ≤ 2000) (hj : j ≤ 2000) (h : sq s i = sq s j) : i = j := by unfold sq at h; omega
theorem sq_sub {s : Int} {i j : Nat} (hi : i ≤ 2000) (hj : j ≤ i) : IntKind.u64.wrap (sq s i - sq s j) = ((i - j : Nat) : Int) := by rw [wrap_u64]; unfold sq; omega
theorem idx_eq (s : Int) (i : Nat) {z : Int} (hz : PowS z) : sq s i % z = (s + i) % z := by
  unfold sq
  rcases hz with rfl | rfl | rfl | rfl | rfl | rfl | rfl <;> omega
/-- The place of a number in the ring. -/
def idx (s : Int) (z : Int) (i : Nat) : Nat := (sq s i % z).toNat
theorem idx_lt {s : Int} {i : Nat} {z : Int} (hz : PowS z) : idx s z i < 64 := by
  have h1 := Int.emod_lt_of_pos (sq s i) (show 0 < z by have := hz.pos; omega)
  have := hz.pos
  unfold idx
  omega
theorem idx_ne {s : Int} {i j : Nat} {z : Int} (hz : PowS z) (h : i < j) (h2 : (j : Int) - i < z) : idx s z i ≠ idx s z j := by
  unfold idx
  rw [idx_eq s i hz, idx_eq s j hz]
  rcases hz with rfl | rfl | rfl | rfl | rfl | rfl | rfl <;> omega
theorem idx_ne' {s : Int} {i j : Nat} {z : Int} (hz : PowS z) (h : i ≠ j) (h1 : (i : Int) - j < z) (h2 : (j : Int) - i < z) : idx s z i ≠ idx s z j := by
  rcases Nat.lt_or_ge i j with h3 | h3
  · exact idx_ne hz h3 h2
  · exact (idx_ne hz (by omega) h1).symm

structure AL where
  c : Nat
  two : Bool
  base : Nat
  h : Nat
  r : Nat
  t : Nat
  epoch : Int
  old : List (Nat × Past)
  q : List Ent

structure Abs (s : Int) (A : AL) (L : Lane) (M : Pasts) : Prop where
  c0 : 1 ≤ A.c
  c1 : A.c ≤ 64
  credit : L.credit = A.c
  two : L.two = A.two
  pow : PowS L.size
  size : (A.c : Int) ≤ L.size
  bh : A.base ≤ A.h
  hr : A.h ≤ A.r
  rt : A.r ≤ A.t
  top : A.t ≤ 1000
  base : L.base = sq s A.base
  head : L.head = sq s A.h
  ready : L.ready = sq s A.r
  tail : L.tail = sq s A.t
  epoch : L.epoch = A.epoch
  ep0 : 0 ≤ A.epoch
  ep1 : A.epoch < 18446744073709551616
  left : L.left = (A.c : Int) - ((A.q.length + A.old.length : Nat) : Int)
  room : A.q.length + A.old.length ≤ A.c
  qlen : A.q.length + A.h = A.t
  rlen : L.ring.length = 64
  ring : ∀ (j : Nat) (e : Ent), A.q[j]? = some e → L.ring[idx s L.size (A.h + j)]? = some e
  pub : ∀ (j : Nat) (e : Ent), A.q[j]? = some e → j < A.r - A.h → e.is = 3
  claimed : ∀ (j : Nat) (e : Ent), A.q[j]? = some e → A.r - A.h ≤ j → e.is = 1 ∨ e.is = 2
  map : M = A.old.map (fun p => (sq s p.1, p.2))
  sorted : (A.old.map (·.1)).Pairwise (· < ·)
  low : ∀ p ∈ A.old, A.base ≤ p.1 ∧ p.1 < A.h

theorem ring_put {q : List Ent} {ring : List Ent} {f : Nat → Nat} (h : ∀ (j : Nat) (e : Ent), q[j]? = some e → ring[f j]? = some e) (i : Nat) (e' : Ent)
    (hi : f i < ring.length) (hne : ∀ j, j < q.length → j ≠ i → f j ≠ f i) : ∀ (j : Nat) (e : Ent), (q.set i e')[j]? = some e → (ring.set (f i) e')[f j]? = some e := by
  intro j e hj
  by_cases hij : j = i
  · subst hij
    have hl : j < (q.set j e').length := (List.getElem?_eq_some_iff.1 hj).1
    rw [List.getElem?_set_self (by simpa using hl)] at hj
    rw [List.getElem?_set_self hi]
    exact hj
  · rw [List.getElem?_set_ne (Ne.symm hij)] at hj
    have hl : j < q.length := (List.getElem?_eq_some_iff.1 hj).1
    rw [List.getElem?_set_ne (Ne.symm (hne j hl hij))]
    exact h j e hj
theorem ring_add {q : List Ent} {ring : List Ent} {f : Nat → Nat} (h : ∀ (j : Nat) (e : Ent), q[j]? = some e → ring[f j]? = some e) (e' : Ent)
    (hi : f q.length < ring.length) (hne : ∀ j, j < q.length → f j ≠ f q.length) : ∀ (j : Nat) (e : Ent), (q ++ [e'])[j]? = some e → (ring.set (f q.length) e')[f j]? = some e := by
  intro j e hj
  rcases Nat.lt_trichotomy j q.length with h1 | h1 | h1
  · rw [List.getElem?_append_left h1] at hj
    rw [List.getElem?_set_ne (Ne.symm (hne j h1))]
    exact h j e hj
  · subst h1
    rw [List.getElem?_append_right (Nat.le_refl _)] at hj
    rw [List.getElem?_set_self hi]
    simpa using hj
  · rw [List.getElem?_eq_none (by simp; omega)] at hj
    cases hj

namespace Abs
variable {s : Int} {A : AL} {L : Lane} {M : Pasts}
theorem ne (h : Abs s A L M) {i j : Nat} (hi : A.h ≤ i) (hj : A.h ≤ j) (hi2 : i ≤ A.h + A.q.length) (hj2 : j ≤ A.h + A.q.length) (hq : A.q.length < A.c ∨ (i < A.h + A.q.length ∧ j < A.h + A.q.length)) (hij : i ≠ j) : idx s L.size i ≠ idx s L.size j := by
  have := h.size; have := h.room
  exact idx_ne' h.pow hij (by omega) (by omega)
theorem idx_ring (h : Abs s A L M) (i : Nat) : idx s L.size i < L.ring.length := by rw [h.rlen]; exact idx_lt h.pow
theorem ent (h : Abs s A L M) {j : Nat} {e : Ent} (he : A.q[j]? = some e) {n : Int} (hn : n = sq s (A.h + j)) : entAt L n = e := by
  subst hn
  have := h.ring j e he
  unfold idx at this
  unfold entAt
  rw [this]; rfl
end Abs

def claimA (s : Int) (A : AL) : (Int × Int × Int) × AL :=
  if A.c ≤ A.q.length + A.old.length then ((0, 0, 81), A) else ((sq s A.t, A.epoch, 0), { A with q := A.q ++ [⟨1, 0, 0, 0, 0⟩], t := A.t + 1 })
theorem claim_abs {s : Int} {A : AL} {L : Lane} {M : Pasts} (h : Abs s A L M) (ht : A.t < 1000) : (claimS L).1 = (claimA s A).1 ∧ Abs s (claimA s A).2 (claimS L).2 M := by
  have hl := h.left
  have hr := h.room
  have hc1 := h.c1
  unfold claimS claimA
  by_cases hf : A.c ≤ A.q.length + A.old.length
  · rw [if_pos hf, if_pos (by omega)]
    exact ⟨rfl, h⟩
  · rw [if_neg hf, if_neg (by omega)]
    refine ⟨by rw [h.tail, h.epoch], ?_⟩
    have hq := h.qlen
    have e1 : (L.tail % L.size).toNat = idx s L.size (A.h + A.q.length) := by rw [h.tail, show A.h + A.q.length = A.t by omega]; rfl
    refine { h with top := ?_, rt := ?_, tail := ?_, left := ?_, room := ?_, qlen := ?_, rlen := ?_, ring := ?_, pub := ?_, claimed := ?_ }
    · have := h.rt; show A.r ≤ A.t + 1; omega
    · show A.t + 1 ≤ 1000; omega
    · show IntKind.u64.wrap (L.tail + 1) = sq s (A.t + 1)
      rw [h.tail, sq_succ]
    · show wrap64 (L.left - 1) = (A.c : Int) - ((((A.q ++ [(⟨1, 0, 0, 0, 0⟩ : Ent)]).length + A.old.length : Nat)) : Int)
      rw [List.length_append, List.length_singleton, hl]; unfold wrap64; omega
    · show (A.q ++ [(⟨1, 0, 0, 0, 0⟩ : Ent)]).length + A.old.length ≤ A.c
      rw [List.length_append, List.length_singleton]; omega
    · show (A.q ++ [(⟨1, 0, 0, 0, 0⟩ : Ent)]).length + A.h = A.t + 1
      rw [List.length_append, List.length_singleton]; omega
    · show (L.ring.set _ _).length = 64
      rw [List.length_set]; exact h.rlen
    · show ∀ (j : Nat) (e : Ent), (A.q ++ [(⟨1, 0, 0, 0, 0⟩ : Ent)])[j]? = some e → (L.ring.set (L.tail % L.size).toNat ⟨1, 0, 0, 0, 0⟩)[idx s L.size (A.h + j)]? = some e
      rw [e1]
      exact ring_add (f := fun j => idx s L.size (A.h + j)) h.ring _ (h.idx_ring _) (fun j hj => h.ne (by omega) (by omega) (by omega) (by omega) (.inl (by omega)) (by omega))
    · intro j e hj hlt
      have h1 : j < A.r - A.h := hlt
      have h2 := h.rt
      have hj' : (A.q ++ [(⟨1, 0, 0, 0, 0⟩ : Ent)])[j]? = some e := hj
      rw [List.getElem?_append_left (by omega)] at hj'
      exact h.pub j e hj' h1
    · intro j e hj hlt
      have hj' : (A.q ++ [(⟨1, 0, 0, 0, 0⟩ : Ent)])[j]? = some e := hj
      rcases Nat.lt_or_ge j A.q.length with h1 | h1
      · rw [List.getElem?_append_left h1] at hj'
        exact h.claimed j e hj' hlt
      · rw [List.getElem?_append_right h1] at hj'
        have := (List.getElem?_eq_some_iff.1 hj').1
        simp at this
        have h0 : j - A.q.length = 0 := by omega
        rw [h0] at hj'
        simp at hj'
        left; rw [← hj']

/-- The place of a ticket's claimed message. -/
def findA (s : Int) (A : AL) (seq ep : Int) : Option Nat :=
  if ep = A.epoch ∧ (seq - sq s A.r) % 18446744073709551616 < ((A.t - A.r : Nat) : Int) then some (A.r - A.h + ((seq - sq s A.r) % 18446744073709551616).toNat) else none
theorem findA_some {s : Int} {A : AL} {L : Lane} {M : Pasts} (h : Abs s A L M) {seq ep : Int} (h0 : 0 ≤ seq) (h1 : seq < 18446744073709551616) {i : Nat} :
    findA s A seq ep = some i ↔ ep = A.epoch ∧ A.r - A.h ≤ i ∧ i < A.q.length ∧ seq = sq s (A.h + i) := by
  have hq := h.qlen; have hr := h.hr; have ht := h.rt; have htop := h.top
  unfold findA
  constructor
  · intro hh
    split at hh
    · rename_i hc
      obtain ⟨hc1, hc2⟩ := hc
      have hi : A.r - A.h + ((seq - sq s A.r) % 18446744073709551616).toNat = i := by simpa using hh
      refine ⟨hc1, by omega, ?_, ?_⟩
      · have : 0 ≤ (seq - sq s A.r) % 18446744073709551616 := Int.emod_nonneg _ (by omega)
        omega
      · unfold sq at *; omega
    · cases hh
  · rintro ⟨h2, h3, h4, h5⟩
    have h6 : (seq - sq s A.r) % 18446744073709551616 = ((A.h + i - A.r : Nat) : Int) := by rw [h5]; unfold sq; omega
    rw [if_pos ⟨h2, by rw [h6]; omega⟩, h6]
    congr 1
    omega
theorem claimL_abs {s : Int} {A : AL} {L : Lane} {M : Pasts} (h : Abs s A L M) {seq ep : Int} (h0 : 0 ≤ seq) (h1 : seq < 18446744073709551616) :
    claimL L seq ep = (findA s A seq ep).map (fun i => idx s L.size (A.h + i)) := by
  have hq := h.qlen; have hr := h.hr; have ht := h.rt; have htop := h.top
  cases hf : findA s A seq ep with
  | some i =>
    obtain ⟨f1, f2, f3, f4⟩ := (findA_some h h0 h1).1 hf
    obtain ⟨e, he⟩ : ∃ e, A.q[i]? = some e := ⟨_, List.getElem?_eq_getElem f3⟩
    have hw : withinU L.ready seq L.tail = true := by
      unfold withinU
      rw [h.ready, h.tail, sq_sub (by omega) ht, f4, sq_sub (by omega) (by omega)]
      simp; omega
    have hri := h.ring i e he
    have he2 : (seq % L.size).toNat = idx s L.size (A.h + i) := by rw [f4]; rfl
    unfold claimL
    rw [if_neg (by rw [h.epoch]; simpa using f1), if_neg (by rw [hw]; simp), he2, hri]
    simp only [Option.map_some]
    rw [if_pos (h.claimed i e he f2)]
  | none =>
    unfold claimL
    by_cases he : ep = A.epoch
    · rw [if_neg (by rw [h.epoch]; simpa using he)]
      have hw : withinU L.ready seq L.tail = false := by
        unfold withinU
        rw [h.ready, h.tail, sq_sub (by omega) ht, wrap_u64]
        unfold findA at hf
        split at hf
        · cases hf
        · rename_i hc
          simpa [he] using hc
      rw [if_pos hw]; rfl
    · rw [if_pos (by rw [h.epoch]; exact he)]; rfl
theorem find_ent {s : Int} {A : AL} {L : Lane} {M : Pasts} (h : Abs s A L M) {i : Nat} (hi : i < A.q.length) : ∃ e, A.q[i]? = some e ∧ L.ring[idx s L.size (A.h + i)]? = some e :=
  ⟨_, List.getElem?_eq_getElem hi, h.ring i _ (List.getElem?_eq_getElem hi)⟩
/-- One message of those that are not taken is another one: its kind as the kinds are. -/
theorem abs_set {s : Int} {A : AL} {L : Lane} {M : Pasts} (h : Abs s A L M) (i : Nat) (e' : Ent) (hi : A.r - A.h ≤ i) (h2 : i < A.q.length) (he : e'.is = 1 ∨ e'.is = 2) :
    Abs s { A with q := A.q.set i e' } { L with ring := L.ring.set (idx s L.size (A.h + i)) e' } M := by
  refine { h with left := ?_, room := ?_, qlen := ?_, rlen := ?_, ring := ?_, pub := ?_, claimed := ?_ }
  · simpa using h.left
  · simpa using h.room
  · simpa using h.qlen
  · simpa using h.rlen
  · exact ring_put (f := fun j => idx s L.size (A.h + j)) h.ring i e' (h.idx_ring _) (fun j hj hne => h.ne (by omega) (by omega) (by omega) (by omega) (.inr ⟨by omega, by omega⟩) (by omega))
  · intro j e hj hlt
    have hj' : (A.q.set i e')[j]? = some e := hj
    have hlt' : j < A.r - A.h := hlt
    rw [List.getElem?_set_ne (by omega)] at hj'
    exact h.pub j e hj' hlt'
  · intro j e hj hlt
    have hj' : (A.q.set i e')[j]? = some e := hj
    by_cases hij : j = i
    · subst hij
      rw [List.getElem?_set_self h2] at hj'
      simp at hj'; subst hj'; exact he
    · rw [List.getElem?_set_ne (by omega)] at hj'
      exact h.claimed j e hj' hlt
end Go.Proofs.Ytekjhfhlbkcklaa.L
namespace Go.Proofs.Ytekjhfhlbkcklaa.L
open Go.RowKit Go.Proofs.Ytekjhfhlbkcklaa.K

def layA (s : Int) (A : AL) (seq ep n gen : Int) : AL × Int :=
  match findA s A seq ep with
  | some i => ({ A with q := A.q.set i { (A.q[i]?).getD ent0 with is := 2, n := n, gen := gen } }, 0)
  | none => (A, 82)
theorem lay_abs {s : Int} {A : AL} {L : Lane} {M : Pasts} (h : Abs s A L M) {seq ep : Int} (n gen : Int) (h0 : 0 ≤ seq) (h1 : seq < 18446744073709551616) :
    (layL L seq ep n gen).2 = (layA s A seq ep n gen).2 ∧ Abs s (layA s A seq ep n gen).1 (layL L seq ep n gen).1 M := by
  unfold layL layA
  rw [claimL_abs h h0 h1]
  cases hf : findA s A seq ep with
  | none => exact ⟨rfl, h⟩
  | some i =>
    obtain ⟨f1, f2, f3, f4⟩ := (findA_some h h0 h1).1 hf
    obtain ⟨e, he, hr⟩ := find_ent h f3
    simp only [Option.map_some, hr, he, Option.getD_some]
    exact ⟨trivial, abs_set h i _ f2 f3 (.inr rfl)⟩
def readyA (s : Int) (A : AL) (seq ep : Int) : Bool :=
  match findA s A seq ep with
  | some i => decide (((A.q[i]?).getD ent0).is = 2) && decide (i = A.r - A.h)
  | none => false
theorem ready_abs {s : Int} {A : AL} {L : Lane} {M : Pasts} (h : Abs s A L M) {seq ep : Int} (h0 : 0 ≤ seq) (h1 : seq < 18446744073709551616) : readyL L seq ep = readyA s A seq ep := by
  have hq := h.qlen; have hr := h.hr; have ht := h.rt; have htop := h.top
  unfold readyL readyA
  rw [claimL_abs h h0 h1]
  cases hf : findA s A seq ep with
  | none => rfl
  | some i =>
    obtain ⟨f1, f2, f3, f4⟩ := (findA_some h h0 h1).1 hf
    obtain ⟨e, he, hr⟩ := find_ent h f3
    simp only [Option.map_some, hr, he, Option.getD_some]
    congr 1
    rw [h.ready, f4]
    apply decide_eq_decide.2
    constructor
    · intro e'; have := sq_inj (by omega) (by omega) e'; omega
    · rintro rfl; congr 1; omega
def pubA (s : Int) (A : AL) (seq ep tick step : Int) : AL × Int :=
  match findA s A seq ep with
  | some i =>
    if ((A.q[i]?).getD ent0).is = 2 then
      (if i = A.r - A.h then ({ A with q := A.q.set i { (A.q[i]?).getD ent0 with is := 3, tick := tick, step := step }, r := A.r + 1 }, 0) else (A, 83))
    else (A, 82)
  | none => (A, 82)
theorem pub_abs {s : Int} {A : AL} {L : Lane} {M : Pasts} (h : Abs s A L M) {seq ep : Int} (tick step : Int) (h0 : 0 ≤ seq) (h1 : seq < 18446744073709551616) :
    (pubL L seq ep tick step).2 = (pubA s A seq ep tick step).2 ∧ Abs s (pubA s A seq ep tick step).1 (pubL L seq ep tick step).1 M := by
  have hq := h.qlen; have hhr := h.hr; have ht := h.rt; have htop := h.top
  unfold pubL pubA
  rw [claimL_abs h h0 h1]
  cases hf : findA s A seq ep with
  | none => exact ⟨rfl, h⟩
  | some i =>
    obtain ⟨f1, f2, f3, f4⟩ := (findA_some h h0 h1).1 hf
    obtain ⟨e, he, hr⟩ := find_ent h f3
    simp only [Option.map_some, hr, he, Option.getD_some]
    by_cases g1 : e.is = 2
    · rw [if_pos g1, if_pos g1]
      have hiff : seq = L.ready ↔ i = A.r - A.h := by
        rw [h.ready, f4]
        constructor
        · intro e'; have := sq_inj (by omega) (by omega) e'; omega
        · rintro rfl; congr 1; omega
      by_cases g2 : i = A.r - A.h
      · rw [if_pos (hiff.2 g2), if_pos g2]
        refine ⟨rfl, ?_⟩
        refine { h with hr := ?_, rt := ?_, ready := ?_, left := ?_, room := ?_, qlen := ?_, rlen := ?_, ring := ?_, pub := ?_, claimed := ?_ }
        · show A.h ≤ A.r + 1; omega
        · show A.r + 1 ≤ A.t; omega
        · show IntKind.u64.wrap (L.ready + 1) = sq s (A.r + 1); rw [h.ready, sq_succ]
        · simpa using h.left
        · simpa using h.room
        · simpa using h.qlen
        · simpa using h.rlen
        · exact ring_put (f := fun j => idx s L.size (A.h + j)) h.ring i _ (h.idx_ring _) (fun j hj hne => h.ne (by omega) (by omega) (by omega) (by omega) (.inr ⟨by omega, by omega⟩) (by omega))
        · intro j x hj hlt
          have hj' : (A.q.set i { e with is := 3, tick := tick, step := step })[j]? = some x := hj
          have hlt' : j < A.r + 1 - A.h := hlt
          by_cases hij : j = i
          · subst hij
            rw [List.getElem?_set_self f3] at hj'
            simp at hj'; rw [← hj']
          · rw [List.getElem?_set_ne (by omega)] at hj'
            exact h.pub j x hj' (by omega)
        · intro j x hj hlt
          have hj' : (A.q.set i { e with is := 3, tick := tick, step := step })[j]? = some x := hj
          have hlt' : A.r + 1 - A.h ≤ j := hlt
          rw [List.getElem?_set_ne (by omega)] at hj'
          exact h.claimed j x hj' (by omega)
      · rw [if_neg (fun e' => g2 (hiff.1 e')), if_neg g2]
        exact ⟨rfl, h⟩
    · rw [if_neg g1, if_neg g1]
      exact ⟨rfl, h⟩
def firstA (s : Int) (A : AL) : Int × Int × Int × Int × Bool :=
  if A.h = A.r then (0, 0, 0, 0, false) else (((A.q[0]?).getD ent0).tick, ((A.q[0]?).getD ent0).step, sq s A.h, A.epoch, true)
theorem q0_abs {s : Int} {A : AL} {L : Lane} {M : Pasts} (h : Abs s A L M) (hne : A.h ≠ A.r) : ∃ e q', A.q = e :: q' ∧ entAt L L.head = e ∧ e.is = 3 := by
  have hq := h.qlen; have hhr := h.hr; have ht := h.rt
  cases hA : A.q with
  | nil => rw [hA] at hq; simp at hq; omega
  | cons e q' =>
    have h0 : A.q[0]? = some e := by rw [hA]; rfl
    exact ⟨e, q', rfl, h.ent h0 h.head, h.pub 0 e h0 (by omega)⟩
theorem headready {s : Int} {A : AL} {L : Lane} {M : Pasts} (h : Abs s A L M) : L.head = L.ready ↔ A.h = A.r := by
  have hhr := h.hr; have ht := h.rt; have htop := h.top
  rw [h.head, h.ready]
  exact ⟨fun e => sq_inj (by omega) (by omega) e, fun e => by rw [e]⟩
theorem first_abs {s : Int} {A : AL} {L : Lane} {M : Pasts} (h : Abs s A L M) : firstS L = firstA s A := by
  unfold firstS firstA
  by_cases hb : A.h = A.r
  · rw [if_pos hb, if_pos ((headready h).2 hb)]
  · rw [if_neg hb, if_neg (fun e => hb ((headready h).1 e))]
    obtain ⟨e, q', hA, he, -⟩ := q0_abs h hb
    rw [he, hA, h.head, h.epoch]
    rfl
def takeA (s : Int) (A : AL) : (Int × Int × Int × Int × Int) × AL :=
  if A.h = A.r then ((0, 0, 0, 0, 82), A)
  else ((((A.q[0]?).getD ent0).n, ((A.q[0]?).getD ent0).gen, sq s A.h, A.epoch, 0), { A with q := A.q.tail, h := A.h + 1, old := A.old ++ [(A.h, ⟨((A.q[0]?).getD ent0).n, ((A.q[0]?).getD ent0).gen, false⟩)] })
theorem old_ne {s : Int} {A : AL} {L : Lane} {M : Pasts} (h : Abs s A L M) : ∀ p ∈ M, p.1 ≠ sq s A.h := by
  have hhr := h.hr; have ht := h.rt; have htop := h.top
  rw [h.map]
  intro p hp
  obtain ⟨x, hx, rfl⟩ := List.mem_map.1 hp
  have := h.low x hx
  intro e
  have := sq_inj (by omega) (by omega) e
  omega
theorem take_abs {s : Int} {A : AL} {L : Lane} {M : Pasts} (h : Abs s A L M) :
    (takeS L M).1 = (takeA s A).1 ∧ Abs s (takeA s A).2 (takeS L M).2.1 (takeS L M).2.2 := by
  have hq := h.qlen; have hhr := h.hr; have ht := h.rt; have htop := h.top; have hbh := h.bh
  unfold takeS takeA
  by_cases hb : A.h = A.r
  · rw [if_pos hb, if_pos ((headready h).2 hb)]
    exact ⟨rfl, h⟩
  · rw [if_neg hb, if_neg (fun e => hb ((headready h).1 e))]
    obtain ⟨e, q', hA, he, -⟩ := q0_abs h hb
    rw [he, hA, h.head, h.epoch]
    have hlen : A.q.length = q'.length + 1 := by rw [hA]; rfl
    refine ⟨rfl, ?_⟩
    refine { h with bh := ?_, hr := ?_, head := ?_, left := ?_, room := ?_, qlen := ?_, rlen := ?_, ring := ?_, pub := ?_, claimed := ?_, map := ?_, sorted := ?_, low := ?_ }
    · show A.base ≤ A.h + 1; omega
    · show A.h + 1 ≤ A.r; omega
    · show IntKind.u64.wrap (L.head + 1) = sq s (A.h + 1); rw [h.head, sq_succ]
    · have := h.left; rw [hlen] at this; simp only [List.tail_cons, List.length_append, List.length_singleton]; show L.left = _; rw [this]; omega
    · have := h.room; rw [hlen] at this; simp only [List.tail_cons, List.length_append, List.length_singleton]; show _ ≤ A.c; omega
    · simp only [List.tail_cons]; omega
    · show (L.ring.set _ _).length = 64; rw [List.length_set]; exact h.rlen
    · intro j x hj
      have hj' : q'[j]? = some x := hj
      have hjl : j < q'.length := (List.getElem?_eq_some_iff.1 hj').1
      have e1 : (L.head % L.size).toNat = idx s L.size A.h := by rw [h.head]; rfl
      show (L.ring.set (L.head % L.size).toNat ent0)[idx s L.size (A.h + 1 + j)]? = some x
      rw [e1, List.getElem?_set_ne (h.ne (by omega) (by omega) (by omega) (by omega) (.inr ⟨by omega, by omega⟩) (by omega))]
      rw [show A.h + 1 + j = A.h + (j + 1) by omega]
      exact h.ring (j + 1) x (by rw [hA]; exact hj')
    · intro j x hj hlt
      have hj' : q'[j]? = some x := hj
      have hlt' : j < A.r - (A.h + 1) := hlt
      exact h.pub (j + 1) x (by rw [hA]; exact hj') (by omega)
    · intro j x hj hlt
      have hj' : q'[j]? = some x := hj
      have hlt' : A.r - (A.h + 1) ≤ j := hlt
      exact h.claimed (j + 1) x (by rw [hA]; exact hj') (by omega)
    · show mput M (sq s A.h) _ = _
      rw [mput_none (old_ne h), h.map, List.map_append]
      rfl
    · show ((A.old ++ [_]).map (fun p : Nat × Past => p.1)).Pairwise (· < ·)
      rw [List.map_append, List.pairwise_append]
      refine ⟨h.sorted, by simp, ?_⟩
      intro x hx y hy
      obtain ⟨p, hp, rfl⟩ := List.mem_map.1 hx
      have h2 := (h.low p hp).2
      simp at hy; subst hy
      exact h2
    · intro p hp
      rcases List.mem_append.1 hp with hp | hp
      · have := h.low p hp; exact ⟨this.1, by show p.1 < A.h + 1; omega⟩
      · simp at hp; subst hp; exact ⟨hbh, by show A.h < A.h + 1; omega⟩
/-- Where a number stands among those that were taken. -/
def oldAt (s : Int) : List (Nat × Past) → Int → Option Nat
  | [], _ => none
  | p :: l, seq => if sq s p.1 = seq then some 0 else (oldAt s l seq).map (· + 1)
theorem oldAt_some {s : Int} : ∀ {l : List (Nat × Past)} {seq : Int} {j : Nat}, oldAt s l seq = some j → ∃ p, l[j]? = some p ∧ sq s p.1 = seq
  | [], _, _, h => by simp [oldAt] at h
  | p :: l, seq, j, h => by
    unfold oldAt at h
    split at h
    · rename_i hp; simp at h; subst h; exact ⟨p, rfl, hp⟩
    · obtain ⟨k, hk, rfl⟩ := Option.map_eq_some_iff.1 h
      obtain ⟨x, hx, hs⟩ := oldAt_some hk
      exact ⟨x, by simpa using hx, hs⟩
theorem oldAt_none {s : Int} : ∀ {l : List (Nat × Past)} {seq : Int}, oldAt s l seq = none → ∀ p ∈ l, sq s p.1 ≠ seq
  | [], _, _, p, hp => by simp at hp
  | x :: l, seq, h, p, hp => by
    unfold oldAt at h
    split at h
    · cases h
    · rename_i hx
      have h' := Option.map_eq_none_iff.1 h
      rcases List.mem_cons.1 hp with rfl | hp
      · exact hx
      · exact oldAt_none h' p hp
def retireA (s : Int) (A : AL) (seq ep : Int) : (Int × Int × Bool × Int) × AL :=
  if ep ≠ A.epoch then ((0, 0, false, 0), A)
  else match oldAt s A.old seq with
    | none => ((0, 0, false, 82), A)
    | some j =>
      match A.old[j]? with
      | none => ((0, 0, false, 82), A)
      | some p =>
        if p.2.held = true then ((0, 0, false, 82), A)
        else if A.two = true then ((p.2.n, p.2.gen, true, 0), { A with old := A.old.eraseIdx j })
        else ((0, 0, false, 0), { A with old := A.old.set j (p.1, { p.2 with held := true }) })
theorem map_nodup {s : Int} {A : AL} {L : Lane} {M : Pasts} (h : Abs s A L M) : (M.map (·.1)).Nodup := by
  have hhr := h.hr; have ht := h.rt; have htop := h.top
  rw [h.map, List.map_map]
  have h1 := h.sorted
  rw [List.pairwise_map] at h1
  unfold List.Nodup
  rw [List.pairwise_map]
  refine h1.imp_of_mem fun {a b} ha hb hlt e => ?_
  have h3 := h.low a ha
  have h4 := h.low b hb
  have := sq_inj (s := s) (by omega) (by omega) e
  omega
theorem retire_abs {s : Int} {A : AL} {L : Lane} {M : Pasts} (h : Abs s A L M) (seq ep : Int) :
    (retireL L M seq ep).1 = (retireA s A seq ep).1 ∧ Abs s (retireA s A seq ep).2 (retireL L M seq ep).2.1 (retireL L M seq ep).2.2 := by
  have hnd := map_nodup h
  have hc1 := h.c1
  unfold retireL retireA
  by_cases he : ep = A.epoch
  · rw [if_neg (by rw [h.epoch]; simpa using he), if_neg (by simpa using he)]
    cases hj : oldAt s A.old seq with
    | none =>
      have hm : mget M seq = none := by
        rw [h.map]
        refine mget_none fun p hp => ?_
        obtain ⟨x, hx, rfl⟩ := List.mem_map.1 hp
        exact oldAt_none hj x hx
      rw [hm]
      exact ⟨rfl, h⟩
    | some j =>
      obtain ⟨p, hp, hs⟩ := oldAt_some hj
      have hMj : M[j]? = some (seq, p.2) := by rw [h.map, List.getElem?_map, hp]; simp [hs]
      obtain ⟨m1, m2, m3⟩ := m_at hnd hMj rfl
      have hjl : j < A.old.length := (List.getElem?_eq_some_iff.1 hp).1
      rw [m1]
      simp only [hp]
      by_cases hh : p.2.held = true
      · rw [if_pos hh, if_pos hh]
        exact ⟨rfl, h⟩
      · rw [if_neg hh, if_neg hh]
        have hpm : p ∈ A.old := List.mem_of_getElem? hp
        by_cases ht : A.two = true
        · rw [if_pos (by rw [h.two]; exact ht), if_pos ht]
          refine ⟨rfl, ?_⟩
          have hle : (A.old.eraseIdx j).length + 1 = A.old.length := by rw [List.length_eraseIdx_of_lt hjl]; omega
          refine { h with left := ?_, room := ?_, map := ?_, sorted := ?_, low := ?_ }
          · show wrap64 (L.left + 1) = (A.c : Int) - ((A.q.length + (A.old.eraseIdx j).length : Nat) : Int)
            have := h.left; have := h.room
            unfold wrap64; omega
          · show A.q.length + (A.old.eraseIdx j).length ≤ A.c
            have := h.room; omega
          · show mdel M seq = (A.old.eraseIdx j).map _
            rw [m3, h.map, Go.ChangeMaps.map_eraseIdx]
          · show ((A.old.eraseIdx j).map (·.1)).Pairwise (· < ·)
            exact h.sorted.sublist ((List.eraseIdx_sublist _ _).map _)
          · intro x hx
            exact h.low x ((List.eraseIdx_sublist _ _).mem hx)
        · rw [if_neg (by rw [h.two]; exact ht), if_neg ht]
          refine ⟨rfl, ?_⟩
          have hkeys : (A.old.set j (p.1, { p.2 with held := true })).map (·.1) = A.old.map (·.1) := by
            apply List.ext_getElem?
            intro i
            rw [List.getElem?_map, List.getElem?_map]
            by_cases hij : i = j
            · subst hij
              rw [List.getElem?_set_self hjl, hp]; rfl
            · rw [List.getElem?_set_ne (Ne.symm hij)]
          refine { h with left := ?_, room := ?_, map := ?_, sorted := ?_, low := ?_ }
          · simpa using h.left
          · simpa using h.room
          · show mput M seq _ = (A.old.set j _).map _
            rw [m2, h.map, List.map_set, hs]
          · show ((A.old.set j (p.1, { p.2 with held := true })).map (·.1)).Pairwise (· < ·)
            rw [hkeys]; exact h.sorted
          · intro x hx
            have hx1 : x.1 ∈ (A.old.set j (p.1, { p.2 with held := true })).map (·.1) := List.mem_map.2 ⟨x, hx, rfl⟩
            rw [hkeys] at hx1
            obtain ⟨y, hy, hyx⟩ := List.mem_map.1 hx1
            have := h.low y hy
            rw [← hyx]; exact this
  · rw [if_pos (by rw [h.epoch]; exact he), if_pos he]
    exact ⟨rfl, h⟩
def oTaken (l : List (Nat × Past)) : Nat := (l.filter (fun p => !p.2.held)).length
def oHeld (l : List (Nat × Past)) : Nat := (l.filter (fun p => p.2.held)).length
def stateA (A : AL) : Value := .agg #[.int .i64 ((A.c : Int) - ((A.q.length + A.old.length : Nat) : Int)), .int .i64 ((A.t - A.r : Nat) : Int), .int .i64 ((A.r - A.h : Nat) : Int), .int .i64 (oTaken A.old), .int .i64 (oHeld A.old), .int .u64 A.epoch]
theorem state_abs {s : Int} {A : AL} {L : Lane} {M : Pasts} (h : Abs s A L M) : stateV L M = stateA A := by
  have hhr := h.hr; have ht := h.rt; have htop := h.top
  have e1 : diffL L.tail L.ready = ((A.t - A.r : Nat) : Int) := by
    unfold diffL; rw [h.tail, h.ready, sq_sub (by omega) ht]; simp [IntKind.wrap, IntKind.bits, IntKind.signed]; omega
  have e2 : diffL L.ready L.head = ((A.r - A.h : Nat) : Int) := by
    unfold diffL; rw [h.ready, h.head, sq_sub (by omega) hhr]; simp [IntKind.wrap, IntKind.bits, IntKind.signed]; omega
  have e3 : nTaken M = oTaken A.old := by
    unfold nTaken oTaken; rw [h.map, List.filter_map, List.length_map]; rfl
  have e4 : nHeld M = oHeld A.old := by
    unfold nHeld oHeld; rw [h.map, List.filter_map, List.length_map]; rfl
  unfold stateV stateA
  rw [h.left, e1, e2, e3, e4, h.epoch]
theorem old_len {s : Int} {A : AL} {L : Lane} {M : Pasts} (h : Abs s A L M) : M.length = A.old.length := by rw [h.map, List.length_map]
/-- The lane behind a reset. -/
def resetNew (L : Lane) : Lane := { L with ring := List.replicate 64 ent0, base := L.tail, head := L.tail, left := L.credit, epoch := IntKind.u64.wrap (L.epoch + 1) }
def resetA (A : AL) : AL := { A with base := A.t, h := A.t, epoch := IntKind.u64.wrap (A.epoch + 1), old := [], q := [] }
theorem reset_abs {s : Int} {A : AL} {L : Lane} {M : Pasts} (h : Abs s A L M) (hr : A.r = A.t) : Abs s (resetA A) (resetNew L) [] := by
  have hhr := h.hr; have ht := h.rt; have htop := h.top
  have he := u64_in (A.epoch + 1)
  refine { h with bh := Nat.le_refl _, hr := ?_, base := h.tail, head := h.tail, epoch := ?_, ep0 := he.1, ep1 := he.2, left := ?_, room := ?_, qlen := ?_, rlen := ?_, ring := ?_, pub := ?_, claimed := ?_, map := rfl, sorted := ?_, low := ?_ }
  · show A.t ≤ A.r; omega
  · show IntKind.u64.wrap (L.epoch + 1) = IntKind.u64.wrap (A.epoch + 1); rw [h.epoch]
  · show L.credit = (A.c : Int) - 0; rw [h.credit]; omega
  · show 0 + 0 ≤ A.c; omega
  · show 0 + A.t = A.t; omega
  · show (List.replicate 64 ent0).length = 64; simp
  · intro j e hj; cases hj
  · intro j e hj; cases hj
  · intro j e hj; cases hj
  · exact List.Pairwise.nil
  · intro p hp; cases hp
theorem new_abs (c : Nat) (two : Bool) (s : Int) (m : Nat) (h0 : 1 ≤ c) (h1 : c ≤ 64) (s0 : 0 ≤ s) (s1 : s < 18446744073709551616) : Abs s ⟨c, two, 0, 0, 0, 0, 0, [], []⟩ (newL c two s m) [] := by
  have e0 : s = sq s 0 := by unfold sq; omega
  refine { c0 := h0, c1 := h1, credit := rfl, two := rfl, pow := ?_, size := ?_, bh := Nat.le_refl _, hr := Nat.le_refl _, rt := Nat.le_refl _, top := ?_, base := e0, head := e0, ready := e0, tail := e0, epoch := rfl, ep0 := ?_, ep1 := ?_, left := ?_, room := ?_, qlen := rfl, rlen := ?_, ring := ?_, pub := ?_, claimed := ?_, map := rfl, sorted := List.Pairwise.nil, low := ?_ }
  · exact (ok_new c two s m (by omega) (by omega) s0 s1).pow
  · show (c : Int) ≤ sizeL c
    unfold sizeL; repeat' split
    all_goals omega
  · show 0 ≤ 1000; omega
  · show (0 : Int) ≤ 0; omega
  · show (0 : Int) < _; omega
  · show (c : Int) = (c : Int) - 0; omega
  · show 0 + 0 ≤ c; omega
  · simp [newL]
  · intro j e hj; cases hj
  · intro j e hj; cases hj
  · intro j e hj; cases hj
  · intro p hp; cases hp
end Go.Proofs.Ytekjhfhlbkcklaa.L
namespace Go.Proofs.Ytekjhfhlbkcklaa.L
open Go.RowKit Go.Proofs.Ytekjhfhlbkcklaa.K Go.Proofs.Ytekjhfhlbkcklaa.PA Go.Proofs.YtekjhfhlbkcklaaW.PrintWords

/-- Blocks b and m hold a lane, and its map, that are the plain machine A. -/
def LS (s : Int) (w : World) (b m : Nat) (A : AL) : Prop := ∃ L M, L.m = m ∧ St w b L M ∧ Abs s A L M
theorem not_two {b m g : Nat} (h1 : g ≠ b) (h2 : g ≠ m) : ¬ (g = b ∨ g = m) := by rintro (h | h); exact h1 h; exact h2 h
namespace LS
variable {s : Int} {w w1 : World} {b m : Nat} {A : AL}
theorem chg {S : Nat → Prop} (h : LS s w b m A) (c : Chg S w w1) (h1 : ¬ S b) (h2 : ¬ S m) : LS s w1 b m A := by
  obtain ⟨L, M, e, hs, ha⟩ := h
  exact ⟨L, M, e, hs.chg c h1 (by rw [e]; exact h2), ha⟩
theorem below (h : LS s w b m A) (hb : Below w.heap.size w w1) : LS s w1 b m A := h.chg (Chg.below hb (fun _ => False)) (fun f => f) (fun f => f)
theorem alloc (h : LS s w b m A) (o : Obj) : LS s (w.alloc o) b m A := h.below (below_alloc (Below.refl _ _) o)
theorem drewN (h : LS s w b m A) (n : Nat) : LS s (w.drewN n) b m A := h.below (pw_below_drewN (Below.refl _ _) n)
theorem drew (h : LS s w b m A) : LS s w.drew b m A := h.below (below_drew (Below.refl _ _))
theorem other (h : LS s w b m A) {p : Addr} (h1 : p.block ≠ b) (h2 : p.block ≠ m) (v : Value) : LS s (w.setCell p v) b m A :=
  h.chg ((Chg.refl (fun k => k = p.block) w).setCell p v (fun _ => rfl)) (fun e => h1 e.symm) (fun e => h2 e.symm)
theorem lt (h : LS s w b m A) : b < w.heap.size := by obtain ⟨L, M, e, hs, ha⟩ := h; exact hs.lt
theorem mlt (h : LS s w b m A) : m < w.heap.size := by obtain ⟨L, M, e, hs, ha⟩ := h; rw [← e]; exact hs.mlt
theorem ne (h : LS s w b m A) : m ≠ b := by obtain ⟨L, M, e, hs, ha⟩ := h; rw [← e]; exact hs.ne
theorem bounds (h : LS s w b m A) : 1 ≤ A.c ∧ A.c ≤ 64 ∧ A.base ≤ A.h ∧ A.h ≤ A.r ∧ A.r ≤ A.t ∧ A.t ≤ 1000 ∧ A.q.length + A.old.length ≤ A.c ∧ A.q.length + A.h = A.t := by
  obtain ⟨L, M, e, hs, ha⟩ := h
  exact ⟨ha.c0, ha.c1, ha.bh, ha.hr, ha.rt, ha.top, ha.room, ha.qlen⟩
theorem epoch (h : LS s w b m A) : 0 ≤ A.epoch ∧ A.epoch < 18446744073709551616 := by
  obtain ⟨L, M, e, hs, ha⟩ := h
  exact ⟨ha.ep0, ha.ep1⟩
theorem find (h : LS s w b m A) {seq ep : Int} (h0 : 0 ≤ seq) (h1 : seq < 18446744073709551616) {i : Nat} : findA s A seq ep = some i ↔ ep = A.epoch ∧ A.r - A.h ≤ i ∧ i < A.q.length ∧ seq = sq s (A.h + i) := by
  obtain ⟨L, M, e, hs, ha⟩ := h
  exact findA_some ha h0 h1
theorem kinds (h : LS s w b m A) (j : Nat) (e : Ent) (he : A.q[j]? = some e) : (j < A.r - A.h → e.is = 3) ∧ (A.r - A.h ≤ j → e.is = 1 ∨ e.is = 2) := by
  obtain ⟨L, M, e', hs, ha⟩ := h
  exact ⟨ha.pub j e he, ha.claimed j e he⟩
theorem low (h : LS s w b m A) : ∀ p ∈ A.old, A.base ≤ p.1 ∧ p.1 < A.h := by
  obtain ⟨L, M, e', hs, ha⟩ := h
  exact ha.low
theorem sorted (h : LS s w b m A) : (A.old.map (·.1)).Pairwise (· < ·) := by
  obtain ⟨L, M, e', hs, ha⟩ := h
  exact ha.sorted
end LS
/-- A world that parts from another in two blocks alone. -/
abbrev TwoB (b m : Nat) (w w' : World) : Prop := Chg (fun k => k = b ∨ k = m) w w'
theorem twoB_of {b m : Nat} {L : Lane} {w w' : World} (h : L.m = m) (hc : Two b L w w') : TwoB b m w w' := by subst h; exact hc
theorem new_ls (w : World) (c : Nat) (two : Bool) (start : Int) (h0 : 1 ≤ c) (h1 : c ≤ 64) (s0 : 0 ≤ start) (s1 : start < 18446744073709551616) :
    Calls Try.prog 10 #[.int .i64 c, .bool two, .int .u64 start] w fun e_ w' => ∃ b m, e_ = .returned (.tuple #[.pointer (some ⟨b, 0, none⟩), .int .i64 0]) ∧ LS start w' b m ⟨c, two, 0, 0, 0, 0, 0, [], []⟩ ∧ w.heap.size ≤ b ∧ w.heap.size ≤ m ∧ Below w.heap.size w w' :=
  (new_st w c two start (by omega) (by omega) s0 s1).mono fun e w' ⟨b, m, he, hs, h3, h4, h5⟩ => ⟨b, m, he, ⟨_, _, rfl, hs, new_abs c two start m h0 h1 s0 s1⟩, h3, h4, h5⟩
section
variable (s : Int) (w : World) (b m : Nat) (A : AL)
theorem claim_ls (h : LS s w b m A) (ht : A.t < 1000) :
    Calls Try.prog 15 #[.pointer (some ⟨b, 0, none⟩)] w fun e_ w' => e_ = .returned (.tuple #[.agg #[.int .u64 (claimA s A).1.1, .int .u64 (claimA s A).1.2.1], .int .i64 (claimA s A).1.2.2]) ∧ LS s w' b m (claimA s A).2 ∧ TwoB b m w w' := by
  obtain ⟨L, M, e, hs, ha⟩ := h
  obtain ⟨h1, h2⟩ := claim_abs ha ht
  rw [← h1]
  refine (claim_st w b L M hs).mono fun e_ w' ⟨he, hs', hc⟩ => ⟨he, ⟨_, _, ?_, hs', h2⟩, twoB_of e hc⟩
  rw [← e]; unfold claimS; split <;> rfl
theorem lay_ls (h : LS s w b m A) (seq ep n gen : Int) (h0 : 0 ≤ seq) (h1 : seq < 18446744073709551616) :
    Calls Try.prog 16 #[.pointer (some ⟨b, 0, none⟩), .agg #[.int .u64 seq, .int .u64 ep], .agg #[.int .i64 n, .int .u64 gen]] w fun e_ w' => e_ = .returned (.int .i64 (layA s A seq ep n gen).2) ∧ LS s w' b m (layA s A seq ep n gen).1 ∧ TwoB b m w w' := by
  obtain ⟨L, M, e, hs, ha⟩ := h
  obtain ⟨g1, g2⟩ := lay_abs (ep := ep) ha n gen h0 h1
  rw [← g1]
  exact (lay_st w b L M hs seq ep n gen h0 h1).mono fun e_ w' ⟨he, hs', hc⟩ => ⟨he, ⟨_, _, by rw [(layL_m L seq ep n gen).1, e], hs', g2⟩, twoB_of e hc⟩
theorem publish_ls (h : LS s w b m A) (seq ep tick step : Int) (h0 : 0 ≤ seq) (h1 : seq < 18446744073709551616) :
    Calls Try.prog 20 #[.pointer (some ⟨b, 0, none⟩), .agg #[.int .u64 seq, .int .u64 ep], .agg #[.int .i64 tick, .int .i64 step]] w fun e_ w' => e_ = .returned (.int .i64 (pubA s A seq ep tick step).2) ∧ LS s w' b m (pubA s A seq ep tick step).1 ∧ TwoB b m w w' := by
  obtain ⟨L, M, e, hs, ha⟩ := h
  obtain ⟨g1, g2⟩ := pub_abs (ep := ep) ha tick step h0 h1
  rw [← g1]
  exact (publish_st w b L M hs seq ep tick step h0 h1).mono fun e_ w' ⟨he, hs', hc⟩ => ⟨he, ⟨_, _, by rw [(pubL_m L seq ep tick step).1, e], hs', g2⟩, twoB_of e hc⟩
theorem ready_ls (h : LS s w b m A) (seq ep : Int) (h0 : 0 ≤ seq) (h1 : seq < 18446744073709551616) :
    Calls Try.prog 21 #[.pointer (some ⟨b, 0, none⟩), .agg #[.int .u64 seq, .int .u64 ep]] w fun e_ w' => e_ = .returned (.bool (readyA s A seq ep)) ∧ LS s w' b m A ∧ Below w.heap.size w w' := by
  have hl := h
  obtain ⟨L, M, e, hs, ha⟩ := h
  rw [← ready_abs ha h0 h1]
  exact (ready_st w b L M hs seq ep h0 h1).mono fun e_ w' ⟨he, hs', hc⟩ => ⟨he, hl.below hc, hc⟩
theorem first_ls (h : LS s w b m A) :
    Calls Try.prog 23 #[.pointer (some ⟨b, 0, none⟩)] w fun e_ w' => e_ = .returned (.tuple #[.agg #[.int .i64 (firstA s A).1, .int .i64 (firstA s A).2.1], .agg #[.int .u64 (firstA s A).2.2.1, .int .u64 (firstA s A).2.2.2.1], .bool (firstA s A).2.2.2.2]) ∧ LS s w' b m A ∧ Below w.heap.size w w' := by
  have hl := h
  obtain ⟨L, M, e, hs, ha⟩ := h
  rw [← first_abs ha]
  exact (first_st w b L M hs).mono fun e_ w' ⟨he, hs', hc⟩ => ⟨he, hl.below hc, hc⟩
theorem take_ls (h : LS s w b m A) :
    Calls Try.prog 17 #[.pointer (some ⟨b, 0, none⟩)] w fun e_ w' => e_ = .returned (.tuple #[.agg #[.int .i64 (takeA s A).1.1, .int .u64 (takeA s A).1.2.1], .agg #[.int .u64 (takeA s A).1.2.2.1, .int .u64 (takeA s A).1.2.2.2.1], .int .i64 (takeA s A).1.2.2.2.2]) ∧ LS s w' b m (takeA s A).2 ∧ TwoB b m w w' := by
  obtain ⟨L, M, e, hs, ha⟩ := h
  obtain ⟨g1, g2⟩ := take_abs ha
  rw [← g1]
  refine (take_st w b L M hs).mono fun e_ w' ⟨he, hs', hc⟩ => ⟨he, ⟨_, _, ?_, hs', g2⟩, twoB_of e hc⟩
  rw [← e]; unfold takeS; split <;> rfl
def retV (r : Int × Int × Bool × Int) : Value := .tuple #[.agg #[.int .i64 r.1, .int .u64 r.2.1], .bool r.2.2.1, .int .i64 r.2.2.2]
theorem retire_ls (h : LS s w b m A) (seq ep : Int) :
    Calls Try.prog 19 #[.pointer (some ⟨b, 0, none⟩), .agg #[.int .u64 seq, .int .u64 ep]] w fun e_ w' => e_ = .returned (.tuple #[.agg #[.int .i64 (retireA s A seq ep).1.1, .int .u64 (retireA s A seq ep).1.2.1], .bool (retireA s A seq ep).1.2.2.1, .int .i64 (retireA s A seq ep).1.2.2.2]) ∧ LS s w' b m (retireA s A seq ep).2 ∧ TwoB b m w w' := by
  obtain ⟨L, M, e, hs, ha⟩ := h
  obtain ⟨g1, g2⟩ := retire_abs ha seq ep
  rw [← g1]
  exact (retire_st w b L M hs seq ep).mono fun e_ w' ⟨he, hs', hc⟩ => ⟨he, ⟨_, _, by rw [(retireL_m L M seq ep).1, e], hs', g2⟩, twoB_of e hc⟩
theorem state_ls (h : LS s w b m A) :
    Calls Try.prog 13 #[.pointer (some ⟨b, 0, none⟩)] w fun e_ w' => e_ = .returned (stateA A) ∧ LS s w' b m A ∧ Below w.heap.size w w' := by
  have hl := h
  obtain ⟨L, M, e, hs, ha⟩ := h
  rw [← state_abs ha]
  exact (state_st w b L M hs (by rw [old_len ha]; have := ha.room; have := ha.c1; omega)).mono fun e_ w' ⟨he, hs', hc⟩ => ⟨he, hl.below hc, hc⟩
end
end Go.Proofs.Ytekjhfhlbkcklaa.L
namespace Go.Proofs.Ytekjhfhlbkcklaa.L
open Go.RowKit Go.Proofs.Ytekjhfhlbkcklaa.K Go.Proofs.Ytekjhfhlbkcklaa.PA Go.Proofs.YtekjhfhlbkcklaaW.PrintWords

theorem sorted_unique {α : Type} {R : α → α → Prop} : ∀ (l l' : List α), l.Perm l' → l.Pairwise R → l'.Pairwise R → (∀ a ∈ l, ∀ b ∈ l, R a b → R b a → a = b) → l = l'
  | [], l', hp, _, _, _ => by simpa using hp.symm.eq_nil.symm
  | a :: l, [], hp, _, _, _ => by have := hp.length_eq; simp at this
  | a :: l, b :: l', hp, h1, h2, ha => by
    have hab : a = b := by
      rw [List.pairwise_cons] at h1 h2
      have hb : b ∈ a :: l := hp.mem_iff.2 (.head _)
      have ha' : a ∈ b :: l' := hp.mem_iff.1 (.head _)
      rcases List.mem_cons.1 hb with e | hb
      · exact e.symm
      · rcases List.mem_cons.1 ha' with e | ha''
        · exact e
        · exact ha a (.head _) b (.tail _ hb) (h1.1 b hb) (h2.1 a ha'')
    subst hab
    rw [sorted_unique l l' (List.Perm.cons_inv hp) (List.pairwise_cons.1 h1).2 (List.pairwise_cons.1 h2).2 (fun x hx y hy => ha x (.tail _ hx) y (.tail _ hy))]
def oldKeys (s : Int) (A : AL) : List Int := A.old.map (fun p => sq s p.1)
theorem keys_eq {s : Int} {A : AL} {L : Lane} {M : Pasts} (h : Abs s A L M) : M.map (·.1) = oldKeys s A := by rw [h.map, List.map_map]; rfl
theorem dist_eq {s : Int} {A : AL} {L : Lane} {M : Pasts} (h : Abs s A L M) {i : Nat} (hi : A.base ≤ i) (hi2 : i ≤ A.t) : IntKind.u64.wrap (sq s i - L.base) = ((i - A.base : Nat) : Int) := by
  have := h.top
  rw [h.base, sq_sub (by omega) hi]
theorem keys_sorted {s : Int} {A : AL} {L : Lane} {M : Pasts} (h : Abs s A L M) {ys : List Int} (hp : ys.Perm (M.map (·.1))) (hs : SortedB L.base ys) : ys = oldKeys s A := by
  have hr := h.hr; have ht := h.rt; have htop := h.top
  rw [keys_eq h] at hp
  refine sorted_unique ys _ hp hs ?_ ?_
  · show SortedB L.base (oldKeys s A)
    unfold SortedB oldKeys
    have h1 := h.sorted
    rw [List.pairwise_map] at h1 ⊢
    refine h1.imp_of_mem fun {a b} ha hb hlt => ?_
    have h3 := h.low a ha
    have h4 := h.low b hb
    unfold ltB
    rw [dist_eq h h4.1 (by omega), dist_eq h h3.1 (by omega)]
    simp; omega
  · intro x hx y hy h1 h2
    obtain ⟨a, ha, rfl⟩ := List.mem_map.1 (hp.mem_iff.1 hx)
    obtain ⟨b, hb, rfl⟩ := List.mem_map.1 (hp.mem_iff.1 hy)
    have h3 := h.low a ha
    have h4 := h.low b hb
    unfold ltB at h1 h2
    rw [dist_eq h h4.1 (by omega), dist_eq h h3.1 (by omega)] at h1 h2
    simp at h1 h2
    have : a.1 = b.1 := by omega
    rw [this]
/-- The slots that a reset tells. -/
def resetRows (A : AL) : List (Int × Int) := A.old.map (fun p => (p.2.n, p.2.gen)) ++ A.q.map (fun e => (e.n, e.gen))
theorem rows_eq {s : Int} {A : AL} {L : Lane} {M : Pasts} (h : Abs s A L M) (hrt : A.r = A.t) : (oldKeys s A).map (slotOf M) ++ (List.range (A.r - A.h)).map (entSlot L) = resetRows A := by
  have hr := h.hr; have ht := h.rt; have htop := h.top; have hq := h.qlen
  unfold resetRows
  congr 1
  · rw [oldKeys, List.map_map]
    refine List.map_congr_left fun p hp => ?_
    have hm : mget M (sq s p.1) = some p.2 := mem_mget (map_nodup h) (by rw [h.map]; exact List.mem_map.2 ⟨p, hp, rfl⟩)
    show slotOf M (sq s p.1) = _
    unfold slotOf
    rw [hm]; rfl
  · apply List.ext_getElem?
    intro i
    by_cases hi : i < A.q.length
    · obtain ⟨e, he⟩ : ∃ e, A.q[i]? = some e := ⟨_, List.getElem?_eq_getElem hi⟩
      rw [List.getElem?_map, List.getElem?_map, he, List.getElem?_range (by omega)]
      have hen : entAt L (IntKind.u64.wrap (L.head + i)) = e := h.ent he (by rw [h.head, wrap_u64]; unfold sq; omega)
      simp only [Option.map_some, entSlot, hen]
    · rw [List.getElem?_eq_none (by simp; omega), List.getElem?_eq_none (by simp; omega)]
section
variable (s : Int) (w : World) (b m : Nat) (A : AL)
theorem reset_no_ls (h : LS s w b m A) (hr : A.r ≠ A.t) :
    Calls Try.prog 18 #[.pointer (some ⟨b, 0, none⟩)] w fun e_ w' => e_ = .returned (.tuple #[.slice none 0 0, .int .i64 84]) ∧ LS s w' b m A ∧ TwoB b m w w' := by
  have hl := h
  obtain ⟨L, M, e, hs, ha⟩ := h
  have := ha.rt; have := ha.top
  exact (reset_no w b L hs.lane hs.ok (by rw [ha.ready, ha.tail]; exact fun e => hr (sq_inj (by omega) (by omega) e))).mono fun e_ w' ⟨he, hb⟩ => ⟨he, hl.below hb, Chg.below hb _⟩
theorem reset_yes_ls (h : LS s w b m A) (hr : A.r = A.t) :
    Calls Try.prog 18 #[.pointer (some ⟨b, 0, none⟩)] w fun e_ w' => ∃ g, e_ = .returned (.tuple #[.slice (some ⟨g, 0, none⟩) (resetRows A).length (resetRows A).length, .int .i64 0]) ∧ Blk w' g (slotCells (resetRows A)) 36 ∧ w.heap.size ≤ g ∧ LS s w' b m (resetA A) ∧ TwoB b m w w' := by
  obtain ⟨L, M, e, hs, ha⟩ := h
  have h1 := ha.hr; have h2 := ha.rt; have h3 := ha.top; have h4 := ha.room; have h5 := ha.c1
  have hd : diffL L.ready L.head = ((A.r - A.h : Nat) : Int) := by
    unfold diffL; rw [ha.ready, ha.head, sq_sub (by omega) h1]; simp [IntKind.wrap, IntKind.bits, IntKind.signed]; omega
  have hql := ha.qlen
  refine (reset_yes w b L M hs.lane hs.ok hs.map hs.ne (by rw [old_len ha, ha.credit]; omega) (by rw [ha.credit]; omega) (by rw [ha.ready, ha.tail, hr]) (A.r - A.h) hd (by omega)).mono ?_
  rintro e_ w' ⟨g, ys, he, hp, hso, hb, hg, hl, hm, hc⟩
  obtain rfl := keys_sorted ha hp hso
  rw [rows_eq ha hr] at hb
  have hlen : (oldKeys s A).length + (A.r - A.h) = (resetRows A).length := by rw [← rows_eq ha hr]; simp
  rw [hlen] at he
  refine ⟨g, he, hb, hg, ⟨_, _, ?_, ⟨hl, hm, hs.ne, ?_⟩, reset_abs ha hr⟩, twoB_of e hc⟩
  · exact e
  · have := hs.ok
    exact ⟨this.credit, this.pow, this.tail0, this.tail1, this.tail0, this.tail1⟩
/-- What a reset tells, and makes. -/
def resetE (A : AL) : Int := if A.r = A.t then 0 else 84
def resetS (A : AL) : AL := if A.r = A.t then resetA A else A
theorem reset_ls (h : LS s w b m A) :
    Calls Try.prog 18 #[.pointer (some ⟨b, 0, none⟩)] w fun e_ w' => ∃ (a : Option Addr) (n : Nat), e_ = .returned (.tuple #[.slice a n n, .int .i64 (resetE A)]) ∧ LS s w' b m (resetS A) ∧ TwoB b m w w' := by
  unfold resetE resetS
  by_cases hr : A.r = A.t
  · rw [if_pos hr, if_pos hr]
    exact (reset_yes_ls s w b m A h hr).mono fun e_ w' ⟨g, he, _, _, hl, hc⟩ => ⟨_, _, he, hl, hc⟩
  · rw [if_neg hr, if_neg hr]
    exact (reset_no_ls s w b m A h hr).mono fun e_ w' ⟨he, hl, hc⟩ => ⟨_, _, he, hl, hc⟩
end
end Go.Proofs.Ytekjhfhlbkcklaa.L

/-
  The lane's queue over the plain machine: what is claimed and not taken, in order, each with the slot that was laid last.
-/
import Derived.Test.YtekjhfhlbkcklaaCa
set_option linter.unusedVariables false
set_option linter.unusedSimpArgs false
namespace Go.Proofs.Ytekjhfhlbkcklaa.L
open Go.RowKit Go.Proofs.Ytekjhfhlbkcklaa.K

def tickets (s : Int) (A : AL) : List (Int × Int) := (List.range A.q.length).map (fun i => (sq s (A.h + i), A.epoch))
def slotsA (A : AL) : List (Int × Int) := A.q.map (fun e => (e.n, e.gen))
theorem tickets_length (s : Int) (A : AL) : (tickets s A).length = A.q.length := by simp [tickets]
theorem slotsA_length (A : AL) : (slotsA A).length = A.q.length := by simp [slotsA]
theorem tickets_get {s : Int} {A : AL} {i : Nat} (hi : i < A.q.length) : (tickets s A)[i]? = some (sq s (A.h + i), A.epoch) := by
  unfold tickets
  rw [List.getElem?_map, List.getElem?_range hi]; rfl
section
variable {s : Int} {A : AL}
theorem q_claim (ha : Wf s A) : tickets s { A with q := A.q ++ [⟨1, 0, 0, 0, 0⟩], t := A.t + 1 } = tickets s A ++ [(sq s A.t, A.epoch)] ∧ slotsA { A with q := A.q ++ [⟨1, 0, 0, 0, 0⟩], t := A.t + 1 } = slotsA A ++ [(0, 0)] := by
  have hl := ha.le
  constructor
  · unfold tickets
    simp only [List.length_append, List.length_singleton, List.range_succ, List.map_append, List.map_cons, List.map_nil]
    rw [show A.h + A.q.length = A.t by omega]
  · simp [slotsA]
theorem q_lay_none (n g : Int) {seq ep : Int} (hf : findA s A seq ep = none) : layA s A seq ep n g = (A, 82) := by unfold layA; rw [hf]
theorem q_lay_some (ha : Wf s A) (n g : Int) {seq ep : Int} (h0 : 0 ≤ seq) (h1 : seq < 18446744073709551616) {i : Nat} (hf : findA s A seq ep = some i) :
    (layA s A seq ep n g).2 = 0 ∧ tickets s (layA s A seq ep n g).1 = tickets s A ∧ slotsA (layA s A seq ep n g).1 = (slotsA A).set i (n, g) ∧ i < A.q.length ∧ (∀ j, j < A.q.length → ((sq s (A.h + j) == seq) = true ↔ j = i)) ∧ ep = A.epoch := by
  obtain ⟨L, M, h⟩ := ha
  obtain ⟨f1, f2, f3, f4⟩ := (findA_some h h0 h1).1 hf
  have hq := h.qlen; have htop := h.top
  unfold layA
  rw [hf]
  refine ⟨rfl, ?_, ?_, f3, ?_, f1⟩
  · unfold tickets
    show (List.range (A.q.set _ _).length).map _ = _
    rw [List.length_set]
  · show (A.q.set i _).map _ = _
    rw [List.map_set]; rfl
  · intro j hj
    rw [beq_iff_eq, f4]
    constructor
    · intro e; have := sq_inj (s := s) (by omega) (by omega) e; omega
    · rintro rfl; rfl
theorem q_pub (seq ep tick step : Int) : tickets s (pubA s A seq ep tick step).1 = tickets s A ∧ slotsA (pubA s A seq ep tick step).1 = slotsA A := by
  unfold pubA
  cases hf : findA s A seq ep with
  | none => exact ⟨rfl, rfl⟩
  | some i =>
    dsimp only
    split
    · split
      · constructor
        · unfold tickets
          show (List.range (A.q.set _ _).length).map _ = _
          rw [List.length_set]
        · show (A.q.set i _).map _ = A.q.map _
          apply List.ext_getElem?
          intro j
          rw [List.getElem?_map, List.getElem?_map]
          by_cases hij : i = j
          · subst hij
            rcases Nat.lt_or_ge i A.q.length with hl | hl
            · rw [List.getElem?_set_self hl, List.getElem?_eq_getElem hl]
              rfl
            · rw [List.getElem?_eq_none (by simpa using hl), List.getElem?_eq_none hl]
          · rw [List.getElem?_set_ne hij]
      · exact ⟨rfl, rfl⟩
    · exact ⟨rfl, rfl⟩
theorem q_take (ha : Wf s A) (hf : ¬ A.h = A.r) : ∃ (e : Ent) (q' : List Ent) (A' : AL), takeA s A = ((e.n, e.gen, sq s A.h, A.epoch, 0), A') ∧ tickets s A = (sq s A.h, A.epoch) :: tickets s A' ∧ slotsA A = (e.n, e.gen) :: slotsA A' ∧ A'.t = A.t := by
  obtain ⟨L, M, h⟩ := ha
  obtain ⟨e, q', hA, -, -⟩ := q0_abs h hf
  refine ⟨e, q', { A with q := q', h := A.h + 1, old := A.old ++ [(A.h, ⟨e.n, e.gen, false⟩)] }, ?_, ?_, ?_, rfl⟩
  · unfold takeA
    rw [if_neg hf, hA]; rfl
  · unfold tickets
    rw [hA]
    show (List.range (q'.length + 1)).map _ = _ :: (List.range q'.length).map _
    rw [List.range_succ_eq_map, List.map_cons, List.map_map]
    congr 1
    refine List.map_congr_left fun i _ => ?_
    show (sq s (A.h + (i + 1)), A.epoch) = (sq s (A.h + 1 + i), A.epoch)
    rw [show A.h + (i + 1) = A.h + 1 + i by omega]
  · unfold slotsA; rw [hA]; rfl
theorem q_retire (seq ep : Int) : tickets s (retireA s A seq ep).2 = tickets s A ∧ slotsA (retireA s A seq ep).2 = slotsA A := by
  unfold retireA
  split
  · exact ⟨rfl, rfl⟩
  · split
    · exact ⟨rfl, rfl⟩
    · split
      · exact ⟨rfl, rfl⟩
      · split
        · exact ⟨rfl, rfl⟩
        · split <;> exact ⟨rfl, rfl⟩
end
end Go.Proofs.Ytekjhfhlbkcklaa.L

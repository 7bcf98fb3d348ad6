/-
  One-way lanes: what a sender is told hangs on nothing that is taken and retired: over the plain machines.
-/
import Derived.Test.YtekjhfhlbkcklaaM
set_option linter.unusedVariables false
set_option linter.unusedSimpArgs false
namespace Go.Proofs.Ytekjhfhlbkcklaa.L
open Go.RowKit Go.Proofs.Ytekjhfhlbkcklaa.K

def Wf (s : Int) (A : AL) : Prop := ∃ L M, Abs s A L M
theorem LS.wf {s : Int} {w : World} {b m : Nat} {A : AL} (h : LS s w b m A) : Wf s A := by
  obtain ⟨L, M, e, hs, ha⟩ := h
  exact ⟨L, M, ha⟩
/-- How far behind the first that is not published a ticket's message stands. -/
def offA (s ep0 : Int) (r t : Nat) (seq ep : Int) : Option Nat :=
  if ep = ep0 ∧ (seq - sq s r) % 18446744073709551616 < ((t - r : Nat) : Int) then some ((seq - sq s r) % 18446744073709551616).toNat else none
theorem findA_off (s : Int) (A : AL) (seq ep : Int) : findA s A seq ep = (offA s A.epoch A.r A.t seq ep).map (A.r - A.h + ·) := by
  unfold findA offA
  split <;> rfl
theorem offA_lt {s ep0 : Int} {r t : Nat} {seq ep : Int} {d : Nat} (h : offA s ep0 r t seq ep = some d) : d < t - r := by
  unfold offA at h
  split at h
  · rename_i hc
    have h1 : ((seq - sq s r) % 18446744073709551616).toNat = d := by simpa using h
    have h2 := hc.2
    have : 0 ≤ (seq - sq s r) % 18446744073709551616 := Int.emod_nonneg _ (by omega)
    omega
  · cases h
structure Tw (A B : AL) : Prop where
  c : A.c = B.c
  twoA : A.two = false
  twoB : B.two = false
  t : A.t = B.t
  r : A.r = B.r
  ep : A.epoch = B.epoch
  sum : A.q.length + A.old.length = B.q.length + B.old.length
  cl : A.q.drop (A.r - A.h) = B.q.drop (B.r - B.h)
section
variable {s : Int} {A B : AL}
theorem Wf.le (h : Wf s A) : A.r - A.h ≤ A.q.length ∧ A.h ≤ A.r ∧ A.r ≤ A.t ∧ A.q.length + A.h = A.t := by
  obtain ⟨L, M, h⟩ := h
  have := h.hr; have := h.rt; have := h.qlen
  omega
theorem tw_claim (ha : Wf s A) (hb : Wf s B) (h : Tw A B) : (claimA s A).1 = (claimA s B).1 ∧ Tw (claimA s A).2 (claimA s B).2 := by
  have hla := ha.le; have hlb := hb.le
  unfold claimA
  by_cases hf : A.c ≤ A.q.length + A.old.length
  · rw [if_pos hf, if_pos (by rw [← h.c, ← h.sum]; exact hf)]
    exact ⟨rfl, h⟩
  · rw [if_neg hf, if_neg (by rw [← h.c, ← h.sum]; exact hf)]
    refine ⟨by rw [h.t, h.ep], { h with t := ?_, sum := ?_, cl := ?_ }⟩
    · show A.t + 1 = B.t + 1; rw [h.t]
    · have := h.sum
      simp only [List.length_append, List.length_singleton]; omega
    · show (A.q ++ _).drop (A.r - A.h) = (B.q ++ _).drop (B.r - B.h)
      rw [List.drop_append_of_le_length hla.1, List.drop_append_of_le_length hlb.1, h.cl]
theorem tw_find (h : Tw A B) (seq ep : Int) : findA s B seq ep = (offA s A.epoch A.r A.t seq ep).map (B.r - B.h + ·) := by rw [findA_off, h.ep, h.r, h.t]
theorem tw_get (h : Tw A B) (d : Nat) : A.q[A.r - A.h + d]? = B.q[B.r - B.h + d]? := by
  have := congrArg (·[d]?) h.cl
  simpa [List.getElem?_drop] using this
theorem drop_set (q : List Ent) (k d : Nat) (e : Ent) : (q.set (k + d) e).drop k = (q.drop k).set d e := by
  rw [List.drop_set, if_neg (by omega)]
  congr 1
  omega
theorem tw_lay (h : Tw A B) (seq ep n gen : Int) : (layA s A seq ep n gen).2 = (layA s B seq ep n gen).2 ∧ Tw (layA s A seq ep n gen).1 (layA s B seq ep n gen).1 := by
  unfold layA
  rw [findA_off, tw_find h]
  cases hd : offA s A.epoch A.r A.t seq ep with
  | none => exact ⟨rfl, h⟩
  | some d =>
    simp only [Option.map_some]
    refine ⟨trivial, { h with sum := ?_, cl := ?_ }⟩
    · simpa using h.sum
    · show (A.q.set _ _).drop _ = (B.q.set _ _).drop _
      rw [drop_set, drop_set, tw_get h d, h.cl]
theorem tw_ready (h : Tw A B) (seq ep : Int) : readyA s A seq ep = readyA s B seq ep := by
  unfold readyA
  rw [findA_off, tw_find h]
  cases hd : offA s A.epoch A.r A.t seq ep with
  | none => rfl
  | some d =>
    simp only [Option.map_some]
    rw [tw_get h d]
    congr 1
    apply decide_eq_decide.2
    omega
theorem tw_pub (ha : Wf s A) (hb : Wf s B) (h : Tw A B) (seq ep tick step : Int) : (pubA s A seq ep tick step).2 = (pubA s B seq ep tick step).2 ∧ Tw (pubA s A seq ep tick step).1 (pubA s B seq ep tick step).1 := by
  have hla := ha.le; have hlb := hb.le
  unfold pubA
  rw [findA_off, tw_find h]
  cases hd : offA s A.epoch A.r A.t seq ep with
  | none => exact ⟨rfl, h⟩
  | some d =>
    simp only [Option.map_some]
    rw [tw_get h d]
    by_cases h1 : ((B.q[B.r - B.h + d]?).getD ent0).is = 2
    · rw [if_pos h1, if_pos h1]
      by_cases h2 : d = 0
      · rw [if_pos (by omega), if_pos (by omega)]
        subst h2
        refine ⟨rfl, { h with r := ?_, sum := ?_, cl := ?_ }⟩
        · show A.r + 1 = B.r + 1; rw [h.r]
        · simpa using h.sum
        · show (A.q.set (A.r - A.h + 0) _).drop (A.r + 1 - A.h) = (B.q.set (B.r - B.h + 0) _).drop (B.r + 1 - B.h)
          have hc := congrArg (List.drop 1) h.cl
          rw [List.drop_drop, List.drop_drop] at hc
          have hr := h.r
          rw [List.drop_set_of_lt (by omega), List.drop_set_of_lt (by omega), show A.r + 1 - A.h = A.r - A.h + 1 by omega, show B.r + 1 - B.h = B.r - B.h + 1 by omega]
          exact hc
      · rw [if_neg (by omega), if_neg (by omega)]
        exact ⟨rfl, h⟩
    · rw [if_neg h1, if_neg h1]
      exact ⟨rfl, h⟩
theorem tw_take (ha : Wf s A) (h : Tw A B) : Tw (takeA s A).2 B := by
  have hla := ha.le
  unfold takeA
  by_cases hb : A.h = A.r
  · rw [if_pos hb]; exact h
  · rw [if_neg hb]
    obtain ⟨L, M, ha⟩ := ha
    obtain ⟨e, q', hA, -, -⟩ := q0_abs ha hb
    refine { h with sum := ?_, cl := ?_ }
    · have := h.sum
      show A.q.tail.length + (A.old ++ _).length = _
      rw [hA] at this ⊢
      simp at this ⊢; omega
    · have := h.cl
      show A.q.tail.drop (A.r - (A.h + 1)) = _
      rw [← this, hA, List.tail_cons, show A.r - A.h = (A.r - (A.h + 1)) + 1 by omega, List.drop_succ_cons]
theorem tw_retire (h : Tw A B) (seq ep : Int) : Tw (retireA s A seq ep).2 B := by
  unfold retireA
  split
  · exact h
  · split
    · exact h
    · split
      · exact h
      · split
        · exact h
        · rw [if_neg (by rw [h.twoA]; simp)]
          refine { h with sum := ?_ }
          have := h.sum
          simpa using this
theorem tw_reset (h : Tw A B) : resetE A = resetE B ∧ Tw (resetS A) (resetS B) := by
  have hrb : B.r = B.t ↔ A.r = A.t := by rw [h.r, h.t]
  unfold resetE resetS
  by_cases hr : A.r = A.t
  · rw [if_pos hr, if_pos hr, if_pos (hrb.2 hr), if_pos (hrb.2 hr)]
    refine ⟨rfl, { c := h.c, twoA := h.twoA, twoB := h.twoB, t := h.t, r := h.r, ep := ?_, sum := rfl, cl := ?_ }⟩
    · show IntKind.u64.wrap (A.epoch + 1) = IntKind.u64.wrap (B.epoch + 1); rw [h.ep]
    · show ([] : List Ent).drop _ = ([] : List Ent).drop _; simp
  · rw [if_neg hr, if_neg hr, if_neg (fun e => hr (hrb.1 e)), if_neg (fun e => hr (hrb.1 e))]
    exact ⟨rfl, h⟩
end
theorem claim_t (s : Int) (A : AL) : (claimA s A).2.t ≤ A.t + 1 := by
  unfold claimA; split
  · show A.t ≤ A.t + 1; omega
  · exact Nat.le_refl _
theorem lay_t (s : Int) (A : AL) (a b c d : Int) : (layA s A a b c d).1.t = A.t := by unfold layA; split <;> rfl
theorem pub_t (s : Int) (A : AL) (a b c d : Int) : (pubA s A a b c d).1.t = A.t := by
  unfold pubA
  split
  · split
    · split <;> rfl
    · rfl
  · rfl
theorem take_t (s : Int) (A : AL) : (takeA s A).2.t = A.t := by unfold takeA; split <;> rfl
theorem retire_t (s : Int) (A : AL) (a b : Int) : (retireA s A a b).2.t = A.t := by
  unfold retireA
  split
  · rfl
  · split
    · rfl
    · split
      · rfl
      · split
        · rfl
        · split <;> rfl
theorem reset_t (A : AL) : (resetS A).t = A.t := by unfold resetS; split <;> rfl
end Go.Proofs.Ytekjhfhlbkcklaa.L

/-
  The lane's credit over the plain machine: where each claimed message is laid at once, one is ready.
-/
import Derived.Test.YtekjhfhlbkcklaaNb
set_option linter.unusedVariables false
set_option linter.unusedSimpArgs false
namespace Go.Proofs.Ytekjhfhlbkcklaa.L
open Go.RowKit Go.Proofs.Ytekjhfhlbkcklaa.K

structure CrI (s : Int) (A : AL) (out : List (Int × Int)) : Prop where
  laid : ∀ (j : Nat) (e : Ent), A.q[j]? = some e → e.is ≠ 1
  has : ∀ i, A.r ≤ i → i < A.t → (sq s i, A.epoch) ∈ out
  inr : ∀ p ∈ out, 0 ≤ p.1 ∧ p.1 < 18446744073709551616
section
variable {s : Int} {A : AL} {out : List (Int × Int)}
/-- The machine behind a claim that is laid at once. -/
def claimLay (A : AL) (n g : Int) : AL := { A with q := A.q ++ [⟨2, n, g, 0, 0⟩], t := A.t + 1 }
theorem claim_lay (ha : Wf s A) (ht : A.t < 1000) (hf : ¬ A.c ≤ A.q.length + A.old.length) (n g : Int) : layA s { A with q := A.q ++ [⟨1, 0, 0, 0, 0⟩], t := A.t + 1 } (sq s A.t) A.epoch n g = (claimLay A n g, 0) := by
  obtain ⟨L, M, h⟩ := ha
  have h1 := (claim_abs h ht).2
  have e : (claimA s A).2 = { A with q := A.q ++ [⟨1, 0, 0, 0, 0⟩], t := A.t + 1 } := by unfold claimA; rw [if_neg hf]
  rw [e] at h1
  have hq := h.qlen; have hr := h.hr; have hrt := h.rt
  have hfd : findA s { A with q := A.q ++ [⟨1, 0, 0, 0, 0⟩], t := A.t + 1 } (sq s A.t) A.epoch = some A.q.length := by
    refine (findA_some h1 (sq_in s A.t).1 (sq_in s A.t).2).2 ⟨rfl, ?_, ?_, ?_⟩
    · show A.r - A.h ≤ A.q.length; omega
    · show A.q.length < (A.q ++ _).length; simp
    · show sq s A.t = sq s (A.h + A.q.length); rw [show A.h + A.q.length = A.t by omega]
  unfold layA
  rw [hfd]
  simp [claimLay]
theorem cr_claim (ha : Wf s A) (hi : CrI s A out) (n g : Int) : CrI s (claimLay A n g) (out ++ [(sq s A.t, A.epoch)]) := by
  refine ⟨?_, ?_, ?_⟩
  · intro j e hj
    have hj' : (A.q ++ [(⟨2, n, g, 0, 0⟩ : Ent)])[j]? = some e := hj
    rcases Nat.lt_or_ge j A.q.length with h | h
    · rw [List.getElem?_append_left h] at hj'; exact hi.laid j e hj'
    · rw [List.getElem?_append_right h] at hj'
      have := (List.getElem?_eq_some_iff.1 hj').1
      simp at this
      have h0 : j - A.q.length = 0 := by omega
      rw [h0] at hj'
      simp at hj'
      rw [← hj']; simp
  · intro i h1 h2
    have h2' : i < A.t + 1 := h2
    rcases Nat.lt_or_ge i A.t with h | h
    · exact List.mem_append_left _ (hi.has i h1 h)
    · have : i = A.t := by omega
      subst this
      exact List.mem_append_right _ (.head _)
  · intro p hp
    rcases List.mem_append.1 hp with hp | hp
    · exact hi.inr p hp
    · simp at hp; subst hp; exact sq_in s A.t
theorem cr_pub (ha : Wf s A) (hi : CrI s A out) (seq ep tick step : Int) : CrI s (pubA s A seq ep tick step).1 out := by
  have hl := ha.le
  unfold pubA
  cases hf : findA s A seq ep with
  | none => exact hi
  | some i =>
    dsimp only
    split
    · split
      · refine ⟨?_, ?_, hi.inr⟩
        · intro j e hj
          have hj' : (A.q.set i { (A.q[i]?).getD ent0 with is := 3, tick := tick, step := step })[j]? = some e := hj
          by_cases hij : i = j
          · subst hij
            have hl2 : i < (A.q.set i { (A.q[i]?).getD ent0 with is := 3, tick := tick, step := step }).length := (List.getElem?_eq_some_iff.1 hj').1
            rw [List.getElem?_set_self (by simpa using hl2)] at hj'
            simp at hj'; rw [← hj']; simp
          · rw [List.getElem?_set_ne hij] at hj'; exact hi.laid j e hj'
        · intro i' h1 h2
          have h1' : A.r + 1 ≤ i' := h1
          exact hi.has i' (by omega) h2
      · exact hi
    · exact hi
theorem cr_take (ha : Wf s A) (hi : CrI s A out) : CrI s (takeA s A).2 out := by
  unfold takeA
  by_cases hb : A.h = A.r
  · rw [if_pos hb]; exact hi
  · rw [if_neg hb]
    refine ⟨?_, hi.has, hi.inr⟩
    intro j e hj
    have hj' : A.q.tail[j]? = some e := hj
    rw [List.getElem?_tail] at hj'
    exact hi.laid _ e hj'
theorem cr_retire (hi : CrI s A out) (seq ep : Int) : CrI s (retireA s A seq ep).2 out := by
  unfold retireA
  split
  · exact hi
  · split
    · exact hi
    · split
      · exact hi
      · split
        · exact hi
        · split
          · exact ⟨hi.laid, hi.has, hi.inr⟩
          · exact ⟨hi.laid, hi.has, hi.inr⟩
theorem cr_reset (hi : CrI s A out) : CrI s (resetS A) out := by
  unfold resetS
  split
  · rename_i h
    refine ⟨?_, ?_, hi.inr⟩
    · intro j e hj; cases hj
    · intro i h1 h2
      have h1' : A.r ≤ i := h1
      have h2' : i < A.t := h2
      omega
  · exact hi
theorem cr_ready (ha : Wf s A) (hi : CrI s A out) (hrt : A.r < A.t) : readyA s A (sq s A.r) A.epoch = true := by
  obtain ⟨L, M, h⟩ := ha
  have hq := h.qlen; have hr := h.hr
  have hfd : findA s A (sq s A.r) A.epoch = some (A.r - A.h) :=
    (findA_some h (sq_in s A.r).1 (sq_in s A.r).2).2 ⟨rfl, Nat.le_refl _, by omega, by rw [show A.h + (A.r - A.h) = A.r by omega]⟩
  obtain ⟨e, he⟩ : ∃ e, A.q[A.r - A.h]? = some e := ⟨_, List.getElem?_eq_getElem (by omega)⟩
  unfold readyA
  rw [hfd]
  simp only [he, Option.getD_some]
  have h1 := h.claimed _ e he (Nat.le_refl _)
  have h2 := hi.laid _ e he
  have : e.is = 2 := by rcases h1 with h1 | h1; exact absurd h1 h2; exact h1
  simp [this]
theorem cr_new (c : Nat) (two : Bool) : CrI s ⟨c, two, 0, 0, 0, 0, 0, [], []⟩ [] := ⟨(fun j e h => by cases h), (fun i h1 h2 => by have h2' : i < 0 := h2; omega), (fun p hp => by cases hp)⟩
theorem counts (ha : Wf s A) : ∃ l c p t h : Nat, stateA A = .agg #[.int .i64 (l : Int), .int .i64 (c : Int), .int .i64 (p : Int), .int .i64 (t : Int), .int .i64 (h : Int), .int .u64 A.epoch] ∧ l + c + p + t + h = A.c ∧ A.c ≤ 64 ∧ c = A.t - A.r := by
  obtain ⟨L, M, ha⟩ := ha
  have h1 := ha.room; have h2 := ha.qlen; have h3 := ha.hr; have h4 := ha.rt; have h5 := ha.c1
  have h6 : oTaken A.old + oHeld A.old = A.old.length := by
    unfold oTaken oHeld
    induction A.old with
    | nil => rfl
    | cons p l ih =>
      simp only [List.filter_cons, List.length_cons]
      cases p.2.held <;> simp <;> omega
  refine ⟨A.c - (A.q.length + A.old.length), A.t - A.r, A.r - A.h, oTaken A.old, oHeld A.old, ?_, by omega, h5, rfl⟩
  unfold stateA
  rw [show (A.c : Int) - ((A.q.length + A.old.length : Nat) : Int) = ((A.c - (A.q.length + A.old.length) : Nat) : Int) by omega]
end
theorem claimLay_t (A : AL) (n g : Int) : (claimLay A n g).t = A.t + 1 := rfl
theorem claim_c (s : Int) (A : AL) (n g : Int) : (claimLay A n g).c = A.c := rfl
theorem pub_c (s : Int) (A : AL) (a b c d : Int) : (pubA s A a b c d).1.c = A.c := by
  unfold pubA
  split
  · split
    · split <;> rfl
    · rfl
  · rfl
theorem take_c (s : Int) (A : AL) : (takeA s A).2.c = A.c := by unfold takeA; split <;> rfl
theorem retire_c (s : Int) (A : AL) (a b : Int) : (retireA s A a b).2.c = A.c := by
  unfold retireA
  split
  · rfl
  · split
    · rfl
    · split
      · rfl
      · split
        · rfl
        · split <;> rfl
theorem reset_c (A : AL) : (resetS A).c = A.c := by unfold resetS; split <;> rfl
end Go.Proofs.Ytekjhfhlbkcklaa.L

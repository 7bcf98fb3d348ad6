import Derived.Test.YtijppfogcieemaaZ3
namespace Go.Proofs.Ytijppfogcieemaa.Z
open Go.RowKit Go.Shelf Go.Lib Go.Sort
open Go.Proofs.Ytijppfogcieemaa.PA

abbrev Up (l : List S24) : Prop := l.Pairwise (fun a b => ltS a b = true)
theorem lt_asymm {a b : S24} (h : ltS a b = true) : ltS b a = false := by simp [ltS] at *; omega
theorem lt_irrefl (a : S24) : ltS a a = false := by simp [ltS]
theorem lt_total {a b : S24} (h : ltS a b = false) (hne : a ≠ b) : ltS b a = true := by
  cases h2 : ltS b a
  · exact absurd (apart a b h h2) hne
  · rfl
theorem up_eq : ∀ {a b : List S24}, Up a → Up b → (∀ x, x ∈ a ↔ x ∈ b) → a = b
  | [], [], _, _, _ => rfl
  | [], y :: b, _, _, h => by have := (h y).2 (.head _); simp at this
  | x :: a, [], _, _, h => by have := (h x).1 (.head _); simp at this
  | x :: a, y :: b, ha, hb, h => by
    have ha' := List.pairwise_cons.1 ha
    have hb' := List.pairwise_cons.1 hb
    have e : x = y := by
      rcases List.mem_cons.1 ((h x).1 (.head _)) with e | e
      · exact e
      · rcases List.mem_cons.1 ((h y).2 (.head _)) with e2 | e2
        · exact e2.symm
        · have h1 := lt_asymm (hb'.1 x e)
          rw [ha'.1 y e2] at h1
          simp at h1
    subst e
    rw [up_eq ha'.2 hb'.2 fun z => ?_]
    have hz := h z
    simp only [List.mem_cons] at hz
    constructor
    · intro hm
      rcases hz.1 (.inr hm) with e | e
      · subst e; have := ha'.1 z hm; rw [lt_irrefl] at this; simp at this
      · exact e
    · intro hm
      rcases hz.2 (.inr hm) with e | e
      · subst e; have := hb'.1 z hm; rw [lt_irrefl] at this; simp at this
      · exact e

theorem insS_up {out : List S24} (h : Up out) (p : S24) : Up (insS out p) ∧ ∀ x, x ∈ insS out p ↔ x = p ∨ x ∈ out := by
  have hle := placeOf_le p out
  obtain ⟨k, hk⟩ : ∃ k, placeOf p out = k := ⟨_, rfl⟩
  have h1 : ∀ x ∈ out.take k, ltS x p = true := fun x hx => by
    obtain ⟨j, hj, e⟩ := List.getElem_of_mem hx
    rw [List.length_take] at hj
    refine placeOf_lt p out j x (by omega) ?_
    rw [← e, List.getElem_take]
    exact List.getElem?_eq_getElem (by omega)
  have hat := placeOf_at p out
  rw [hk] at hle hat
  have hsp : out.take k ++ out.drop k = out := List.take_append_drop k out
  have h0 : Up (out.take k ++ out.drop k) := by rw [hsp]; exact h
  have h0' := List.pairwise_append.1 h0
  have hmem : ∀ x, x ∈ out ↔ x ∈ out.take k ∨ x ∈ out.drop k := fun x => by rw [← List.mem_append, hsp]
  unfold insS
  rw [hk]
  simp only
  cases hq : out[k]? with
  | none =>
    have hl : out.length ≤ k := List.getElem?_eq_none_iff.1 hq
    have hd : out.drop k = [] := List.drop_eq_nil_of_le hl
    have ht : out.take k = out := List.take_of_length_le hl
    rw [if_pos (.inr (by simp)), hd, List.append_nil]
    rw [ht] at h1 ⊢
    refine ⟨List.pairwise_append.2 ⟨h, by simp, fun a ha b hb => ?_⟩, fun x => by simp [or_comm]⟩
    simp at hb; subst hb; exact h1 a ha
  | some q =>
    have hlt : k < out.length := (List.getElem?_eq_some_iff.1 hq).1
    have hd : out.drop k = q :: out.drop (k + 1) := by
      rw [List.drop_eq_getElem_cons hlt]; congr 1; exact (List.getElem?_eq_some_iff.1 hq).2
    by_cases hqp : q = p
    · subst hqp
      rw [if_neg (by simp; omega)]
      refine ⟨h, fun x => ⟨.inr, fun hx => ?_⟩⟩
      rcases hx with rfl | hx
      · rw [hmem, hd]; simp
      · exact hx
    · have hpq := lt_total (hat q hq) hqp
      rw [if_pos (.inr (by simpa using hqp))]
      have h2 : ∀ x ∈ out.drop k, ltS p x = true := by
        have h3 := h0'.2.1
        rw [hd] at h3 ⊢
        intro x hx
        rcases List.mem_cons.1 hx with rfl | hx
        · exact hpq
        · exact swo.trans _ _ _ hpq ((List.pairwise_cons.1 h3).1 x hx)
      refine ⟨?_, fun x => ?_⟩
      · refine List.pairwise_append.2 ⟨List.pairwise_append.2 ⟨h0'.1, by simp, fun a ha b hb => ?_⟩, h0'.2.1, fun a ha b hb => ?_⟩
        · simp at hb; subst hb; exact h1 a ha
        · rcases List.mem_append.1 ha with ha | ha
          · exact h0'.2.2 a ha b hb
          · simp at ha; subst ha; exact h2 b hb
      · rw [hmem, List.mem_append, List.mem_append, List.mem_singleton]
        constructor
        · rintro ((h | h) | h)
          · exact .inr (.inl h)
          · exact .inl h
          · exact .inr (.inr h)
        · rintro (h | h | h)
          · exact .inl (.inr h)
          · exact .inl (.inl h)
          · exact .inr h
theorem foldl_up : ∀ (xs : List S24) {out : List S24}, Up out → Up (xs.foldl insS out) ∧ ∀ x, x ∈ xs.foldl insS out ↔ x ∈ xs ∨ x ∈ out
  | [], out, h => ⟨h, by simp⟩
  | p :: xs, out, h => by
    obtain ⟨h1, h2⟩ := insS_up h p
    obtain ⟨h3, h4⟩ := foldl_up xs h1
    refine ⟨h3, fun x => ?_⟩
    rw [List.foldl_cons, h4, h2, List.mem_cons]
    constructor
    · rintro (h | h | h)
      · exact .inl (.inr h)
      · exact .inl (.inl h)
      · exact .inr h
    · rintro ((h | h) | h)
      · exact .inr (.inl h)
      · exact .inl h
      · exact .inr (.inr h)
theorem compact_up (d : Array S24) (hs : ∀ i j, i ≤ j → j < d.size → ltS d[j]! d[i]! = false) : ∀ m, m ≤ d.size → Up (compactUpTo d m) ∧ ∀ x, x ∈ compactUpTo d m ↔ ∃ j, j < m ∧ d[j]! = x
  | 0, _ => by simp [compactUpTo]
  | m + 1, hm => by
    obtain ⟨h1, h2⟩ := compact_up d hs m (by omega)
    rw [compactUpTo_succ]
    by_cases hk : keeps d m = true
    · rw [if_pos hk]
      refine ⟨List.pairwise_append.2 ⟨h1, by simp, fun a ha b hb => ?_⟩, fun x => ?_⟩
      · simp at hb; subst hb
        obtain ⟨j, hj, rfl⟩ := (h2 a).1 ha
        have hne : d[j]! ≠ d[m]! := by
          intro e
          have hk' : m = 0 ∨ d[m]! ≠ d[m - 1]! := by simpa [keeps] using hk
          rcases hk' with h | h
          · omega
          · refine h (apart _ _ (hs (m - 1) m (by omega) (by omega)) ?_).symm.symm
            rw [← e]
            exact hs j (m - 1) (by omega) (by omega)
        exact lt_total (hs j m (by omega) (by omega)) (fun e => hne e.symm)
      · rw [List.mem_append, h2, List.mem_singleton]
        constructor
        · rintro (⟨j, hj, e⟩ | e)
          · exact ⟨j, by omega, e⟩
          · exact ⟨m, by omega, e.symm⟩
        · rintro ⟨j, hj, e⟩
          rcases Nat.lt_or_ge j m with h | h
          · exact .inl ⟨j, h, e⟩
          · obtain rfl : j = m := by omega
            exact .inr e.symm
    · rw [if_neg hk, List.append_nil]
      refine ⟨h1, fun x => ?_⟩
      have hk' : m ≠ 0 ∧ d[m]! = d[m - 1]! := by simpa [keeps] using hk
      rw [h2]
      constructor
      · rintro ⟨j, hj, e⟩; exact ⟨j, by omega, e⟩
      · rintro ⟨j, hj, e⟩
        rcases Nat.lt_or_ge j m with h | h
        · exact ⟨j, h, e⟩
        · obtain rfl : j = m := by omega
          exact ⟨j - 1, by omega, by rw [← hk'.2]; exact e⟩
theorem sorted_eq (xs : List S24) : sortedL xs = refSorted xs := by
  obtain ⟨r1, r2⟩ := foldl_up xs (out := []) List.Pairwise.nil
  have hp := List.mergeSort_perm xs (fun x y => !(ltS) y x)
  have hpw := List.pairwise_mergeSort (le := fun x y => !(ltS) y x) (fun a b c h1 h2 => by simp [ltS] at *; omega) (fun a b => by simp [ltS]; omega) xs
  generalize hl : (xs.mergeSort fun x y => !(ltS) y x) = l at hp hpw
  have hd : ∀ i j, i ≤ j → j < l.toArray.size → ltS l.toArray[j]! l.toArray[i]! = false := by
    intro i j hij hj
    have hj' : j < l.length := by simpa using hj
    rcases Nat.lt_or_ge i j with h | h
    · have := List.pairwise_iff_getElem.1 hpw i j (by omega) hj' h
      simpa [hj', show i < l.length by omega] using this
    · obtain rfl : i = j := by omega
      exact lt_irrefl _
  obtain ⟨s1, s2⟩ := compact_up l.toArray hd l.toArray.size (Nat.le_refl _)
  have e : sortedL xs = compactUpTo l.toArray l.toArray.size := by unfold sortedL; rw [hl]
  rw [e]
  refine up_eq s1 r1 fun x => ?_
  rw [s2, refSorted, r2, ← hp.mem_iff]
  constructor
  · rintro ⟨j, hj, rfl⟩
    have hj' : j < l.length := by simpa using hj
    left
    simp [hj']
  · rintro (h | h)
    · obtain ⟨j, hj, e⟩ := List.getElem_of_mem h
      exact ⟨j, by simpa using hj, by simp [hj, e]⟩
    · simp at h
end Go.Proofs.Ytijppfogcieemaa.Z

/-
  My own kit, part d: a loop over a map keyed by whole numbers: whatever order the tape tells.
-/
import Derived.Test.YtekjhfhlbkcklaaKc
import Derived.Maps.RangeRun
namespace Go.Proofs.Ytekjhfhlbkcklaa.K
open Go.RowKit Go.MapKept
open Go.ChangeMaps (setBlock)
variable {α : Type}
theorem filt_perm {β : Type} (g : β → Nat) (z : β) (seen : Array Nat) (hs : seen.contains (g z) = false) : ∀ (Z : List β), (Z.map g).Nodup → z ∈ Z →
    (Z.filter (fun y => !seen.contains (g y))).Perm (z :: Z.filter (fun y => !(seen.push (g z)).contains (g y)))
  | [], _, h => by simp at h
  | y :: Z, hn, h => by
    simp only [List.map_cons, List.nodup_cons] at hn
    rcases List.mem_cons.1 h with rfl | hz
    · have e1 : (!seen.contains (g z)) = true := by rw [hs]; rfl
      have e2 : (!(seen.push (g z)).contains (g z)) = false := by rw [contains_push]; simp
      rw [List.filter_cons_of_pos (p := fun y => !seen.contains (g y)) e1, List.filter_cons_of_neg (p := fun y => !(seen.push (g z)).contains (g y)) (by rw [e2]; simp)]
      refine List.Perm.cons _ (List.Perm.of_eq (List.filter_congr fun x hx => ?_))
      have hne : g x ≠ g z := fun e => hn.1 (by rw [← e]; exact List.mem_map.2 ⟨x, hx, rfl⟩)
      rw [contains_push]
      simp [hne]
    · have hne : g y ≠ g z := fun e => hn.1 (by rw [e]; exact List.mem_map.2 ⟨z, hz, rfl⟩)
      have ih := filt_perm g z seen hs Z hn.2 hz
      have e2 : (seen.push (g z)).contains (g y) = seen.contains (g y) := by rw [contains_push]; simp [hne]
      cases hc : seen.contains (g y) with
      | true =>
        rw [List.filter_cons_of_neg (by rw [hc]; simp), List.filter_cons_of_neg (by rw [e2, hc]; simp)]
        exact ih
      | false =>
        rw [List.filter_cons_of_pos (by rw [hc]; rfl), List.filter_cons_of_pos (by rw [e2, hc]; rfl)]
        exact (ih.cons y).trans (List.Perm.swap z y _)

/-- Block r is an iterator over the map in block m, which holds l; rest is still to come. -/
def Iter (q : IntKind) (enc : α → Value) (w : World) (m r : Nat) (l rest : List (Int × α)) : Prop :=
  ∃ es clock since seen c0, w.heap[m]? = some (.map es clock) ∧ Stamped es clock ∧ es.toList.map (fun e => (e.key, e.val)) = l.map (fun p => (Value.int q p.1, enc p.2)) ∧
    w.heap[r]? = some (.mapIter (some m) since seen c0) ∧ (∀ x ∈ es.toList, x.born < since) ∧ since ≤ c0 ∧ since ≤ clock ∧ rest = ((es.toList.zip l).filter (fun z => !seen.contains z.1.born)).map (·.2)
namespace Iter
variable {P : Program} {q : IntKind} {enc : α → Value} {w w1 : World} {m r : Nat} {l rest : List (Int × α)}
theorem map (h : Iter q enc w m r l rest) : MapIs q enc w m l := by
  obtain ⟨es, clock, _, _, _, hb, hs, he, _⟩ := h
  exact ⟨es, clock, hb, hs, he⟩
theorem lt (h : Iter q enc w m r l rest) : r < w.heap.size := by
  obtain ⟨es, clock, since, seen, c0, _, _, _, hr, _⟩ := h
  exact (Array.getElem?_eq_some_iff.1 hr).1
theorem ne (h : Iter q enc w m r l rest) : r ≠ m := by
  obtain ⟨es, clock, since, seen, c0, hb, _, _, hr, _⟩ := h
  rintro rfl
  rw [hb] at hr; simp at hr
theorem keep (h : Iter q enc w m r l rest) (hm : w1.heap[m]? = w.heap[m]?) (hr' : w1.heap[r]? = w.heap[r]?) : Iter q enc w1 m r l rest := by
  obtain ⟨es, clock, since, seen, c0, hb, hs, he, hr, x⟩ := h
  exact ⟨es, clock, since, seen, c0, hm.trans hb, hs, he, hr'.trans hr, x⟩
theorem chg {S : Nat → Prop} (h : Iter q enc w m r l rest) (c : Chg S w w1) (hm : ¬ S m) (hr' : ¬ S r) : Iter q enc w1 m r l rest := h.keep (c.block m h.map.lt hm) (c.block r h.lt hr')
theorem alloc (h : Iter q enc w m r l rest) (o : Obj) : Iter q enc (w.alloc o) m r l rest := h.chg (Chg.alloc (Chg.refl (fun _ => False) w) o) (fun f => f) (fun f => f)
theorem drewN (h : Iter q enc w m r l rest) (n : Nat) : Iter q enc (w.drewN n) m r l rest := h
theorem drew (h : Iter q enc w m r l rest) : Iter q enc w.drew m r l rest := h
theorem setCell (h : Iter q enc w m r l rest) (p : Addr) (v : Value) : Iter q enc (w.setCell p v) m r l rest := by
  obtain ⟨es, clock, since, seen, c0, hb, hs, he, hr, x⟩ := h
  refine ⟨es, clock, since, seen, c0, ?_, hs, he, ?_, x⟩
  · simp only [World.setCell, Array.getElem?_modify]; split
    · rw [hb]; rfl
    · exact hb
  · simp only [World.setCell, Array.getElem?_modify]; split
    · rw [hr]; rfl
    · exact hr
/-- The loop begins. -/
theorem start {T K E : TypeId} (h : MapIs q enc w m l) (hT : P.underlying T = some (.map K E)) :
    ∃ o, (Instr.range T (.map (some m))).run P w = .ok (.pointer (some ⟨w.heap.size, 0, none⟩)) (w.alloc o) ∧ Iter q enc (w.alloc o) m w.heap.size l l := by
  obtain ⟨es, clock, hb, hs, he⟩ := h
  refine ⟨_, run_range_map w T K E m es clock hT hb, es, clock, clock, #[], clock, (Below.heap_alloc _ _ _ (Array.getElem?_eq_some_iff.1 hb).1).trans hb, hs, he, heap_alloc_new w _, hs.1, Nat.le_refl _, Nat.le_refl _, ?_⟩
  have hl : es.toList.length = l.length := by have := congrArg List.length he; simpa using this
  rw [List.filter_eq_self.2 (by simp), List.map_snd_zip (by omega)]
/-- The step: nothing is left, or one that is left comes out. -/
theorem next (h : Iter q enc w m r l rest) :
    (rest = [] ∧ ∀ ty, (Instr.next (.pointer (some ⟨r, 0, none⟩)) false ty).run P w = .ok (.tuple #[.bool false]) w) ∨
    ∃ (p : Int × α) (rest' : List (Int × α)) (o : Obj) (w1 : World), p ∈ l ∧ rest.Perm (p :: rest') ∧ (w1 = w ∨ w1 = w.drew) ∧
      (∀ ty, (Instr.next (.pointer (some ⟨r, 0, none⟩)) false ty).run P w = .ok (.tuple #[.bool true, .int q p.1, enc p.2]) (setBlock w1 r o)) ∧
      Iter q enc (setBlock w1 r o) m r l rest' ∧ (∀ W : World, W.heap[m]? = (setBlock w1 r o).heap[m]? → W.heap[r]? = (setBlock w1 r o).heap[r]? → (Instr.entry (.pointer (some ⟨r, 0, none⟩))).run P W = .ok (.tuple #[.int q p.1, enc p.2]) W) := by
  have hne := h.ne
  have hlt := h.lt
  obtain ⟨es, clock, since, seen, c0, hb, hs, he, hr, hold, hsc, hcl, rfl⟩ := h
  have hl : es.toList.length = l.length := by have := congrArg List.length he; simpa using this
  rcases run_next_at (P := P) w 0 r m since c0 seen es clock hr hb hold hsc with ⟨h0, _⟩ | ⟨e, he0, w1, hal, _⟩
  · left
    have hall := all_seen es seen h0
    refine ⟨?_, fun ty => ?_⟩
    · rw [List.map_eq_nil_iff, List.filter_eq_nil_iff]
      intro z hz
      rw [hall z.1 (List.of_mem_zip hz).1]; simp
    · rcases run_next_at (P := P) w ty r m since c0 seen es clock hr hb hold hsc with ⟨_, hrun⟩ | ⟨e, he0, _⟩
      · exact hrun
      · have := mem_left he0
        rw [hall e this.1] at this
        simp at this
  · right
    have hrun : ∃ (w1 : World) (e : MapEntry), e ∈ (leftOf es seen).toList ∧ (w1 = w ∨ w1 = w.drew) ∧ ∀ ty, (Instr.next (.pointer (some ⟨r, 0, none⟩)) false ty).run P w = .ok (.tuple #[.bool true, e.key, e.val]) (setBlock w1 r (.mapIter (some m) since (seen.push e.born) clock)) := by
      rcases run_next_at (P := P) w 0 r m since c0 seen es clock hr hb hold hsc with ⟨h0, _⟩ | ⟨e, he0, w1, hal, hrun⟩
      · have := mem_left he0
        rw [all_seen es seen h0 e this.1] at this
        simp at this
      · exact ⟨w1, e, he0, hal, fun ty => hrun⟩
    obtain ⟨w1, e, he0, hal, hrun⟩ := hrun
    obtain ⟨hem, hes⟩ := mem_left he0
    obtain ⟨j, hj⟩ := List.getElem?_of_mem hem
    have hjl : j < l.length := by rw [← hl]; exact (List.getElem?_eq_some_iff.1 hj).1
    obtain ⟨p, hp⟩ : ∃ p, l[j]? = some p := ⟨_, List.getElem?_eq_getElem hjl⟩
    have hkv : (e.key, e.val) = (Value.int q p.1, enc p.2) := by
      have h1 : (es.toList.map (fun e => (e.key, e.val)))[j]? = some (e.key, e.val) := by rw [List.getElem?_map, hj]; rfl
      rw [he, List.getElem?_map, hp] at h1
      simpa using h1.symm
    have hk1 : e.key = Value.int q p.1 := congrArg Prod.fst hkv
    have hv1 : e.val = enc p.2 := congrArg Prod.snd hkv
    have hz : (e, p) ∈ es.toList.zip l := List.mem_of_getElem? (i := j) (by rw [List.getElem?_zip_eq_some]; exact ⟨hj, hp⟩)
    have hnd : ((es.toList.zip l).map (fun z => z.1.born)).Nodup := by
      have : (es.toList.zip l).map (fun z => z.1.born) = es.toList.map (·.born) := by
        rw [show (fun z : MapEntry × (Int × α) => z.1.born) = (fun x : MapEntry => x.born) ∘ Prod.fst from rfl, ← List.map_map, List.map_fst_zip (by omega)]
      rw [this]; exact hs.2.1
    have hpm := (filt_perm (fun z : MapEntry × (Int × α) => z.1.born) (e, p) seen hes (es.toList.zip l) hnd hz).map (·.2)
    have hr1 : w1.heap[r]? = some (.mapIter (some m) since seen c0) := by rcases hal with rfl | rfl <;> exact hr
    have hb1 : w1.heap[m]? = some (.map es clock) := by rcases hal with rfl | rfl <;> exact hb
    have hset : (setBlock w1 r (.mapIter (some m) since (seen.push e.born) clock)).heap[r]? = some (.mapIter (some m) since (seen.push e.born) clock) := MapIs.heap_setBlock hr1
    have hbset : (setBlock w1 r (.mapIter (some m) since (seen.push e.born) clock)).heap[m]? = some (.map es clock) := by
      simp only [setBlock, Array.getElem?_setIfInBounds, if_neg hne]; exact hb1
    refine ⟨p, _, _, w1, List.mem_of_getElem? hp, hpm, hal, fun ty => by rw [← hk1, ← hv1]; exact hrun ty, ⟨es, clock, since, seen.push e.born, clock, hbset, hs, he, hset, hold, hcl, hcl, rfl⟩, fun W hm hr' => ?_⟩
    rw [← hk1, ← hv1]
    exact run_entry_at W r m since seen es clock e (hr'.trans hset) (hm.trans hbset) hem hs.2.1
end Iter
end Go.Proofs.Ytekjhfhlbkcklaa.K

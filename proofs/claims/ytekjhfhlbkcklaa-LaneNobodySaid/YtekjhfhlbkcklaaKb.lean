/-
  My own kit, part b: maps keyed by whole numbers, as lists of pairs: look up, store, delete, clear.
-/
import Derived.Test.YtekjhfhlbkcklaaKa
import Derived.MapKept
import Derived.MapFrom
import Derived.ChangeMaps4
import Derived.Maps.OwnSet
namespace Go.Proofs.Ytekjhfhlbkcklaa.K
open Go.RowKit Go.MapKept
open Go.ChangeMaps (setBlock modify_eq_set map_eraseIdx)

variable {α : Type}
def mget : List (Int × α) → Int → Option α
  | [], _ => none
  | p :: l, k => if p.1 = k then some p.2 else mget l k
def mput : List (Int × α) → Int → α → List (Int × α)
  | [], k, v => [(k, v)]
  | p :: l, k, v => if p.1 = k then (k, v) :: l else p :: mput l k v
def mdel : List (Int × α) → Int → List (Int × α)
  | [], _ => []
  | p :: l, k => if p.1 = k then l else p :: mdel l k
theorem mget_none : ∀ {l : List (Int × α)} {k : Int}, (∀ p ∈ l, p.1 ≠ k) → mget l k = none
  | [], _, _ => rfl
  | p :: l, k, h => by rw [mget, if_neg (h p (.head _))]; exact mget_none fun q hq => h q (.tail _ hq)
theorem mput_none : ∀ {l : List (Int × α)} {k : Int} {v : α}, (∀ p ∈ l, p.1 ≠ k) → mput l k v = l ++ [(k, v)]
  | [], _, _, _ => rfl
  | p :: l, k, v, h => by rw [mput, if_neg (h p (.head _)), mput_none fun q hq => h q (.tail _ hq)]; rfl
theorem mdel_none : ∀ {l : List (Int × α)} {k : Int}, (∀ p ∈ l, p.1 ≠ k) → mdel l k = l
  | [], _, _ => rfl
  | p :: l, k, h => by rw [mdel, if_neg (h p (.head _)), mdel_none fun q hq => h q (.tail _ hq)]
theorem m_at : ∀ {l : List (Int × α)} {k : Int} {j : Nat} {p : Int × α}, (l.map (·.1)).Nodup → l[j]? = some p → p.1 = k →
    mget l k = some p.2 ∧ (∀ v, mput l k v = l.set j (k, v)) ∧ mdel l k = l.eraseIdx j
  | [], _, _, _, _, h, _ => by simp at h
  | q :: l, k, 0, p, _, h, hk => by
    obtain rfl : q = p := by simpa using h
    exact ⟨by rw [mget, if_pos hk], fun v => by rw [mput, if_pos hk]; rfl, by rw [mdel, if_pos hk]; rfl⟩
  | q :: l, k, j + 1, p, hn, h, hk => by
    have h' : l[j]? = some p := by simpa using h
    simp only [List.map_cons, List.nodup_cons] at hn
    have hne : q.1 ≠ k := fun e => hn.1 (by rw [e, ← hk]; exact List.mem_map.2 ⟨p, List.mem_of_getElem? h', rfl⟩)
    obtain ⟨a, b, c⟩ := m_at hn.2 h' hk
    exact ⟨by rw [mget, if_neg hne, a], fun v => by rw [mput, if_neg hne, b]; rfl, by rw [mdel, if_neg hne, c]; rfl⟩

/-- Block m is a map with keys of kind q that holds these pairs. -/
def MapIs (q : IntKind) (enc : α → Value) (w : World) (m : Nat) (l : List (Int × α)) : Prop :=
  ∃ es clock, w.heap[m]? = some (.map es clock) ∧ Stamped es clock ∧ es.toList.map (fun e => (e.key, e.val)) = l.map (fun p => (Value.int q p.1, enc p.2))
namespace MapIs
variable {P : Program} {q : IntKind} {enc : α → Value} {w w1 : World} {m : Nat} {l : List (Int × α)}
theorem lt (h : MapIs q enc w m l) : m < w.heap.size := by
  obtain ⟨es, clock, hb, _⟩ := h
  exact (Array.getElem?_eq_some_iff.1 hb).1
theorem chg {S : Nat → Prop} (h : MapIs q enc w m l) (c : Chg S w w1) (hn : ¬ S m) : MapIs q enc w1 m l := by
  obtain ⟨es, clock, hb, r⟩ := h
  exact ⟨es, clock, c.heap hb hn, r⟩
theorem alloc (h : MapIs q enc w m l) (o : Obj) : MapIs q enc (w.alloc o) m l := by
  obtain ⟨es, clock, hb, r⟩ := h
  exact ⟨es, clock, (Below.heap_alloc _ _ _ (Array.getElem?_eq_some_iff.1 hb).1).trans hb, r⟩
theorem setCell (h : MapIs q enc w m l) (p : Addr) (v : Value) : MapIs q enc (w.setCell p v) m l := by
  obtain ⟨es, clock, hb, r⟩ := h
  refine ⟨es, clock, ?_, r⟩
  simp only [World.setCell, Array.getElem?_modify]
  split
  · rw [hb]; rfl
  · exact hb
theorem drewN (h : MapIs q enc w m l) (n : Nat) : MapIs q enc (w.drewN n) m l := h
theorem drew (h : MapIs q enc w m l) : MapIs q enc w.drew m l := h
theorem made (q : IntKind) (enc : α → Value) (w : World) : MapIs q enc (w.alloc (.map #[] 0)) w.heap.size [] :=
  ⟨#[], 0, by show (w.heap.push _)[w.heap.size]? = _; simp, stamped_empty 0, rfl⟩
theorem nodup (h : MapIs q enc w m l) : (l.map (·.1)).Nodup := by
  obtain ⟨es, clock, _, hs, he⟩ := h
  have h1 : es.toList.map (·.key) = l.map (fun p => Value.int q p.1) := by
    have := congrArg (List.map Prod.fst) he
    simpa [List.map_map, Function.comp_def] using this
  have h2 := hs.2.2
  rw [h1] at h2
  rw [show (fun p : Int × α => Value.int q p.1) = (fun k : Int => Value.int q k) ∘ (·.1) from rfl, ← List.map_map] at h2
  simp only [List.Nodup, List.pairwise_map] at h2 ⊢
  exact h2.imp fun h e => h (by rw [e])
/-- Where the key is, or that it is not. -/
theorem find (h : MapIs q enc w m l) (k : Int) :
    ∃ es clock, w.heap[m]? = some (.map es clock) ∧ Stamped es clock ∧ es.toList.map (fun e => (e.key, e.val)) = l.map (fun p => (Value.int q p.1, enc p.2)) ∧
      ((Instr.findNow (.int q) (.int q k) es.toList 0 = some none ∧ (∀ x ∈ es.toList, x.key ≠ .int q k) ∧ ∀ p ∈ l, p.1 ≠ k) ∨
       ∃ j e v, Instr.findNow (.int q) (.int q k) es.toList 0 = some (some (j, enc v)) ∧ es.toList[j]? = some e ∧ e.key = .int q k ∧ e.val = enc v ∧ l[j]? = some (k, v)) := by
  obtain ⟨es, clock, hb, hs, he⟩ := h
  have hkeys : ∀ x ∈ es.toList, IsKey (.int q) x.key := by
    intro x hx
    have : (x.key, x.val) ∈ es.toList.map (fun e => (e.key, e.val)) := List.mem_map.2 ⟨x, hx, rfl⟩
    rw [he] at this
    obtain ⟨p, _, hp⟩ := List.mem_map.1 this
    have : x.key = .int q p.1 := (congrArg Prod.fst hp).symm
    rw [this]
    exact rfl
  refine ⟨es, clock, hb, hs, he, ?_⟩
  rcases findNow_spec (d := .int q) (k := .int q k) rfl es.toList 0 hkeys with ⟨h1, h2⟩ | ⟨j, e, h1, h2, h3⟩
  · refine .inl ⟨h1, h2, fun p hp hk => ?_⟩
    have : (Value.int q p.1, enc p.2) ∈ es.toList.map (fun e => (e.key, e.val)) := by rw [he]; exact List.mem_map.2 ⟨p, hp, rfl⟩
    obtain ⟨x, hx, hxe⟩ := List.mem_map.1 this
    exact h2 x hx (by rw [show x.key = .int q p.1 from congrArg Prod.fst hxe, hk])
  · have h4 : (es.toList.map (fun e => (e.key, e.val)))[j]? = some (e.key, e.val) := by rw [List.getElem?_map, h2]; rfl
    rw [he, List.getElem?_map] at h4
    obtain ⟨p, hp, hpe⟩ := Option.map_eq_some_iff.1 h4
    have k1 : Value.int q p.1 = e.key := congrArg Prod.fst hpe
    have v1 : enc p.2 = e.val := congrArg Prod.snd hpe
    rw [h3] at k1
    obtain ⟨pk, pv⟩ := p
    obtain rfl : pk = k := by simpa using k1
    exact .inr ⟨j, e, pv, by rw [h1, Nat.zero_add, ← v1], h2, h3, v1.symm, hp⟩

variable {T K E : TypeId} {ty : TypeId}
theorem run_lookup (h : MapIs q enc w m l) (hT : P.underlying T = some (.map K E)) (hK : P.underlying K = some (.int q)) {z : Value} (hz : (zeroValue E).run P w = .ok z w) (k : Int) (c : Bool) :
    (Instr.lookup T (.map (some m)) (.int q k) c).run P w = .ok (if c then .tuple #[((mget l k).map enc).getD z, .bool (mget l k).isSome] else ((mget l k).map enc).getD z) w := by
  have hnd := h.nodup
  obtain ⟨es, clock, hb, hs, he, h1 | ⟨j, e, v, h1, h2, h3, h4, h5⟩⟩ := h.find k
  · obtain ⟨h1, h2, h3⟩ := h1
    rw [mget_none h3]
    cases c <;> simp [Instr.lookup, run_underlying hT, MapKept.run_getObj_map hb, run_checkKey (k := .int q k) hK rfl, run_findKey hK h1, hz, Result.andThen]
  · rw [(m_at hnd h5 rfl).1]
    cases c <;> simp [Instr.lookup, run_underlying hT, MapKept.run_getObj_map hb, run_checkKey (k := .int q k) hK rfl, run_findKey hK h1, Result.andThen]
theorem heap_setBlock {o o' : Obj} (hb : w.heap[m]? = some o) : (setBlock w m o').heap[m]? = some o' := by
  have hl := (Array.getElem?_eq_some_iff.1 hb).1
  simp [setBlock, hl]
theorem run_update (h : MapIs q enc w m l) (hT : P.underlying T = some (.map K E)) (hK : P.underlying K = some (.int q)) (k : Int) (v : α) :
    ∃ o, ∀ W : World, W.heap[m]? = w.heap[m]? → (Instr.mapUpdate T (.map (some m)) (.int q k) (enc v)).run P W = .ok () (setBlock W m o) ∧ MapIs q enc (setBlock W m o) m (mput l k v) := by
  have hnd := h.nodup
  obtain ⟨es, clock, hb0, hs, he, h1 | ⟨j, e, v0, h1, h2, h3, h4, h5⟩⟩ := h.find k
  · obtain ⟨h1, h2, h3⟩ := h1
    refine ⟨.map (es.push ⟨.int q k, enc v, clock⟩) (clock + 1), fun W hW => ?_⟩
    have hb := hW.trans hb0
    refine ⟨by simp [Instr.mapUpdate, run_underlying hT, MapKept.run_getObj_map hb, run_checkKey (k := .int q k) hK rfl, run_findKey hK h1, MapKept.run_setObj_map _ hb, Result.andThen, setBlock], ?_⟩
    rw [mput_none h3]
    exact ⟨_, _, heap_setBlock hb, stamped_push hs h2, by simp [he]⟩
  · have hj : es[j]? = some e := by simpa using h2
    refine ⟨.map (es.modify j fun e => { e with key := .int q k, val := enc v }) clock, fun W hW => ?_⟩
    have hb := hW.trans hb0
    refine ⟨?_, ?_⟩
    · have hst : (Instr.keyThatStays (.int q k) (.int q k)).run P W = .ok (.int q k) W := by simp [Instr.keyThatStays, Instr.sameBits]
      simp [Instr.mapUpdate, run_underlying hT, MapKept.run_getObj_map hb, run_checkKey (k := .int q k) hK rfl, run_findKey hK h1, hj, h3, hst, MapKept.run_setObj_map _ hb, Result.andThen, setBlock]
    · rw [(m_at hnd h5 rfl).2.1 v]
      refine ⟨_, _, heap_setBlock hb, stamped_modify hs j _ (fun _ _ => rfl) (fun e' _ he' => by rw [hj] at he'; cases he'; exact h3.symm), ?_⟩
      have hl2 : (es.modify j (fun e' => { e' with key := Value.int q k, val := enc v })).toList = es.toList.set j { e with key := .int q k, val := enc v } := by
        rw [Array.toList_modify, modify_eq_set _ _ _ _ h2]
      rw [hl2, List.map_set, List.map_set, he]
theorem run_delete (h : MapIs q enc w m l) (hT : P.underlying T = some (.map K E)) (hK : P.underlying K = some (.int q)) (k : Int) :
    ∃ o, ∀ W : World, W.heap[m]? = w.heap[m]? → (∀ ty, (Builtin.delete_ #[T, K] ty #[.map (some m), .int q k]).run P W = .ok (.tuple #[]) (setBlock W m o)) ∧ MapIs q enc (setBlock W m o) m (mdel l k) := by
  have hnd := h.nodup
  obtain ⟨es, clock, hb0, hs, he, h1 | ⟨j, e, v0, h1, h2, h3, h4, h5⟩⟩ := h.find k
  · obtain ⟨h1, h2, h3⟩ := h1
    refine ⟨.map es clock, fun W hW => ?_⟩
    have hb := hW.trans hb0
    refine ⟨fun ty => by simp [Builtin.delete_, run_underlying hT, MapKept.run_getObj_map hb, run_checkKey (k := .int q k) hK rfl, run_findKey hK h1, MapKept.run_setObj_map _ hb, Result.andThen, setBlock], ?_⟩
    rw [mdel_none h3]
    exact ⟨_, _, heap_setBlock hb, hs, he⟩
  · have hjl : j < es.toList.length := (List.getElem?_eq_some_iff.1 h2).1
    have hjs : j < es.size := by simpa using hjl
    have hsub : (es.eraseIdxIfInBounds j).toList = es.toList.eraseIdx j := by
      unfold Array.eraseIdxIfInBounds
      rw [dif_pos hjs]
      simp
    refine ⟨.map (es.eraseIdxIfInBounds j) clock, fun W hW => ?_⟩
    have hb := hW.trans hb0
    refine ⟨fun ty => by simp [Builtin.delete_, run_underlying hT, MapKept.run_getObj_map hb, run_checkKey (k := .int q k) hK rfl, run_findKey hK h1, MapKept.run_setObj_map _ hb, Result.andThen, setBlock], ?_⟩
    rw [(m_at hnd h5 rfl).2.2]
    exact ⟨_, _, heap_setBlock hb, stamped_erase hs j, by rw [hsub, map_eraseIdx, map_eraseIdx, he]⟩
theorem run_clear (h : MapIs q enc w m l) (hT : P.underlying T = some (.map K E)) :
    ∃ o, ∀ W : World, W.heap[m]? = w.heap[m]? → (∀ ty, (Builtin.clear_ #[T] ty #[.map (some m)]).run P W = .ok (.tuple #[]) (setBlock W m o)) ∧ MapIs q enc (setBlock W m o) m ([] : List (Int × α)) := by
  obtain ⟨es, clock, hb0, hs, he⟩ := h
  refine ⟨.map #[] clock, fun W hW => ?_⟩
  have hb := hW.trans hb0
  exact ⟨fun ty => by simp [Builtin.clear_, run_underlying hT, MapKept.run_getObj_map hb, MapKept.run_setObj_map _ hb, Result.andThen, setBlock], _, _, heap_setBlock hb, stamped_empty _, rfl⟩
theorem same {W : World} (h : MapIs q enc w m l) (hW : W.heap[m]? = w.heap[m]?) : MapIs q enc W m l := by
  obtain ⟨es, clock, hb, r⟩ := h
  exact ⟨es, clock, hW.trans hb, r⟩
end MapIs
/-- A block's turn is seen in that block alone. -/
theorem Chg.setBlock {S : Nat → Prop} {w w1 : World} (h : Chg S w w1) (m : Nat) (o : Obj) (hm : m < w.heap.size → S m) : Chg S w (setBlock w1 m o) :=
  ⟨h.os, h.tape, h.output, by simpa [ChangeMaps.setBlock] using h.size, fun i hi hn => by
    have hne : m ≠ i := fun e => hn (by rw [← e]; exact hm (by rw [e]; exact hi))
    simp only [ChangeMaps.setBlock, Array.getElem?_setIfInBounds, if_neg hne]
    exact h.block i hi hn⟩
end Go.Proofs.Ytekjhfhlbkcklaa.K

/-
  My own kit, part a: worlds that part in named blocks alone (Chg); a block's cells; maps keyed by whole numbers. · My own kit, part b: maps keyed by whole numbers, as lists of pairs: look up, store, delete, clear. · My own kit, part c: maps keyed by whole numbers: what a store and a delete make, key by key. · My own kit, part d: a loop over a map keyed by whole numbers: whatever order the tape tells. · My own kit, part e: copy at elements of several cells; rows of structs of two cells; a row laid over by another.
-/
import Derived.WalkKit
import Derived.Below
import Derived.Maps.Own
import Derived.Deep.Draws
import Derived.Deep.RegionHeld3
import Derived.Deep.QuietTactic
import Derived.BigQuiet
import Derived.MapKept
import Derived.MapFrom
import Derived.ChangeMaps4
import Derived.Maps.OwnSet
import Derived.Maps.RangeRun
import Derived.Laws.CopyRow
import Derived.Laws.CopyOwn
import Derived.Laws.MakeOwn
set_option linter.unusedVariables false
set_option linter.unusedSimpArgs false
namespace Go.Proofs.Ytekjhfhlbkcklaa.K
open Go.RowKit

/-- What lay in w lies there still, but for the blocks of which S holds. -/
structure Chg (S : Nat → Prop) (w w' : World) : Prop where
  os : w'.os = w.os
  tape : w'.tape = w.tape
  output : w'.output = w.output
  size : w.heap.size ≤ w'.heap.size
  block : ∀ k, k < w.heap.size → ¬ S k → w'.heap[k]? = w.heap[k]?
namespace Chg
variable {S S' : Nat → Prop} {w w1 w2 : World}
theorem refl (S : Nat → Prop) (w : World) : Chg S w w := ⟨rfl, rfl, rfl, Nat.le_refl _, fun _ _ _ => rfl⟩
theorem trans (h : Chg S w w1) (k : Chg S w1 w2) : Chg S w w2 :=
  ⟨k.os.trans h.os, k.tape.trans h.tape, k.output.trans h.output, Nat.le_trans h.size k.size, fun i hi hn => (k.block i (Nat.lt_of_lt_of_le hi h.size) hn).trans (h.block i hi hn)⟩
theorem mono (h : Chg S w w1) (hS : ∀ k, k < w.heap.size → S k → S' k) : Chg S' w w1 := ⟨h.os, h.tape, h.output, h.size, fun i hi hn => h.block i hi (fun hs => hn (hS i hi hs))⟩
theorem below (h : Below w.heap.size w w1) (S : Nat → Prop) : Chg S w w1 := ⟨h.os, h.tape, h.output, h.size, fun i hi _ => h.block i hi⟩
theorem toBelow (h : Chg (fun _ => False) w w1) : Below w.heap.size w w1 := ⟨h.os, h.tape, h.output, h.size, fun i hi => h.block i hi (fun f => f)⟩
theorem then_below (h : Chg S w w1) (k : Below w1.heap.size w1 w2) : Chg S w w2 := h.trans (below k S)
theorem alloc (h : Chg S w w1) (o : Obj) : Chg S w (w1.alloc o) := h.then_below ((Below.refl _ _).alloc (Nat.le_refl _) _)
theorem drewN (h : Chg S w w1) (n : Nat) : Chg S w (w1.drewN n) := ⟨h.os, h.tape, h.output, h.size, h.block⟩
theorem drew (h : Chg S w w1) : Chg S w w1.drew := ⟨h.os, h.tape, h.output, h.size, h.block⟩
/-- A store into a block of S, or into one that is new since w. -/
theorem setCell (h : Chg S w w1) (p : Addr) (u : Value) (hp : p.block < w.heap.size → S p.block) : Chg S w (w1.setCell p u) :=
  ⟨h.os, h.tape, h.output, by simpa [World.setCell] using h.size, fun i hi hn => by
    rw [Below.heap_setCell _ _ _ _ (fun e => hn (by rw [e]; exact hp (by rw [← e]; exact hi)))]
    exact h.block i hi hn⟩
theorem heap (h : Chg S w w1) {k : Nat} {o : Obj} (hk : w.heap[k]? = some o) (hn : ¬ S k) : w1.heap[k]? = some o :=
  (h.block k (Array.getElem?_eq_some_iff.1 hk).1 hn).trans hk
theorem cell (h : Chg S w w1) {a : Addr} {v : Value} (hc : w.cell? a = some v) (hn : ¬ S a.block) : w1.cell? a = some v := by
  have hb := World.block_lt_of_cell? w a hc
  rw [World.cell?_of_block (w := w) (h.block _ hb hn)]
  exact hc
end Chg

/-- The cells of a block that is known whole. -/
def Blk (w : World) (b : Nat) (cs : List Value) (t : TypeId) : Prop := w.heap[b]? = some (.cells cs.toArray t (0, 0))
namespace Blk
variable {w w1 : World} {b : Nat} {cs : List Value} {t : TypeId}
theorem lt (h : Blk w b cs t) : b < w.heap.size := (Array.getElem?_eq_some_iff.1 h).1
theorem cell (h : Blk w b cs t) {i : Nat} {v : Value} (hi : cs[i]? = some v) : w.cell? ⟨b, i, none⟩ = some v := by
  unfold World.cell?; rw [h]; simpa using hi
theorem frozen (h : Blk w b cs t) (i : Nat) : w.frozen? ⟨b, i, none⟩ = false := by
  unfold World.frozen?; rw [h]; simp
theorem chg {S : Nat → Prop} (h : Blk w b cs t) (c : Chg S w w1) (hn : ¬ S b) : Blk w1 b cs t := c.heap h hn
theorem set (h : Blk w b cs t) (i : Nat) (v : Value) : Blk (w.setCell ⟨b, i, none⟩ v) b (cs.set i v) t := by
  have h' : w.heap[b]? = some (.cells cs.toArray t (0, 0)) := h
  unfold Blk World.setCell
  simp [Array.getElem?_modify, h']
theorem other (h : Blk w b cs t) {p : Addr} (hp : p.block ≠ b) (v : Value) : Blk (w.setCell p v) b cs t := by
  unfold Blk; rw [Below.heap_setCell _ _ _ _ (Ne.symm hp)]; exact h
theorem alloc (h : Blk w b cs t) (o : Obj) : Blk (w.alloc o) b cs t := by
  unfold Blk; rw [Below.heap_alloc _ _ _ h.lt]; exact h
theorem drewN (h : Blk w b cs t) (n : Nat) : Blk (w.drewN n) b cs t := h
theorem drew (h : Blk w b cs t) : Blk w.drew b cs t := h
end Blk
end Go.Proofs.Ytekjhfhlbkcklaa.K
namespace Go.Proofs.Ytekjhfhlbkcklaa.K
open Go.RowKit Go.MapKept
open Go.ChangeMaps (setBlock modify_eq_set map_eraseIdx)

variable {α : Type}
def mget : List (Int × α) → Int → Option α
  | [], _ => none
  | p :: l, k => if p.1 = k then some p.2 else mget l k
def mput : List (Int × α) → Int → α → List (Int × α)
  | [], k, v => [(k, v)]
  | p :: l, k, v => if p.1 = k then (k, v) :: l else p :: mput l k v
def mdel : List (Int × α) → Int → List (Int × α)
  | [], _ => []
  | p :: l, k => if p.1 = k then l else p :: mdel l k
theorem mget_none : ∀ {l : List (Int × α)} {k : Int}, (∀ p ∈ l, p.1 ≠ k) → mget l k = none
  | [], _, _ => rfl
  | p :: l, k, h => by rw [mget, if_neg (h p (.head _))]; exact mget_none fun q hq => h q (.tail _ hq)
theorem mput_none : ∀ {l : List (Int × α)} {k : Int} {v : α}, (∀ p ∈ l, p.1 ≠ k) → mput l k v = l ++ [(k, v)]
  | [], _, _, _ => rfl
  | p :: l, k, v, h => by rw [mput, if_neg (h p (.head _)), mput_none fun q hq => h q (.tail _ hq)]; rfl
theorem mdel_none : ∀ {l : List (Int × α)} {k : Int}, (∀ p ∈ l, p.1 ≠ k) → mdel l k = l
  | [], _, _ => rfl
  | p :: l, k, h => by rw [mdel, if_neg (h p (.head _)), mdel_none fun q hq => h q (.tail _ hq)]
theorem m_at : ∀ {l : List (Int × α)} {k : Int} {j : Nat} {p : Int × α}, (l.map (·.1)).Nodup → l[j]? = some p → p.1 = k →
    mget l k = some p.2 ∧ (∀ v, mput l k v = l.set j (k, v)) ∧ mdel l k = l.eraseIdx j
  | [], _, _, _, _, h, _ => by simp at h
  | q :: l, k, 0, p, _, h, hk => by
    obtain rfl : q = p := by simpa using h
    exact ⟨by rw [mget, if_pos hk], fun v => by rw [mput, if_pos hk]; rfl, by rw [mdel, if_pos hk]; rfl⟩
  | q :: l, k, j + 1, p, hn, h, hk => by
    have h' : l[j]? = some p := by simpa using h
    simp only [List.map_cons, List.nodup_cons] at hn
    have hne : q.1 ≠ k := fun e => hn.1 (by rw [e, ← hk]; exact List.mem_map.2 ⟨p, List.mem_of_getElem? h', rfl⟩)
    obtain ⟨a, b, c⟩ := m_at hn.2 h' hk
    exact ⟨by rw [mget, if_neg hne, a], fun v => by rw [mput, if_neg hne, b]; rfl, by rw [mdel, if_neg hne, c]; rfl⟩

/-- Block m is a map with keys of kind q that holds these pairs. -/
def MapIs (q : IntKind) (enc : α → Value) (w : World) (m : Nat) (l : List (Int × α)) : Prop :=
  ∃ es clock, w.heap[m]? = some (.map es clock) ∧ Stamped es clock ∧ es.toList.map (fun e => (e.key, e.val)) = l.map (fun p => (Value.int q p.1, enc p.2))
namespace MapIs
variable {P : Program} {q : IntKind} {enc : α → Value} {w w1 : World} {m : Nat} {l : List (Int × α)}
theorem lt (h : MapIs q enc w m l) : m < w.heap.size := by
  obtain ⟨es, clock, hb, _⟩ := h
  exact (Array.getElem?_eq_some_iff.1 hb).1
theorem chg {S : Nat → Prop} (h : MapIs q enc w m l) (c : Chg S w w1) (hn : ¬ S m) : MapIs q enc w1 m l := by
  obtain ⟨es, clock, hb, r⟩ := h
  exact ⟨es, clock, c.heap hb hn, r⟩
theorem alloc (h : MapIs q enc w m l) (o : Obj) : MapIs q enc (w.alloc o) m l := by
  obtain ⟨es, clock, hb, r⟩ := h
  exact ⟨es, clock, (Below.heap_alloc _ _ _ (Array.getElem?_eq_some_iff.1 hb).1).trans hb, r⟩
theorem setCell (h : MapIs q enc w m l) (p : Addr) (v : Value) : MapIs q enc (w.setCell p v) m l := by
  obtain ⟨es, clock, hb, r⟩ := h
  refine ⟨es, clock, ?_, r⟩
  simp only [World.setCell, Array.getElem?_modify]
  split
  · rw [hb]; rfl
  · exact hb
theorem drewN (h : MapIs q enc w m l) (n : Nat) : MapIs q enc (w.drewN n) m l := h
theorem drew (h : MapIs q enc w m l) : MapIs q enc w.drew m l := h
theorem made (q : IntKind) (enc : α → Value) (w : World) : MapIs q enc (w.alloc (.map #[] 0)) w.heap.size [] :=
  ⟨#[], 0, by show (w.heap.push _)[w.heap.size]? = _; simp, stamped_empty 0, rfl⟩
theorem nodup (h : MapIs q enc w m l) : (l.map (·.1)).Nodup := by
  obtain ⟨es, clock, _, hs, he⟩ := h
  have h1 : es.toList.map (·.key) = l.map (fun p => Value.int q p.1) := by
    have := congrArg (List.map Prod.fst) he
    simpa [List.map_map, Function.comp_def] using this
  have h2 := hs.2.2
  rw [h1] at h2
  rw [show (fun p : Int × α => Value.int q p.1) = (fun k : Int => Value.int q k) ∘ (·.1) from rfl, ← List.map_map] at h2
  simp only [List.Nodup, List.pairwise_map] at h2 ⊢
  exact h2.imp fun h e => h (by rw [e])
/-- Where the key is, or that it is not. -/
theorem find (h : MapIs q enc w m l) (k : Int) :
    ∃ es clock, w.heap[m]? = some (.map es clock) ∧ Stamped es clock ∧ es.toList.map (fun e => (e.key, e.val)) = l.map (fun p => (Value.int q p.1, enc p.2)) ∧
      ((Instr.findNow (.int q) (.int q k) es.toList 0 = some none ∧ (∀ x ∈ es.toList, x.key ≠ .int q k) ∧ ∀ p ∈ l, p.1 ≠ k) ∨
       ∃ j e v, Instr.findNow (.int q) (.int q k) es.toList 0 = some (some (j, enc v)) ∧ es.toList[j]? = some e ∧ e.key = .int q k ∧ e.val = enc v ∧ l[j]? = some (k, v)) := by
  obtain ⟨es, clock, hb, hs, he⟩ := h
  have hkeys : ∀ x ∈ es.toList, IsKey (.int q) x.key := by
    intro x hx
    have : (x.key, x.val) ∈ es.toList.map (fun e => (e.key, e.val)) := List.mem_map.2 ⟨x, hx, rfl⟩
    rw [he] at this
    obtain ⟨p, _, hp⟩ := List.mem_map.1 this
    have : x.key = .int q p.1 := (congrArg Prod.fst hp).symm
    rw [this]
    exact rfl
  refine ⟨es, clock, hb, hs, he, ?_⟩
  rcases findNow_spec (d := .int q) (k := .int q k) rfl es.toList 0 hkeys with ⟨h1, h2⟩ | ⟨j, e, h1, h2, h3⟩
  · refine .inl ⟨h1, h2, fun p hp hk => ?_⟩
    have : (Value.int q p.1, enc p.2) ∈ es.toList.map (fun e => (e.key, e.val)) := by rw [he]; exact List.mem_map.2 ⟨p, hp, rfl⟩
    obtain ⟨x, hx, hxe⟩ := List.mem_map.1 this
    exact h2 x hx (by rw [show x.key = .int q p.1 from congrArg Prod.fst hxe, hk])
  · have h4 : (es.toList.map (fun e => (e.key, e.val)))[j]? = some (e.key, e.val) := by rw [List.getElem?_map, h2]; rfl
    rw [he, List.getElem?_map] at h4
    obtain ⟨p, hp, hpe⟩ := Option.map_eq_some_iff.1 h4
    have k1 : Value.int q p.1 = e.key := congrArg Prod.fst hpe
    have v1 : enc p.2 = e.val := congrArg Prod.snd hpe
    rw [h3] at k1
    obtain ⟨pk, pv⟩ := p
    obtain rfl : pk = k := by simpa using k1
    exact .inr ⟨j, e, pv, by rw [h1, Nat.zero_add, ← v1], h2, h3, v1.symm, hp⟩

variable {T K E : TypeId} {ty : TypeId}
theorem run_lookup (h : MapIs q enc w m l) (hT : P.underlying T = some (.map K E)) (hK : P.underlying K = some (.int q)) {z : Value} (hz : (zeroValue E).run P w = .ok z w) (k : Int) (c : Bool) :
    (Instr.lookup T (.map (some m)) (.int q k) c).run P w = .ok (if c then .tuple #[((mget l k).map enc).getD z, .bool (mget l k).isSome] else ((mget l k).map enc).getD z) w := by
  have hnd := h.nodup
  obtain ⟨es, clock, hb, hs, he, h1 | ⟨j, e, v, h1, h2, h3, h4, h5⟩⟩ := h.find k
  · obtain ⟨h1, h2, h3⟩ := h1
    rw [mget_none h3]
    cases c <;> simp [Instr.lookup, run_underlying hT, MapKept.run_getObj_map hb, run_checkKey (k := .int q k) hK rfl, run_findKey hK h1, hz, Result.andThen]
  · rw [(m_at hnd h5 rfl).1]
    cases c <;> simp [Instr.lookup, run_underlying hT, MapKept.run_getObj_map hb, run_checkKey (k := .int q k) hK rfl, run_findKey hK h1, Result.andThen]
theorem heap_setBlock {o o' : Obj} (hb : w.heap[m]? = some o) : (setBlock w m o').heap[m]? = some o' := by
  have hl := (Array.getElem?_eq_some_iff.1 hb).1
  simp [setBlock, hl]
theorem run_update (h : MapIs q enc w m l) (hT : P.underlying T = some (.map K E)) (hK : P.underlying K = some (.int q)) (k : Int) (v : α) :
    ∃ o, ∀ W : World, W.heap[m]? = w.heap[m]? → (Instr.mapUpdate T (.map (some m)) (.int q k) (enc v)).run P W = .ok () (setBlock W m o) ∧ MapIs q enc (setBlock W m o) m (mput l k v) := by
  have hnd := h.nodup
  obtain ⟨es, clock, hb0, hs, he, h1 | ⟨j, e, v0, h1, h2, h3, h4, h5⟩⟩ := h.find k
  · obtain ⟨h1, h2, h3⟩ := h1
    refine ⟨.map (es.push ⟨.int q k, enc v, clock⟩) (clock + 1), fun W hW => ?_⟩
    have hb := hW.trans hb0
    refine ⟨by simp [Instr.mapUpdate, run_underlying hT, MapKept.run_getObj_map hb, run_checkKey (k := .int q k) hK rfl, run_findKey hK h1, MapKept.run_setObj_map _ hb, Result.andThen, setBlock], ?_⟩
    rw [mput_none h3]
    exact ⟨_, _, heap_setBlock hb, stamped_push hs h2, by simp [he]⟩
  · have hj : es[j]? = some e := by simpa using h2
    refine ⟨.map (es.modify j fun e => { e with key := .int q k, val := enc v }) clock, fun W hW => ?_⟩
    have hb := hW.trans hb0
    refine ⟨?_, ?_⟩
    · have hst : (Instr.keyThatStays (.int q k) (.int q k)).run P W = .ok (.int q k) W := by simp [Instr.keyThatStays, Instr.sameBits]
      simp [Instr.mapUpdate, run_underlying hT, MapKept.run_getObj_map hb, run_checkKey (k := .int q k) hK rfl, run_findKey hK h1, hj, h3, hst, MapKept.run_setObj_map _ hb, Result.andThen, setBlock]
    · rw [(m_at hnd h5 rfl).2.1 v]
      refine ⟨_, _, heap_setBlock hb, stamped_modify hs j _ (fun _ _ => rfl) (fun e' _ he' => by rw [hj] at he'; cases he'; exact h3.symm), ?_⟩
      have hl2 : (es.modify j (fun e' => { e' with key := Value.int q k, val := enc v })).toList = es.toList.set j { e with key := .int q k, val := enc v } := by
        rw [Array.toList_modify, modify_eq_set _ _ _ _ h2]
      rw [hl2, List.map_set, List.map_set, he]
theorem run_delete (h : MapIs q enc w m l) (hT : P.underlying T = some (.map K E)) (hK : P.underlying K = some (.int q)) (k : Int) :
    ∃ o, ∀ W : World, W.heap[m]? = w.heap[m]? → (∀ ty, (Builtin.delete_ #[T, K] ty #[.map (some m), .int q k]).run P W = .ok (.tuple #[]) (setBlock W m o)) ∧ MapIs q enc (setBlock W m o) m (mdel l k) := by
  have hnd := h.nodup
  obtain ⟨es, clock, hb0, hs, he, h1 | ⟨j, e, v0, h1, h2, h3, h4, h5⟩⟩ := h.find k
  · obtain ⟨h1, h2, h3⟩ := h1
    refine ⟨.map es clock, fun W hW => ?_⟩
    have hb := hW.trans hb0
    refine ⟨fun ty => by simp [Builtin.delete_, run_underlying hT, MapKept.run_getObj_map hb, run_checkKey (k := .int q k) hK rfl, run_findKey hK h1, MapKept.run_setObj_map _ hb, Result.andThen, setBlock], ?_⟩
    rw [mdel_none h3]
    exact ⟨_, _, heap_setBlock hb, hs, he⟩
  · have hjl : j < es.toList.length := (List.getElem?_eq_some_iff.1 h2).1
    have hjs : j < es.size := by simpa using hjl
    have hsub : (es.eraseIdxIfInBounds j).toList = es.toList.eraseIdx j := by
      unfold Array.eraseIdxIfInBounds
      rw [dif_pos hjs]
      simp
    refine ⟨.map (es.eraseIdxIfInBounds j) clock, fun W hW => ?_⟩
    have hb := hW.trans hb0
    refine ⟨fun ty => by simp [Builtin.delete_, run_underlying hT, MapKept.run_getObj_map hb, run_checkKey (k := .int q k) hK rfl, run_findKey hK h1, MapKept.run_setObj_map _ hb, Result.andThen, setBlock], ?_⟩
    rw [(m_at hnd h5 rfl).2.2]
    exact ⟨_, _, heap_setBlock hb, stamped_erase hs j, by rw [hsub, map_eraseIdx, map_eraseIdx, he]⟩
theorem run_clear (h : MapIs q enc w m l) (hT : P.underlying T = some (.map K E)) :
    ∃ o, ∀ W : World, W.heap[m]? = w.heap[m]? → (∀ ty, (Builtin.clear_ #[T] ty #[.map (some m)]).run P W = .ok (.tuple #[]) (setBlock W m o)) ∧ MapIs q enc (setBlock W m o) m ([] : List (Int × α)) := by
  obtain ⟨es, clock, hb0, hs, he⟩ := h
  refine ⟨.map #[] clock, fun W hW => ?_⟩
  have hb := hW.trans hb0
  exact ⟨fun ty => by simp [Builtin.clear_, run_underlying hT, MapKept.run_getObj_map hb, MapKept.run_setObj_map _ hb, Result.andThen, setBlock], _, _, heap_setBlock hb, stamped_empty _, rfl⟩
theorem same {W : World} (h : MapIs q enc w m l) (hW : W.heap[m]? = w.heap[m]?) : MapIs q enc W m l := by
  obtain ⟨es, clock, hb, r⟩ := h
  exact ⟨es, clock, hW.trans hb, r⟩
end MapIs
/-- A block's turn is seen in that block alone. -/
theorem Chg.setBlock {S : Nat → Prop} {w w1 : World} (h : Chg S w w1) (m : Nat) (o : Obj) (hm : m < w.heap.size → S m) : Chg S w (setBlock w1 m o) :=
  ⟨h.os, h.tape, h.output, by simpa [ChangeMaps.setBlock] using h.size, fun i hi hn => by
    have hne : m ≠ i := fun e => hn (by rw [← e]; exact hm (by rw [e]; exact hi))
    simp only [ChangeMaps.setBlock, Array.getElem?_setIfInBounds, if_neg hne]
    exact h.block i hi hn⟩
end Go.Proofs.Ytekjhfhlbkcklaa.K
namespace Go.Proofs.Ytekjhfhlbkcklaa.K
variable {α : Type}
theorem mget_mput : ∀ (l : List (Int × α)) (k : Int) (v : α), mget (mput l k v) k = some v
  | [], k, v => by simp [mput, mget]
  | p :: l, k, v => by
    unfold mput; split
    · simp [mget]
    · rename_i h; simp only [mget, if_neg h]; exact mget_mput l k v
theorem mget_mput_ne : ∀ (l : List (Int × α)) (k k' : Int) (v : α), k ≠ k' → mget (mput l k v) k' = mget l k'
  | [], k, k', v, h => by simp [mput, mget, h]
  | p :: l, k, k', v, h => by
    unfold mput; split
    · rename_i hp; simp [mget, h, hp]
    · simp only [mget]; split
      · rfl
      · exact mget_mput_ne l k k' v h
theorem mget_mdel_ne : ∀ (l : List (Int × α)) (k k' : Int), k ≠ k' → mget (mdel l k) k' = mget l k'
  | [], k, k', h => rfl
  | p :: l, k, k', h => by
    unfold mdel; split
    · rename_i hp; simp [mget, hp, h]
    · simp only [mget]; split
      · rfl
      · exact mget_mdel_ne l k k' h
theorem mget_none' : ∀ {l : List (Int × α)} {k : Int}, k ∉ l.map (·.1) → mget l k = none := fun h => mget_none fun p hp e => h (List.mem_map.2 ⟨p, hp, e⟩)
theorem mget_mdel : ∀ (l : List (Int × α)) (k : Int), (l.map (·.1)).Nodup → mget (mdel l k) k = none
  | [], k, _ => rfl
  | p :: l, k, h => by
    simp only [List.map_cons, List.nodup_cons] at h
    unfold mdel; split
    · rename_i hp; exact mget_none' (by rw [← hp]; exact h.1)
    · rename_i hp; simp only [mget, if_neg hp]; exact mget_mdel l k h.2
theorem mem_mput : ∀ (l : List (Int × α)) (k : Int) (v : α) (x : Int), x ∈ (mput l k v).map (·.1) ↔ x = k ∨ x ∈ l.map (·.1)
  | [], k, v, x => by simp [mput]
  | p :: l, k, v, x => by
    unfold mput; split
    · rename_i hp; simp [hp]
    · simp only [List.map_cons, List.mem_cons]
      rw [mem_mput l k v x]
      constructor <;> rintro (h | h | h) <;> simp_all
theorem mput_nodup : ∀ (l : List (Int × α)) (k : Int) (v : α), (l.map (·.1)).Nodup → ((mput l k v).map (·.1)).Nodup
  | [], k, v, _ => by simp [mput]
  | p :: l, k, v, h => by
    simp only [List.map_cons, List.nodup_cons] at h
    unfold mput; split
    · rename_i hp; simp only [List.map_cons, List.nodup_cons]; rw [← hp]; exact h
    · rename_i hp
      simp only [List.map_cons, List.nodup_cons]
      exact ⟨fun hm => by rcases (mem_mput l k v p.1).1 hm with e | e; exact hp e; exact h.1 e, mput_nodup l k v h.2⟩
theorem mdel_sub : ∀ (l : List (Int × α)) (k : Int) (x : Int), x ∈ (mdel l k).map (·.1) → x ∈ l.map (·.1)
  | [], k, x, h => h
  | p :: l, k, x, h => by
    unfold mdel at h; split at h
    · simp only [List.map_cons, List.mem_cons]; exact .inr h
    · simp only [List.map_cons, List.mem_cons] at h ⊢
      exact h.imp id (mdel_sub l k x)
theorem mdel_nodup : ∀ (l : List (Int × α)) (k : Int), (l.map (·.1)).Nodup → ((mdel l k).map (·.1)).Nodup
  | [], k, _ => by simp [mdel]
  | p :: l, k, h => by
    simp only [List.map_cons, List.nodup_cons] at h
    unfold mdel; split
    · exact h.2
    · simp only [List.map_cons, List.nodup_cons]
      exact ⟨fun hm => h.1 (mdel_sub l k _ hm), mdel_nodup l k h.2⟩
theorem mget_mem : ∀ {l : List (Int × α)} {k : Int} {v : α}, mget l k = some v → (k, v) ∈ l
  | [], k, v, h => by simp [mget] at h
  | p :: l, k, v, h => by
    unfold mget at h; split at h
    · rename_i hp; simp at h; subst hp h; exact .head _
    · exact .tail _ (mget_mem h)
theorem mem_mget : ∀ {l : List (Int × α)} {k : Int} {v : α}, (l.map (·.1)).Nodup → (k, v) ∈ l → mget l k = some v
  | p :: l, k, v, hn, h => by
    simp only [List.map_cons, List.nodup_cons] at hn
    rcases List.mem_cons.1 h with rfl | h
    · simp [mget]
    · have : p.1 ≠ k := fun e => hn.1 (by rw [e]; exact List.mem_map.2 ⟨_, h, rfl⟩)
      rw [mget, if_neg this]
      exact mem_mget hn.2 h
theorem Blk.setBlock {w : World} {b : Nat} {cs : List Value} {t : TypeId} (h : Blk w b cs t) {m : Nat} (hm : m ≠ b) (o : Obj) : Blk (ChangeMaps.setBlock w m o) b cs t := by
  unfold Blk ChangeMaps.setBlock
  simp only [Array.getElem?_setIfInBounds, if_neg hm]
  exact h
theorem MapIs.setCell' {q : IntKind} {enc : α → Value} {w : World} {m : Nat} {l : List (Int × α)} (h : MapIs q enc w m l) (p : Addr) (v : Value) : MapIs q enc (w.setCell p v) m l := h.setCell p v
end Go.Proofs.Ytekjhfhlbkcklaa.K
namespace Go.Proofs.Ytekjhfhlbkcklaa.K
open Go.RowKit Go.MapKept
open Go.ChangeMaps (setBlock)
variable {α : Type}
theorem filt_perm {β : Type} (g : β → Nat) (z : β) (seen : Array Nat) (hs : seen.contains (g z) = false) : ∀ (Z : List β), (Z.map g).Nodup → z ∈ Z →
    (Z.filter (fun y => !seen.contains (g y))).Perm (z :: Z.filter (fun y => !(seen.push (g z)).contains (g y)))
  | [], _, h => by simp at h
  | y :: Z, hn, h => by
    simp only [List.map_cons, List.nodup_cons] at hn
    rcases List.mem_cons.1 h with rfl | hz
    · have e1 : (!seen.contains (g z)) = true := by rw [hs]; rfl
      have e2 : (!(seen.push (g z)).contains (g z)) = false := by rw [contains_push]; simp
      rw [List.filter_cons_of_pos (p := fun y => !seen.contains (g y)) e1, List.filter_cons_of_neg (p := fun y => !(seen.push (g z)).contains (g y)) (by rw [e2]; simp)]
      refine List.Perm.cons _ (List.Perm.of_eq (List.filter_congr fun x hx => ?_))
      have hne : g x ≠ g z := fun e => hn.1 (by rw [← e]; exact List.mem_map.2 ⟨x, hx, rfl⟩)
      rw [contains_push]
      simp [hne]
    · have hne : g y ≠ g z := fun e => hn.1 (by rw [e]; exact List.mem_map.2 ⟨z, hz, rfl⟩)
      have ih := filt_perm g z seen hs Z hn.2 hz
      have e2 : (seen.push (g z)).contains (g y) = seen.contains (g y) := by rw [contains_push]; simp [hne]
      cases hc : seen.contains (g y) with
      | true =>
        rw [List.filter_cons_of_neg (by rw [hc]; simp), List.filter_cons_of_neg (by rw [e2, hc]; simp)]
        exact ih
      | false =>
        rw [List.filter_cons_of_pos (by rw [hc]; rfl), List.filter_cons_of_pos (by rw [e2, hc]; rfl)]
        exact (ih.cons y).trans (List.Perm.swap z y _)

/-- Block r is an iterator over the map in block m, which holds l; rest is still to come. -/
def Iter (q : IntKind) (enc : α → Value) (w : World) (m r : Nat) (l rest : List (Int × α)) : Prop :=
  ∃ es clock since seen c0, w.heap[m]? = some (.map es clock) ∧ Stamped es clock ∧ es.toList.map (fun e => (e.key, e.val)) = l.map (fun p => (Value.int q p.1, enc p.2)) ∧
    w.heap[r]? = some (.mapIter (some m) since seen c0) ∧ (∀ x ∈ es.toList, x.born < since) ∧ since ≤ c0 ∧ since ≤ clock ∧ rest = ((es.toList.zip l).filter (fun z => !seen.contains z.1.born)).map (·.2)
namespace Iter
variable {P : Program} {q : IntKind} {enc : α → Value} {w w1 : World} {m r : Nat} {l rest : List (Int × α)}
theorem map (h : Iter q enc w m r l rest) : MapIs q enc w m l := by
  obtain ⟨es, clock, _, _, _, hb, hs, he, _⟩ := h
  exact ⟨es, clock, hb, hs, he⟩
theorem lt (h : Iter q enc w m r l rest) : r < w.heap.size := by
  obtain ⟨es, clock, since, seen, c0, _, _, _, hr, _⟩ := h
  exact (Array.getElem?_eq_some_iff.1 hr).1
theorem ne (h : Iter q enc w m r l rest) : r ≠ m := by
  obtain ⟨es, clock, since, seen, c0, hb, _, _, hr, _⟩ := h
  rintro rfl
  rw [hb] at hr; simp at hr
theorem keep (h : Iter q enc w m r l rest) (hm : w1.heap[m]? = w.heap[m]?) (hr' : w1.heap[r]? = w.heap[r]?) : Iter q enc w1 m r l rest := by
  obtain ⟨es, clock, since, seen, c0, hb, hs, he, hr, x⟩ := h
  exact ⟨es, clock, since, seen, c0, hm.trans hb, hs, he, hr'.trans hr, x⟩
theorem chg {S : Nat → Prop} (h : Iter q enc w m r l rest) (c : Chg S w w1) (hm : ¬ S m) (hr' : ¬ S r) : Iter q enc w1 m r l rest := h.keep (c.block m h.map.lt hm) (c.block r h.lt hr')
theorem alloc (h : Iter q enc w m r l rest) (o : Obj) : Iter q enc (w.alloc o) m r l rest := h.chg (Chg.alloc (Chg.refl (fun _ => False) w) o) (fun f => f) (fun f => f)
theorem drewN (h : Iter q enc w m r l rest) (n : Nat) : Iter q enc (w.drewN n) m r l rest := h
theorem drew (h : Iter q enc w m r l rest) : Iter q enc w.drew m r l rest := h
theorem setCell (h : Iter q enc w m r l rest) (p : Addr) (v : Value) : Iter q enc (w.setCell p v) m r l rest := by
  obtain ⟨es, clock, since, seen, c0, hb, hs, he, hr, x⟩ := h
  refine ⟨es, clock, since, seen, c0, ?_, hs, he, ?_, x⟩
  · simp only [World.setCell, Array.getElem?_modify]; split
    · rw [hb]; rfl
    · exact hb
  · simp only [World.setCell, Array.getElem?_modify]; split
    · rw [hr]; rfl
    · exact hr
/-- The loop begins. -/
theorem start {T K E : TypeId} (h : MapIs q enc w m l) (hT : P.underlying T = some (.map K E)) :
    ∃ o, (Instr.range T (.map (some m))).run P w = .ok (.pointer (some ⟨w.heap.size, 0, none⟩)) (w.alloc o) ∧ Iter q enc (w.alloc o) m w.heap.size l l := by
  obtain ⟨es, clock, hb, hs, he⟩ := h
  refine ⟨_, run_range_map w T K E m es clock hT hb, es, clock, clock, #[], clock, (Below.heap_alloc _ _ _ (Array.getElem?_eq_some_iff.1 hb).1).trans hb, hs, he, heap_alloc_new w _, hs.1, Nat.le_refl _, Nat.le_refl _, ?_⟩
  have hl : es.toList.length = l.length := by have := congrArg List.length he; simpa using this
  rw [List.filter_eq_self.2 (by simp), List.map_snd_zip (by omega)]
/-- The step: nothing is left, or one that is left comes out. -/
theorem next (h : Iter q enc w m r l rest) :
    (rest = [] ∧ ∀ ty, (Instr.next (.pointer (some ⟨r, 0, none⟩)) false ty).run P w = .ok (.tuple #[.bool false]) w) ∨
    ∃ (p : Int × α) (rest' : List (Int × α)) (o : Obj) (w1 : World), p ∈ l ∧ rest.Perm (p :: rest') ∧ (w1 = w ∨ w1 = w.drew) ∧
      (∀ ty, (Instr.next (.pointer (some ⟨r, 0, none⟩)) false ty).run P w = .ok (.tuple #[.bool true, .int q p.1, enc p.2]) (setBlock w1 r o)) ∧
      Iter q enc (setBlock w1 r o) m r l rest' ∧ (∀ W : World, W.heap[m]? = (setBlock w1 r o).heap[m]? → W.heap[r]? = (setBlock w1 r o).heap[r]? → (Instr.entry (.pointer (some ⟨r, 0, none⟩))).run P W = .ok (.tuple #[.int q p.1, enc p.2]) W) := by
  have hne := h.ne
  have hlt := h.lt
  obtain ⟨es, clock, since, seen, c0, hb, hs, he, hr, hold, hsc, hcl, rfl⟩ := h
  have hl : es.toList.length = l.length := by have := congrArg List.length he; simpa using this
  rcases run_next_at (P := P) w 0 r m since c0 seen es clock hr hb hold hsc with ⟨h0, _⟩ | ⟨e, he0, w1, hal, _⟩
  · left
    have hall := all_seen es seen h0
    refine ⟨?_, fun ty => ?_⟩
    · rw [List.map_eq_nil_iff, List.filter_eq_nil_iff]
      intro z hz
      rw [hall z.1 (List.of_mem_zip hz).1]; simp
    · rcases run_next_at (P := P) w ty r m since c0 seen es clock hr hb hold hsc with ⟨_, hrun⟩ | ⟨e, he0, _⟩
      · exact hrun
      · have := mem_left he0
        rw [hall e this.1] at this
        simp at this
  · right
    have hrun : ∃ (w1 : World) (e : MapEntry), e ∈ (leftOf es seen).toList ∧ (w1 = w ∨ w1 = w.drew) ∧ ∀ ty, (Instr.next (.pointer (some ⟨r, 0, none⟩)) false ty).run P w = .ok (.tuple #[.bool true, e.key, e.val]) (setBlock w1 r (.mapIter (some m) since (seen.push e.born) clock)) := by
      rcases run_next_at (P := P) w 0 r m since c0 seen es clock hr hb hold hsc with ⟨h0, _⟩ | ⟨e, he0, w1, hal, hrun⟩
      · have := mem_left he0
        rw [all_seen es seen h0 e this.1] at this
        simp at this
      · exact ⟨w1, e, he0, hal, fun ty => hrun⟩
    obtain ⟨w1, e, he0, hal, hrun⟩ := hrun
    obtain ⟨hem, hes⟩ := mem_left he0
    obtain ⟨j, hj⟩ := List.getElem?_of_mem hem
    have hjl : j < l.length := by rw [← hl]; exact (List.getElem?_eq_some_iff.1 hj).1
    obtain ⟨p, hp⟩ : ∃ p, l[j]? = some p := ⟨_, List.getElem?_eq_getElem hjl⟩
    have hkv : (e.key, e.val) = (Value.int q p.1, enc p.2) := by
      have h1 : (es.toList.map (fun e => (e.key, e.val)))[j]? = some (e.key, e.val) := by rw [List.getElem?_map, hj]; rfl
      rw [he, List.getElem?_map, hp] at h1
      simpa using h1.symm
    have hk1 : e.key = Value.int q p.1 := congrArg Prod.fst hkv
    have hv1 : e.val = enc p.2 := congrArg Prod.snd hkv
    have hz : (e, p) ∈ es.toList.zip l := List.mem_of_getElem? (i := j) (by rw [List.getElem?_zip_eq_some]; exact ⟨hj, hp⟩)
    have hnd : ((es.toList.zip l).map (fun z => z.1.born)).Nodup := by
      have : (es.toList.zip l).map (fun z => z.1.born) = es.toList.map (·.born) := by
        rw [show (fun z : MapEntry × (Int × α) => z.1.born) = (fun x : MapEntry => x.born) ∘ Prod.fst from rfl, ← List.map_map, List.map_fst_zip (by omega)]
      rw [this]; exact hs.2.1
    have hpm := (filt_perm (fun z : MapEntry × (Int × α) => z.1.born) (e, p) seen hes (es.toList.zip l) hnd hz).map (·.2)
    have hr1 : w1.heap[r]? = some (.mapIter (some m) since seen c0) := by rcases hal with rfl | rfl <;> exact hr
    have hb1 : w1.heap[m]? = some (.map es clock) := by rcases hal with rfl | rfl <;> exact hb
    have hset : (setBlock w1 r (.mapIter (some m) since (seen.push e.born) clock)).heap[r]? = some (.mapIter (some m) since (seen.push e.born) clock) := MapIs.heap_setBlock hr1
    have hbset : (setBlock w1 r (.mapIter (some m) since (seen.push e.born) clock)).heap[m]? = some (.map es clock) := by
      simp only [setBlock, Array.getElem?_setIfInBounds, if_neg hne]; exact hb1
    refine ⟨p, _, _, w1, List.mem_of_getElem? hp, hpm, hal, fun ty => by rw [← hk1, ← hv1]; exact hrun ty, ⟨es, clock, since, seen.push e.born, clock, hbset, hs, he, hset, hold, hcl, hcl, rfl⟩, fun W hm hr' => ?_⟩
    rw [← hk1, ← hv1]
    exact run_entry_at W r m since seen es clock e (hr'.trans hset) (hm.trans hbset) hem hs.2.1
end Iter
end Go.Proofs.Ytekjhfhlbkcklaa.K
namespace Go.Proofs.Ytekjhfhlbkcklaa.K
open Go.RowKit
theorem Blk.setRow {w : World} {g : Nat} {cs : List Value} {t : TypeId} (h : Blk w g cs t) (cs' : List Value) : Blk (w.setRow g cs'.toArray) g cs' t := setRow_heap w g _ _ t _ h
theorem Blk.setRow_other {w : World} {g b : Nat} {cs : List Value} {t : TypeId} (h : Blk w b cs t) (hne : b ≠ g) (cs' : Array Value) : Blk (w.setRow g cs') b cs t := by
  unfold Blk; rw [Go.setRow_other w g b cs' hne]; exact h
theorem Chg.setRow {S : Nat → Prop} {w w1 : World} (h : Chg S w w1) (g : Nat) (cs : Array Value) (hg : g < w.heap.size → S g) : Chg S w (w1.setRow g cs) :=
  ⟨h.os, h.tape, h.output, by simpa [World.setRow] using h.size, fun i hi hn => by
    rw [Go.setRow_other w1 g i cs (fun e => hn (by rw [e]; exact hg (by rw [← e]; exact hi)))]
    exact h.block i hi hn⟩
theorem MapIs.setRow {α : Type} {q : IntKind} {enc : α → Value} {w : World} {m : Nat} {l : List (Int × α)} (h : MapIs q enc w m l) {g : Nat} (hg : m ≠ g) (cs : Array Value) : MapIs q enc (w.setRow g cs) m l := h.same (Go.setRow_other w g m cs hg)
theorem run_copy_many {P : Program} (w : World) (dT sT ty elem : TypeId) (g o dLen dCap : Nat) (sp : Option Addr) (sLen sCap sz : Nat) (cur : List Value) (t : TypeId) (cs : List Value)
    (hu : P.underlying dT = some (.slice elem)) (hs : (P.info? elem).map (·.size) = some sz) (hsz : 0 < sz)
    (hg : Blk w g cur t) (hn : cs.length = Nat.min sLen dLen * sz)
    (hsrc : 0 < cs.length → ∃ a, sp = some a ∧ ∀ j v, cs[j]? = some v → w.cell? (a.add j) = some v) (hfit : o + cs.length ≤ cur.length) (h1 : ∀ v ∈ cs, v.oneCell' = true) :
    (Builtin.copy_ #[dT, sT] ty #[.slice (some ⟨g, o, none⟩) dLen dCap, .slice sp sLen sCap]).run P w =
      .ok (goInt (Nat.min sLen dLen)) (w.setRow g (splice cur o cs).toArray) := by
  have hg' : w.heap[g]? = some (.cells cur.toArray t (0, 0)) := hg
  have hst := run_storeCells_at P g o t cs 0 cur.toArray w hg' (by simpa using hfit) h1
  cases hq : P.info? elem with
  | none => simp [hq] at hs
  | some i =>
    have hi : i.size = sz := by simpa [hq] using hs
    by_cases h0 : cs.length = 0
    · obtain rfl : cs = [] := List.eq_nil_of_length_eq_zero h0
      have hm : Nat.min sLen dLen = 0 := by
        rcases Nat.mul_eq_zero.1 hn.symm with h | h
        · exact h
        · omega
      have e : splice cur o [] = cur := by simp [splice]
      rw [e, setRow_self w g cur.toArray t (0, 0) hg']
      cases sp with
      | none => simp [Builtin.copy_, run_underlying hu, Builtin.lenOf, Builtin.firstCells, sizeOf, typeInfo, hq, hi, hm, storeCells]
      | some a =>
        have hl := run_loadCells_list (P := P) w a [] (fun j v h => by simp at h)
        simp only [List.length_nil] at hl
        simp [Builtin.copy_, run_underlying hu, Builtin.lenOf, Builtin.firstCells, sizeOf, typeInfo, hq, hi, hm, storeCells, hl]
    · obtain ⟨a, rfl, hsrc'⟩ := hsrc (by omega)
      have hl := run_loadCells_list (P := P) w a cs hsrc'
      simp [Builtin.copy_, run_underlying hu, Builtin.lenOf, Builtin.firstCells, sizeOf, typeInfo, hq, hi, ← hn, hl, hst, splice]
/-- The cells of a row of pairs. -/
def prCells (f g : Int → Value) (l : List (Int × Int)) : List Value := l.flatMap (fun p => [f p.1, g p.2])
section
variable (f g : Int → Value)
theorem prCells_length : ∀ l : List (Int × Int), (prCells f g l).length = 2 * l.length
  | [] => rfl
  | p :: l => by have := prCells_length l; simp only [prCells, List.flatMap_cons, List.length_append, List.length_cons, List.length_nil] at *; omega
theorem prCells_append (l r : List (Int × Int)) : prCells f g (l ++ r) = prCells f g l ++ prCells f g r := by simp [prCells]
theorem prCells_get : ∀ (l : List (Int × Int)) (j : Nat) (p : Int × Int), l[j]? = some p → (prCells f g l)[j * 2]? = some (f p.1) ∧ (prCells f g l)[j * 2 + 1]? = some (g p.2)
  | [], j, p, h => by simp at h
  | x :: l, 0, p, h => by
    obtain rfl : x = p := by simpa using h
    exact ⟨rfl, rfl⟩
  | x :: l, j + 1, p, h => by
    have := prCells_get l j p (by simpa using h)
    have e : prCells f g (x :: l) = f x.1 :: g x.2 :: prCells f g l := rfl
    rw [e, show (j + 1) * 2 = j * 2 + 1 + 1 by omega, List.getElem?_cons_succ, List.getElem?_cons_succ, List.getElem?_cons_succ, List.getElem?_cons_succ]
    exact this
theorem prCells_set : ∀ (l : List (Int × Int)) (j : Nat) (p : Int × Int), j < l.length → ((prCells f g l).set (j * 2) (f p.1)).set (j * 2 + 1) (g p.2) = prCells f g (l.set j p)
  | [], j, p, h => by simp at h
  | x :: l, 0, p, h => rfl
  | x :: l, j + 1, p, h => by
    have := prCells_set l j p (by simpa using h)
    have e : prCells f g (x :: l) = f x.1 :: g x.2 :: prCells f g l := rfl
    rw [e, show (j + 1) * 2 = j * 2 + 1 + 1 by omega]
    simp only [List.set_cons_succ]
    rw [this]; rfl
theorem prCells_rep (n : Nat) : (madeCells #[f 0, g 0] (n * 2)).toList = prCells f g (List.replicate n (0, 0)) := by
  apply List.ext_getElem?
  intro i
  by_cases hi : i < n * 2
  · have hl : (madeCells #[f 0, g 0] (n * 2)).toList[i]? = some (#[f 0, g 0][i % 2]!) := by
      simp [madeCells, hi]
    rw [hl]
    have h1 : (List.replicate n ((0 : Int), (0 : Int)))[i / 2]? = some (0, 0) := by rw [List.getElem?_replicate]; rw [if_pos (by omega)]
    have h2 := prCells_get f g _ _ _ h1
    rcases Nat.mod_two_eq_zero_or_one i with h | h
    · rw [h, show i = i / 2 * 2 by omega, h2.1]; rfl
    · rw [h, show i = i / 2 * 2 + 1 by omega, h2.2]; rfl
  · rw [List.getElem?_eq_none (by simp [madeCells]; omega), List.getElem?_eq_none (by rw [prCells_length]; simp; omega)]
theorem prCells_one (l : List (Int × Int)) (hf : ∀ x, (f x).oneCell' = true) (hg : ∀ x, (g x).oneCell' = true) : ∀ v ∈ prCells f g l, v.oneCell' = true := by
  intro v hv
  obtain ⟨p, _, hp⟩ := List.mem_flatMap.1 hv
  simp at hp
  rcases hp with rfl | rfl
  · exact hf _
  · exact hg _
end
theorem prCells_take (f g : Int → Value) : ∀ (L : List (Int × Int)) (k : Nat), (prCells f g L).take (k * 2) = prCells f g (L.take k)
  | [], k => by simp [prCells]
  | x :: L, 0 => by simp [prCells]
  | x :: L, k + 1 => by
    have e : prCells f g (x :: L) = f x.1 :: g x.2 :: prCells f g L := rfl
    rw [e, show (k + 1) * 2 = k * 2 + 1 + 1 by omega, List.take_succ_cons, List.take_succ_cons, prCells_take f g L k]; rfl
theorem prCells_drop (f g : Int → Value) : ∀ (L : List (Int × Int)) (k : Nat), (prCells f g L).drop (k * 2) = prCells f g (L.drop k)
  | [], k => by simp [prCells]
  | x :: L, 0 => by simp [prCells]
  | x :: L, k + 1 => by
    have e : prCells f g (x :: L) = f x.1 :: g x.2 :: prCells f g L := rfl
    rw [e, show (k + 1) * 2 = k * 2 + 1 + 1 by omega, List.drop_succ_cons, List.drop_succ_cons, prCells_drop f g L k]; rfl
theorem splice_pr (f g : Int → Value) (L : List (Int × Int)) (n : Nat) (xs : List (Int × Int)) : splice (prCells f g L) (n * 2) (prCells f g xs) = prCells f g (splice L n xs) := by
  unfold splice
  rw [prCells_append, prCells_append]
  have e1 := prCells_take f g L
  have e2 := prCells_drop f g L
  rw [e1, prCells_length, show n * 2 + 2 * xs.length = (n + xs.length) * 2 by omega, e2]
end Go.Proofs.Ytekjhfhlbkcklaa.K

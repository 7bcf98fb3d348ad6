/-
  My own kit, part c: maps keyed by whole numbers: what a store and a delete make, key by key.
-/
import Derived.Test.YtekjhfhlbkcklaaKb
namespace Go.Proofs.Ytekjhfhlbkcklaa.K
variable {α : Type}
theorem mget_mput : ∀ (l : List (Int × α)) (k : Int) (v : α), mget (mput l k v) k = some v
  | [], k, v => by simp [mput, mget]
  | p :: l, k, v => by
    unfold mput; split
    · simp [mget]
    · rename_i h; simp only [mget, if_neg h]; exact mget_mput l k v
theorem mget_mput_ne : ∀ (l : List (Int × α)) (k k' : Int) (v : α), k ≠ k' → mget (mput l k v) k' = mget l k'
  | [], k, k', v, h => by simp [mput, mget, h]
  | p :: l, k, k', v, h => by
    unfold mput; split
    · rename_i hp; simp [mget, h, hp]
    · simp only [mget]; split
      · rfl
      · exact mget_mput_ne l k k' v h
theorem mget_mdel_ne : ∀ (l : List (Int × α)) (k k' : Int), k ≠ k' → mget (mdel l k) k' = mget l k'
  | [], k, k', h => rfl
  | p :: l, k, k', h => by
    unfold mdel; split
    · rename_i hp; simp [mget, hp, h]
    · simp only [mget]; split
      · rfl
      · exact mget_mdel_ne l k k' h
theorem mget_none' : ∀ {l : List (Int × α)} {k : Int}, k ∉ l.map (·.1) → mget l k = none := fun h => mget_none fun p hp e => h (List.mem_map.2 ⟨p, hp, e⟩)
theorem mget_mdel : ∀ (l : List (Int × α)) (k : Int), (l.map (·.1)).Nodup → mget (mdel l k) k = none
  | [], k, _ => rfl
  | p :: l, k, h => by
    simp only [List.map_cons, List.nodup_cons] at h
    unfold mdel; split
    · rename_i hp; exact mget_none' (by rw [← hp]; exact h.1)
    · rename_i hp; simp only [mget, if_neg hp]; exact mget_mdel l k h.2
theorem mem_mput : ∀ (l : List (Int × α)) (k : Int) (v : α) (x : Int), x ∈ (mput l k v).map (·.1) ↔ x = k ∨ x ∈ l.map (·.1)
  | [], k, v, x => by simp [mput]
  | p :: l, k, v, x => by
    unfold mput; split
    · rename_i hp; simp [hp]
    · simp only [List.map_cons, List.mem_cons]
      rw [mem_mput l k v x]
      constructor <;> rintro (h | h | h) <;> simp_all
theorem mput_nodup : ∀ (l : List (Int × α)) (k : Int) (v : α), (l.map (·.1)).Nodup → ((mput l k v).map (·.1)).Nodup
  | [], k, v, _ => by simp [mput]
  | p :: l, k, v, h => by
    simp only [List.map_cons, List.nodup_cons] at h
    unfold mput; split
    · rename_i hp; simp only [List.map_cons, List.nodup_cons]; rw [← hp]; exact h
    · rename_i hp
      simp only [List.map_cons, List.nodup_cons]
      exact ⟨fun hm => by rcases (mem_mput l k v p.1).1 hm with e | e; exact hp e; exact h.1 e, mput_nodup l k v h.2⟩
theorem mdel_sub : ∀ (l : List (Int × α)) (k : Int) (x : Int), x ∈ (mdel l k).map (·.1) → x ∈ l.map (·.1)
  | [], k, x, h => h
  | p :: l, k, x, h => by
    unfold mdel at h; split at h
    · simp only [List.map_cons, List.mem_cons]; exact .inr h
    · simp only [List.map_cons, List.mem_cons] at h ⊢
      exact h.imp id (mdel_sub l k x)
theorem mdel_nodup : ∀ (l : List (Int × α)) (k : Int), (l.map (·.1)).Nodup → ((mdel l k).map (·.1)).Nodup
  | [], k, _ => by simp [mdel]
  | p :: l, k, h => by
    simp only [List.map_cons, List.nodup_cons] at h
    unfold mdel; split
    · exact h.2
    · simp only [List.map_cons, List.nodup_cons]
      exact ⟨fun hm => h.1 (mdel_sub l k _ hm), mdel_nodup l k h.2⟩
theorem mget_mem : ∀ {l : List (Int × α)} {k : Int} {v : α}, mget l k = some v → (k, v) ∈ l
  | [], k, v, h => by simp [mget] at h
  | p :: l, k, v, h => by
    unfold mget at h; split at h
    · rename_i hp; simp at h; subst hp h; exact .head _
    · exact .tail _ (mget_mem h)
theorem mem_mget : ∀ {l : List (Int × α)} {k : Int} {v : α}, (l.map (·.1)).Nodup → (k, v) ∈ l → mget l k = some v
  | p :: l, k, v, hn, h => by
    simp only [List.map_cons, List.nodup_cons] at hn
    rcases List.mem_cons.1 h with rfl | h
    · simp [mget]
    · have : p.1 ≠ k := fun e => hn.1 (by rw [e]; exact List.mem_map.2 ⟨_, h, rfl⟩)
      rw [mget, if_neg this]
      exact mem_mget hn.2 h
theorem Blk.setBlock {w : World} {b : Nat} {cs : List Value} {t : TypeId} (h : Blk w b cs t) {m : Nat} (hm : m ≠ b) (o : Obj) : Blk (ChangeMaps.setBlock w m o) b cs t := by
  unfold Blk ChangeMaps.setBlock
  simp only [Array.getElem?_setIfInBounds, if_neg hm]
  exact h
theorem MapIs.setCell' {q : IntKind} {enc : α → Value} {w : World} {m : Nat} {l : List (Int × α)} (h : MapIs q enc w m l) (p : Addr) (v : Value) : MapIs q enc (w.setCell p v) m l := h.setCell p v
end Go.Proofs.Ytekjhfhlbkcklaa.K

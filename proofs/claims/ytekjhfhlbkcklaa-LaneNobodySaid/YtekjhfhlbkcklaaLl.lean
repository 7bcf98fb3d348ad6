/-
  The lane's methods, in one form: a lane that was made, its map; what each call makes of both.
-/
import Derived.Test.YtekjhfhlbkcklaaLk
namespace Go.Proofs.Ytekjhfhlbkcklaa.L
open Go.RowKit Go.Proofs.Ytekjhfhlbkcklaa.K Go.Proofs.Ytekjhfhlbkcklaa.PA Go.Proofs.YtekjhfhlbkcklaaW.PrintWords
open Go.ChangeMaps (setBlock)

structure St (w : World) (b : Nat) (L : Lane) (M : Pasts) : Prop where
  lane : IsLane w b L
  map : IsMap w L.m M
  ne : L.m ≠ b
  ok : Ok L
/-- A world that parts from another in the lane's two blocks alone. -/
abbrev Two (b : Nat) (L : Lane) (w w' : World) : Prop := Chg (fun k => k = b ∨ k = L.m) w w'
namespace St
variable {w w1 : World} {b : Nat} {L : Lane} {M : Pasts}
theorem chg {S : Nat → Prop} (h : St w b L M) (c : Chg S w w1) (h1 : ¬ S b) (h2 : ¬ S L.m) : St w1 b L M := ⟨h.lane.chg c h1, h.map.chg c h2, h.ne, h.ok⟩
theorem below (h : St w b L M) (hb : Below w.heap.size w w1) : St w1 b L M := h.chg (Chg.below hb (fun _ => False)) (fun f => f) (fun f => f)
theorem alloc (h : St w b L M) (o : Obj) : St (w.alloc o) b L M := h.below (below_alloc (Below.refl _ _) o)
theorem drewN (h : St w b L M) (n : Nat) : St (w.drewN n) b L M := ⟨h.lane.drewN n, h.map.drewN n, h.ne, h.ok⟩
theorem drew (h : St w b L M) : St w.drew b L M := ⟨h.lane.drew, h.map.drew, h.ne, h.ok⟩
theorem setCell (h : St w b L M) {p : Addr} (hp : p.block ≠ b) (v : Value) : St (w.setCell p v) b L M := ⟨h.lane.other hp v, h.map.setCell p v, h.ne, h.ok⟩
theorem setBlock (h : St w b L M) {m : Nat} (h1 : m ≠ b) (h2 : m ≠ L.m) (o : Obj) : St (ChangeMaps.setBlock w m o) b L M :=
  ⟨h.lane.setBlock h1 o, h.map.same (by simp only [ChangeMaps.setBlock, Array.getElem?_setIfInBounds, if_neg h2]), h.ne, h.ok⟩
theorem lt (h : St w b L M) : b < w.heap.size := h.lane.lt
theorem mlt (h : St w b L M) : L.m < w.heap.size := h.map.lt
end St
theorem u64_in (n : Int) : 0 ≤ IntKind.u64.wrap n ∧ IntKind.u64.wrap n < 18446744073709551616 := by
  simp [IntKind.wrap, IntKind.bits, IntKind.signed]
  omega
def claimS (L : Lane) : (Int × Int × Int) × Lane := if L.left = 0 then ((0, 0, 81), L) else ((L.tail, L.epoch, 0), claimNew L)
theorem claim_st (w : World) (b : Nat) (L : Lane) (M : Pasts) (h : St w b L M) :
    Calls Try.prog 15 #[.pointer (some ⟨b, 0, none⟩)] w fun e_ w' => e_ = .returned (.tuple #[.agg #[.int .u64 (claimS L).1.1, .int .u64 (claimS L).1.2.1], .int .i64 (claimS L).1.2.2]) ∧ St w' b (claimS L).2 M ∧ Two b L w w' := by
  unfold claimS
  by_cases hl : L.left = 0
  · rw [if_pos hl]
    exact (claimm_no w b L h.lane h.ok hl).mono fun e w' ⟨he, hb⟩ => ⟨he, h.below hb, Chg.below hb _⟩
  · rw [if_neg hl]
    refine (claimm_yes w b L h.lane h.ok hl).mono fun e w' ⟨he, hb, hc⟩ => ⟨he, ⟨hb, ?_, h.ne, ⟨h.ok.credit, h.ok.pow, h.ok.head0, h.ok.head1, (u64_in _).1, (u64_in _).2⟩⟩, hc.mono fun _ _ e => .inl e⟩
    exact h.map.chg hc h.ne
theorem layL_m (L : Lane) (seq ep n gen : Int) : (layL L seq ep n gen).1.m = L.m ∧ (Ok L → Ok (layL L seq ep n gen).1) := by
  unfold layL
  split <;> (try split) <;> exact ⟨rfl, fun h => ⟨h.credit, h.pow, h.head0, h.head1, h.tail0, h.tail1⟩⟩
theorem lay_st (w : World) (b : Nat) (L : Lane) (M : Pasts) (h : St w b L M) (seq ep n gen : Int) (h0 : 0 ≤ seq) (h1 : seq < 18446744073709551616) :
    Calls Try.prog 16 #[.pointer (some ⟨b, 0, none⟩), .agg #[.int .u64 seq, .int .u64 ep], .agg #[.int .i64 n, .int .u64 gen]] w fun e_ w' => e_ = .returned (.int .i64 (layL L seq ep n gen).2) ∧ St w' b (layL L seq ep n gen).1 M ∧ Two b L w w' :=
  (lay_calls w b L h.lane h.ok seq ep n gen h0 h1).mono fun e w' ⟨he, hb, hc⟩ => ⟨he, ⟨hb, by rw [(layL_m L seq ep n gen).1]; exact h.map.chg hc h.ne, by rw [(layL_m L seq ep n gen).1]; exact h.ne, (layL_m L seq ep n gen).2 h.ok⟩, hc.mono fun _ _ e => .inl e⟩
theorem pubL_m (L : Lane) (seq ep t s : Int) : (pubL L seq ep t s).1.m = L.m ∧ (Ok L → Ok (pubL L seq ep t s).1) := by
  unfold pubL
  repeat' split
  all_goals exact ⟨rfl, fun h => ⟨h.credit, h.pow, h.head0, h.head1, h.tail0, h.tail1⟩⟩
theorem publish_st (w : World) (b : Nat) (L : Lane) (M : Pasts) (h : St w b L M) (seq ep t s : Int) (h0 : 0 ≤ seq) (h1 : seq < 18446744073709551616) :
    Calls Try.prog 20 #[.pointer (some ⟨b, 0, none⟩), .agg #[.int .u64 seq, .int .u64 ep], .agg #[.int .i64 t, .int .i64 s]] w fun e_ w' => e_ = .returned (.int .i64 (pubL L seq ep t s).2) ∧ St w' b (pubL L seq ep t s).1 M ∧ Two b L w w' :=
  (publish_calls w b L h.lane h.ok seq ep t s h0 h1).mono fun e w' ⟨he, hb, hc⟩ => ⟨he, ⟨hb, by rw [(pubL_m L seq ep t s).1]; exact h.map.chg hc h.ne, by rw [(pubL_m L seq ep t s).1]; exact h.ne, (pubL_m L seq ep t s).2 h.ok⟩, hc.mono fun _ _ e => .inl e⟩
theorem ready_st (w : World) (b : Nat) (L : Lane) (M : Pasts) (h : St w b L M) (seq ep : Int) (h0 : 0 ≤ seq) (h1 : seq < 18446744073709551616) :
    Calls Try.prog 21 #[.pointer (some ⟨b, 0, none⟩), .agg #[.int .u64 seq, .int .u64 ep]] w fun e_ w' => e_ = .returned (.bool (readyL L seq ep)) ∧ St w' b L M ∧ Below w.heap.size w w' :=
  (ready_calls w b L h.lane h.ok seq ep h0 h1).mono fun e w' ⟨he, hb⟩ => ⟨he, h.below hb, hb⟩
/-- The entry at a number. -/
def entAt (L : Lane) (n : Int) : Ent := (L.ring[(n % L.size).toNat]?).getD ent0
theorem ent_at {w : World} {b : Nat} {L : Lane} (h : IsLane w b L) (hok : Ok L) (n : Int) : n % L.size = ((n % L.size).toNat : Int) ∧ L.ring[(n % L.size).toNat]? = some (entAt L n) := by
  have hp := hok.pow.pos
  have h0 := Int.emod_nonneg n (show L.size ≠ 0 by omega)
  have h1 := Int.emod_lt_of_pos n (show 0 < L.size by omega)
  refine ⟨by omega, ?_⟩
  unfold entAt
  rw [List.getElem?_eq_getElem (by rw [h.len]; omega)]
  rfl
def firstS (L : Lane) : (Int × Int × Int × Int × Bool) := if L.head = L.ready then (0, 0, 0, 0, false) else ((entAt L L.head).tick, (entAt L L.head).step, L.head, L.epoch, true)
theorem first_st (w : World) (b : Nat) (L : Lane) (M : Pasts) (h : St w b L M) :
    Calls Try.prog 23 #[.pointer (some ⟨b, 0, none⟩)] w fun e_ w' => e_ = .returned (.tuple #[.agg #[.int .i64 (firstS L).1, .int .i64 (firstS L).2.1], .agg #[.int .u64 (firstS L).2.2.1, .int .u64 (firstS L).2.2.2.1], .bool (firstS L).2.2.2.2]) ∧ St w' b L M ∧ Below w.heap.size w w' := by
  unfold firstS
  by_cases hl : L.head = L.ready
  · rw [if_pos hl]
    exact (first_none w b L h.lane h.ok hl).mono fun e w' ⟨he, hb⟩ => ⟨he, h.below hb, hb⟩
  · rw [if_neg hl]
    obtain ⟨e1, e2⟩ := ent_at h.lane h.ok L.head
    exact (first_calls w b L h.lane h.ok _ _ e1 e2 hl).mono fun e w' ⟨he, hb⟩ => ⟨he, h.below hb, hb⟩
def takeS (L : Lane) (M : Pasts) : (Int × Int × Int × Int × Int) × Lane × Pasts :=
  if L.head = L.ready then ((0, 0, 0, 0, 82), L, M)
  else (((entAt L L.head).n, (entAt L L.head).gen, L.head, L.epoch, 0), takeNew L, mput M L.head ⟨(entAt L L.head).n, (entAt L L.head).gen, false⟩)
theorem take_st (w : World) (b : Nat) (L : Lane) (M : Pasts) (h : St w b L M) :
    Calls Try.prog 17 #[.pointer (some ⟨b, 0, none⟩)] w fun e_ w' => e_ = .returned (.tuple #[.agg #[.int .i64 (takeS L M).1.1, .int .u64 (takeS L M).1.2.1], .agg #[.int .u64 (takeS L M).1.2.2.1, .int .u64 (takeS L M).1.2.2.2.1], .int .i64 (takeS L M).1.2.2.2.2]) ∧ St w' b (takeS L M).2.1 (takeS L M).2.2 ∧ Two b L w w' := by
  unfold takeS
  by_cases hl : L.head = L.ready
  · rw [if_pos hl]
    exact (take_no w b L h.lane h.ok hl).mono fun e w' ⟨he, hb⟩ => ⟨he, h.below hb, Chg.below hb _⟩
  · rw [if_neg hl]
    obtain ⟨e1, e2⟩ := ent_at h.lane h.ok L.head
    refine (take_yes w b L M h.lane h.ok h.map h.ne _ _ e1 e2 hl).mono fun e w' ⟨he, hb, hm, hc⟩ => ⟨he, ⟨?_, hm, h.ne, ?_⟩, hc⟩
    · exact hb
    · exact ⟨h.ok.credit, h.ok.pow, (u64_in _).1, (u64_in _).2, h.ok.tail0, h.ok.tail1⟩
theorem retireL_m (L : Lane) (M : Pasts) (seq ep : Int) : (retireL L M seq ep).2.1.m = L.m ∧ (Ok L → Ok (retireL L M seq ep).2.1) := by
  unfold retireL
  repeat' split
  all_goals exact ⟨rfl, fun h => ⟨h.credit, h.pow, h.head0, h.head1, h.tail0, h.tail1⟩⟩
theorem retire_st (w : World) (b : Nat) (L : Lane) (M : Pasts) (h : St w b L M) (seq ep : Int) :
    Calls Try.prog 19 #[.pointer (some ⟨b, 0, none⟩), .agg #[.int .u64 seq, .int .u64 ep]] w fun e_ w' => e_ = .returned (ret3 (retireL L M seq ep).1) ∧ St w' b (retireL L M seq ep).2.1 (retireL L M seq ep).2.2 ∧ Two b L w w' :=
  (retire_calls w b L M h.lane h.ok h.map h.ne seq ep).mono fun e w' ⟨he, hb, hm, hc⟩ => ⟨he, ⟨hb, by rw [(retireL_m L M seq ep).1]; exact hm, by rw [(retireL_m L M seq ep).1]; exact h.ne, (retireL_m L M seq ep).2 h.ok⟩, hc⟩
theorem state_st (w : World) (b : Nat) (L : Lane) (M : Pasts) (h : St w b L M) (hlen : M.length ≤ 1000) :
    Calls Try.prog 13 #[.pointer (some ⟨b, 0, none⟩)] w fun e_ w' => e_ = .returned (stateV L M) ∧ St w' b L M ∧ Below w.heap.size w w' :=
  (state_calls w b L M h.lane h.ok h.map h.ne hlen).mono fun e w' ⟨he, hb⟩ => ⟨he, h.below hb, hb⟩
theorem new_st (w : World) (c : Int) (two : Bool) (start : Int) (h0 : 1 ≤ c) (h1 : c ≤ 64) (s0 : 0 ≤ start) (s1 : start < 18446744073709551616) :
    Calls Try.prog 10 #[.int .i64 c, .bool two, .int .u64 start] w fun e_ w' => ∃ b m, e_ = .returned (.tuple #[.pointer (some ⟨b, 0, none⟩), .int .i64 0]) ∧ St w' b (newL c two start m) [] ∧ w.heap.size ≤ b ∧ w.heap.size ≤ m ∧ Below w.heap.size w w' :=
  (new_calls w c two start h0 h1).mono fun e w' ⟨b, m, he, hl, hm, hne, hb1, hb2, hb⟩ => ⟨b, m, he, ⟨hl, hm, hne, ok_new c two start m h0 h1 s0 s1⟩, hb1, hb2, hb⟩
end Go.Proofs.Ytekjhfhlbkcklaa.L

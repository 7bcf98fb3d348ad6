/-
  Lanes whose numbers are moved: over the plain machine nothing hangs on the start but the tickets' numbers.
-/
import Derived.Test.YtekjhfhlbkcklaaNb
import Derived.Test.YtekjhfhlbkcklaaPAx55
set_option linter.unusedVariables false
set_option linter.unusedSimpArgs false
namespace Go.Proofs.Ytekjhfhlbkcklaa.L
open Go.RowKit Go.Proofs.Ytekjhfhlbkcklaa.K Go.Proofs.Ytekjhfhlbkcklaa.PA Go.Proofs.YtekjhfhlbkcklaaW.PrintWords

theorem wr_find (s : Int) (A : AL) (tq te : Int) : findA s A (IntKind.u64.wrap (tq + s)) te = findA 0 A tq te := by
  have h : (IntKind.u64.wrap (tq + s) - sq s A.r) % 18446744073709551616 = (tq - sq 0 A.r) % 18446744073709551616 := by
    rw [wrap_u64]; unfold sq; omega
  unfold findA
  rw [h]
theorem wr_lay (s : Int) (A : AL) (tq te n g : Int) : layA s A (IntKind.u64.wrap (tq + s)) te n g = layA 0 A tq te n g := by unfold layA; rw [wr_find]
theorem wr_ready (s : Int) (A : AL) (tq te : Int) : readyA s A (IntKind.u64.wrap (tq + s)) te = readyA 0 A tq te := by unfold readyA; rw [wr_find]
theorem wr_pub (s : Int) (A : AL) (tq te a b : Int) : pubA s A (IntKind.u64.wrap (tq + s)) te a b = pubA 0 A tq te a b := by unfold pubA; rw [wr_find]
theorem wr_seq (s : Int) (i : Nat) (tq : Int) (h0 : 0 ≤ tq) (h1 : tq < 18446744073709551616) : sq s i = IntKind.u64.wrap (tq + s) ↔ sq 0 i = tq := by
  rw [wrap_u64]; unfold sq; omega
theorem wr_old (s : Int) (tq : Int) (h0 : 0 ≤ tq) (h1 : tq < 18446744073709551616) : ∀ l : List (Nat × Past), oldAt s l (IntKind.u64.wrap (tq + s)) = oldAt 0 l tq
  | [] => rfl
  | p :: l => by
    unfold oldAt
    rw [wr_old s tq h0 h1 l]
    by_cases h : sq 0 p.1 = tq
    · rw [if_pos h, if_pos ((wr_seq s p.1 tq h0 h1).2 h)]
    · rw [if_neg h, if_neg (fun e => h ((wr_seq s p.1 tq h0 h1).1 e))]
theorem wr_retire (s : Int) (A : AL) (tq te : Int) (h0 : 0 ≤ tq) (h1 : tq < 18446744073709551616) : retireA s A (IntKind.u64.wrap (tq + s)) te = retireA 0 A tq te := by
  unfold retireA; rw [wr_old s tq h0 h1]
theorem wr_num (s : Int) (i : Nat) : IntKind.u64.wrap (sq 0 i + s) = sq s i := by rw [wrap_u64]; unfold sq; omega
/-- Two lanes in memory, apart, with starts of their own, that are one plain machine. -/
structure Duo2 (s0 s : Int) (w : World) (ba ma bb mb : Nat) (A : AL) : Prop where
  la : LS s0 w ba ma A
  lb : LS s w bb mb A
  n1 : bb ≠ ba
  n2 : bb ≠ ma
  n3 : mb ≠ ba
  n4 : mb ≠ ma
namespace Duo2
variable {s0 s : Int} {w w1 : World} {ba ma bb mb : Nat} {A B A' : AL}
theorem below (h : Duo2 s0 s w ba ma bb mb A) (hb : Below w.heap.size w w1) : Duo2 s0 s w1 ba ma bb mb A := ⟨h.la.below hb, h.lb.below hb, h.n1, h.n2, h.n3, h.n4⟩
theorem alloc (h : Duo2 s0 s w ba ma bb mb A) (o : Obj) : Duo2 s0 s (w.alloc o) ba ma bb mb A := h.below (below_alloc (Below.refl _ _) o)
theorem drewN (h : Duo2 s0 s w ba ma bb mb A) (n : Nat) : Duo2 s0 s (w.drewN n) ba ma bb mb A := h.below (pw_below_drewN (Below.refl _ _) n)
theorem drew (h : Duo2 s0 s w ba ma bb mb A) : Duo2 s0 s w.drew ba ma bb mb A := h.below (below_drew (Below.refl _ _))
theorem other (h : Duo2 s0 s w ba ma bb mb A) {p : Addr} (hp : ¬ In4 ba ma bb mb p.block) (v : Value) : Duo2 s0 s (w.setCell p v) ba ma bb mb A :=
  ⟨h.la.other (fun e => hp (.inl (.inl e))) (fun e => hp (.inl (.inr e))) v, h.lb.other (fun e => hp (.inr (.inl e))) (fun e => hp (.inr (.inr e))) v, h.n1, h.n2, h.n3, h.n4⟩
end Duo2
/-- The same, while the one lane has turned, and the other one not yet. -/
structure Half (s0 s : Int) (w : World) (ba ma bb mb : Nat) (A' A : AL) : Prop where
  la : LS s0 w ba ma A'
  lb : LS s w bb mb A
  n1 : bb ≠ ba
  n2 : bb ≠ ma
  n3 : mb ≠ ba
  n4 : mb ≠ ma
theorem Duo2.turnA {s0 s : Int} {w w1 : World} {ba ma bb mb : Nat} {A A' : AL} (h : Duo2 s0 s w ba ma bb mb A) (hs : LS s0 w1 ba ma A') (hc : TwoB ba ma w w1) : Half s0 s w1 ba ma bb mb A' A := ⟨hs, h.lb.chg hc (not_two h.n1 h.n2) (not_two h.n3 h.n4), h.n1, h.n2, h.n3, h.n4⟩
theorem Half.below {s0 s : Int} {w w1 : World} {ba ma bb mb : Nat} {A A' : AL} (h : Half s0 s w ba ma bb mb A' A) (hb : Below w.heap.size w w1) : Half s0 s w1 ba ma bb mb A' A := ⟨h.la.below hb, h.lb.below hb, h.n1, h.n2, h.n3, h.n4⟩
theorem Half.alloc {s0 s : Int} {w : World} {ba ma bb mb : Nat} {A A' : AL} (h : Half s0 s w ba ma bb mb A' A) (o : Obj) : Half s0 s (w.alloc o) ba ma bb mb A' A := h.below (below_alloc (Below.refl _ _) o)
theorem Half.turnB {s0 s : Int} {w w1 : World} {ba ma bb mb : Nat} {A A' : AL} (h : Half s0 s w ba ma bb mb A' A) (hs : LS s w1 bb mb A') (hc : TwoB bb mb w w1) : Duo2 s0 s w1 ba ma bb mb A' := ⟨h.la.chg hc (not_two h.n1.symm h.n3.symm) (not_two h.n2.symm h.n4.symm), hs, h.n1, h.n2, h.n3, h.n4⟩
theorem sameSlots_one : ∀ (d : Nat) (l0 : List S36) (k : Nat) (i : Int), l0.length ≤ 1000 → 0 ≤ i → i ≤ l0.length → (l0.length : Int) - i = d → d < k → rampartref08_SameSlots.l0 k l0 l0 i = some true := by
  intro d
  induction d with
  | zero =>
    intro l0 k i hl h0 h1 hd hk
    obtain ⟨k, rfl⟩ : ∃ m, k = m + 1 := ⟨k - 1, by omega⟩
    simp only [rampartref08_SameSlots.l0]
    rw [if_neg (by omega)]
  | succ d ih =>
    intro l0 k i hl h0 h1 hd hk
    obtain ⟨k, rfl⟩ : ∃ m, k = m + 1 := ⟨k - 1, by omega⟩
    simp only [rampartref08_SameSlots.l0]
    rw [if_pos (by omega), if_pos h0, if_pos (by omega), if_neg (by simp)]
    rw [show wrap64 (i + 1) = i + 1 by unfold wrap64; omega]
    exact ih l0 k (i + 1) hl (by omega) (by omega) (by omega) (by omega)
theorem sameSlots_refl (l : List S36) (hl : l.length ≤ 1000) : rampartref08_SameSlots.f (l.length + 1) l l = some true := by
  unfold rampartref08_SameSlots.f
  rw [if_pos rfl]
  exact sameSlots_one l.length l _ 0 hl (by omega) (by omega) (by omega) (by omega)
def s36 (p : Int × Int) : S36 := ⟨p.1, p.2⟩
theorem slots_C {w : World} {g : Nat} {l : List (Int × Int)} {t : TypeId} (h : Blk w g (slotCells l) t) (hl : l.length ≤ 1000) : Kd.C k36 w (some ⟨g, 0, none⟩) l.length (l.map s36) := by
  refine ⟨by simp, by omega, fun _ => ⟨_, rfl, fun j p hp => ?_⟩⟩
  rw [List.getElem?_map] at hp
  obtain ⟨q, hq, rfl⟩ := Option.map_eq_some_iff.1 hp
  obtain ⟨h1, h2⟩ := slot_get hq
  refine ⟨_, rfl, k36_mk w (s36 q), fun i u hi => ?_⟩
  rw [add_plain]
  have hsz : k36.sz = 2 := rfl
  rw [hsz]
  match i, hi with
  | 0, hi => 
    have e : u = .int .i64 q.1 := by simpa [s36] using hi.symm
    subst e; exact h.cell h1
  | 1, hi =>
    have e : u = .int .u64 q.2 := by simpa [s36] using hi.symm
    subst e; exact h.cell h2
theorem nil_C (w : World) : Kd.C k36 w none 0 [] := ⟨rfl, by omega, fun h => absurd h (by omega)⟩
end Go.Proofs.Ytekjhfhlbkcklaa.L

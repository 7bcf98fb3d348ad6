/-
  The lane's small readers: at, claim, Ready, First.
-/
import Derived.Test.YtekjhfhlbkcklaaLb
import Derived.Test.YtekjhfhlbkcklaaPAx7
import Derived.Test.YtekjhfhlbkcklaaPAx10
import Derived.Laws.BitsAllLaws
namespace Go.Proofs.Ytekjhfhlbkcklaa.L
open Go.RowKit Go.Proofs.Ytekjhfhlbkcklaa.K Go.Proofs.Ytekjhfhlbkcklaa.PA Go.Proofs.YtekjhfhlbkcklaaW.PrintWords

def PowS (s : Int) : Prop := s = 1 ∨ s = 2 ∨ s = 4 ∨ s = 8 ∨ s = 16 ∨ s = 32 ∨ s = 64
theorem and_mask (k : Nat) (hk : k ≤ 6) (n : Int) (h0 : 0 ≤ n) (h1 : n < 18446744073709551616) : bits .and .u64 n ((2 ^ k - 1 : Nat) : Int) = n % (2 ^ k : Nat) := by
  have h2 : 2 ^ k ≤ 64 := by
    have := Nat.pow_le_pow_right (n := 2) (by omega) hk
    simpa using this
  have h3 : 0 < 2 ^ k := Nat.pos_of_ne_zero (by simp)
  rw [u64_and n _ h0 h1 (by omega) (by omega)]
  rw [show (((2 ^ k - 1 : Nat) : Int)).toNat = 2 ^ k - 1 from Int.toNat_natCast _, Nat.and_two_pow_sub_one_eq_mod]
  obtain ⟨m, rfl⟩ := Int.eq_ofNat_of_zero_le h0
  simp
theorem place_eq (n s : Int) (hs : PowS s) (h0 : 0 ≤ n) (h1 : n < 18446744073709551616) : order_Place.f n s = some (n % s, 0) := by
  have key : ∀ k, k ≤ 6 → s = ((2 ^ k : Nat) : Int) → order_ring.f s = some true → order_Place.f n s = some (n % s, 0) := by
    intro k hk hs' hr
    have h2 : 2 ^ k ≤ 64 := by
      have := Nat.pow_le_pow_right (n := 2) (by omega) hk
      simpa using this
    have h3 : 0 < 2 ^ k := Nat.pos_of_ne_zero (by simp)
    unfold order_Place.f
    rw [hr]
    simp only [Option.bind_some, if_true]
    have e1 : IntKind.u64.wrap (wrap64 (s - 1)) = ((2 ^ k - 1 : Nat) : Int) := by
      rw [hs']; generalize 2 ^ k = q at *; unfold wrap64; simp only [IntKind.wrap, IntKind.bits, IntKind.signed]; simp; omega
    rw [e1, and_mask k hk n h0 h1, ← hs']
    have e2 : wrap64 (n % s) = n % s := by
      have := Int.emod_nonneg n (show s ≠ 0 by omega); have := Int.emod_lt_of_pos n (show 0 < s by omega)
      unfold wrap64; omega
    rw [e2]
  rcases hs with rfl | rfl | rfl | rfl | rfl | rfl | rfl
  · exact key 0 (by omega) rfl (by decide +kernel)
  · exact key 1 (by omega) rfl (by decide +kernel)
  · exact key 2 (by omega) rfl (by decide +kernel)
  · exact key 3 (by omega) rfl (by decide +kernel)
  · exact key 4 (by omega) rfl (by decide +kernel)
  · exact key 5 (by omega) rfl (by decide +kernel)
  · exact key 6 (by omega) rfl (by decide +kernel)
theorem PowS.pos {s : Int} (h : PowS s) : 1 ≤ s ∧ s ≤ 64 := by unfold PowS at h; omega

set_option maxHeartbeats 1000000 in
theorem at_calls (w : World) (b : Nat) (L : Lane) (h : IsLane w b L) (hs : PowS L.size) (n : Int) (h0 : 0 ≤ n) (h1 : n < 18446744073709551616) (j : Nat) (hj : (n % L.size) = j) :
    Calls Try.prog 35 #[.pointer (some ⟨b, 0, none⟩), .int .u64 n] w fun e w' => e = .returned (.pointer (some ⟨b, 4 + j * 5, none⟩)) ∧ ∃ nd, w' = w.drewN nd := by
  have hp := Aside0.mk (place_eq n L.size hs h0 h1)
  rw [hj] at hp
  have hj64 : j < 64 := by
    have := Int.emod_lt_of_pos n (show 0 < L.size by have := hs.pos; omega); have := hs.pos; omega
  have c3 := h.c_size
  clear h hs hj
  go_enter Try.func35, Try.ntmps35
  go_wp2_with (go_at_call 44; refine (order_Place.calls n L.size j 0 _ hp.out).mono ?_; rintro e w' ⟨rfl, ⟨nd, rfl⟩⟩)
  go_ret
  exact ⟨rfl, nd, rfl⟩

def withinU (low x high : Int) : Bool := decide (IntKind.u64.wrap (x - low) < IntKind.u64.wrap (high - low))
def claimL (L : Lane) (seq ep : Int) : Option Nat :=
  if ep ≠ L.epoch then none else if withinU L.ready seq L.tail = false then none else
    match L.ring[(seq % L.size).toNat]? with
    | some e => if e.is = 1 ∨ e.is = 2 then some (seq % L.size).toNat else none
    | none => none

def entPtr (b : Nat) (r : Option Nat) : Value := .pointer (r.map fun j => ⟨b, 4 + j * 5, none⟩)

set_option maxHeartbeats 1000000 in
theorem claim_calls (w : World) (b : Nat) (L : Lane) (h : IsLane w b L) (hs : PowS L.size) (seq ep : Int) (h0 : 0 ≤ seq) (h1 : seq < 18446744073709551616) :
    Calls Try.prog 36 #[.pointer (some ⟨b, 0, none⟩), .agg #[.int .u64 seq, .int .u64 ep]] w fun e w' => e = .returned (entPtr b (claimL L seq ep)) ∧ Below w.heap.size w w' := by
  have hlt := h.lt
  have hu := Try.underlying34
  by_cases hep : ep = L.epoch
  · subst hep
    have hb0 : (L.epoch != L.epoch) = false := by simp
    by_cases hw : withinU L.ready seq L.tail = true
    · obtain ⟨j, hj⟩ : ∃ j : Nat, (seq % L.size) = j := ⟨(seq % L.size).toNat, by have := Int.emod_nonneg seq (show L.size ≠ 0 by have := hs.pos; omega); omega⟩
      have hj64 : j < 64 := by
        have := Int.emod_lt_of_pos seq (show 0 < L.size by have := hs.pos; omega); have := hs.pos; omega
      obtain ⟨e, he⟩ : ∃ e, L.ring[j]? = some e := ⟨_, List.getElem?_eq_getElem (by rw [h.len]; exact hj64)⟩
      have hres : claimL L seq L.epoch = if e.is = 1 ∨ e.is = 2 then some j else none := by simp [claimL, hw, hj, he]
      have HW := Aside0.mk (show order_Within.f L.ready seq L.tail = some true from congrArg some hw)
      have HAT := Aside0.mk (fun nq => at_calls ((w.alloc (Obj.cells #[.int .u64 seq, .int .u64 L.epoch] 34)).drewN nq) b L ((h.alloc _).drewN nq) hs seq h0 h1 j hj)
      rw [hres]
      have c9 := h.c_epoch
      have c7 := h.c_ready
      have c8 := h.c_tail
      have ce := h.e_is he
      clear h hs hw hres hj he
      by_cases i1 : e.is = 1
      · rw [if_pos (.inl i1)]
        have i1b : (e.is == 1) = true := by simpa using i1
        clear i1
        go_enter Try.func36, Try.ntmps36
        go_wp2
        go_quiet (first | (go_at_call 45; (with_reducible refine (order_Within.calls L.ready seq L.tail true _ HW.out).mono ?_); rintro e w' ⟨rfl, ⟨nd, rfl⟩⟩; (first | exact ⟨rfl, _, World.drewN_drewN _ _ _⟩ | exact ⟨rfl, _, Eq.trans (World.drewN_drewN _ _ _) (congrArg (World.drewN _) (Nat.add_assoc _ _ _))⟩)))
        go_wp2_with (go_at_call 35; refine (HAT.out _).mono ?_; rintro e_ w' ⟨rfl, nd2, rfl⟩)
        go_ret
        exact ⟨rfl, (by repeat (first | (with_reducible exact Below.refl _ _) | apply pw_below_drewN | apply below_alloc))⟩
      · have i1b : (e.is == 1) = false := by simpa using i1
        by_cases i2 : e.is = 2
        · rw [if_pos (.inr i2)]
          have i2b : (e.is == 2) = true := by simpa using i2
          clear i1 i2
          go_enter Try.func36, Try.ntmps36
          go_wp2
          go_quiet (first | (go_at_call 45; (with_reducible refine (order_Within.calls L.ready seq L.tail true _ HW.out).mono ?_); rintro e w' ⟨rfl, ⟨nd, rfl⟩⟩; (first | exact ⟨rfl, _, World.drewN_drewN _ _ _⟩ | exact ⟨rfl, _, Eq.trans (World.drewN_drewN _ _ _) (congrArg (World.drewN _) (Nat.add_assoc _ _ _))⟩)))
          go_wp2_with (go_at_call 35; refine (HAT.out _).mono ?_; rintro e_ w' ⟨rfl, nd2, rfl⟩)
          go_ret
          exact ⟨rfl, (by repeat (first | (with_reducible exact Below.refl _ _) | apply pw_below_drewN | apply below_alloc))⟩
        · rw [if_neg (by simp [i1, i2])]
          have i2b : (e.is == 2) = false := by simpa using i2
          clear i1 i2
          go_enter Try.func36, Try.ntmps36
          go_wp2
          go_quiet (first | (go_at_call 45; (with_reducible refine (order_Within.calls L.ready seq L.tail true _ HW.out).mono ?_); rintro e w' ⟨rfl, ⟨nd, rfl⟩⟩; (first | exact ⟨rfl, _, World.drewN_drewN _ _ _⟩ | exact ⟨rfl, _, Eq.trans (World.drewN_drewN _ _ _) (congrArg (World.drewN _) (Nat.add_assoc _ _ _))⟩)))
          go_wp2_with (go_at_call 35; refine (HAT.out _).mono ?_; rintro e_ w' ⟨rfl, nd2, rfl⟩)
          go_ret
          exact ⟨rfl, (by repeat (first | (with_reducible exact Below.refl _ _) | apply pw_below_drewN | apply below_alloc))⟩
    · have hw' : withinU L.ready seq L.tail = false := by simpa using hw
      have hres : claimL L seq L.epoch = none := by simp [claimL, hw']
      have HW := Aside0.mk (show order_Within.f L.ready seq L.tail = some false from congrArg some hw')
      rw [hres]
      have c9 := h.c_epoch
      have c7 := h.c_ready
      have c8 := h.c_tail
      clear h hs hw hw' hres
      go_enter Try.func36, Try.ntmps36
      go_wp2
      go_quiet (first | (go_at_call 45; (with_reducible refine (order_Within.calls L.ready seq L.tail false _ HW.out).mono ?_); rintro e w' ⟨rfl, ⟨nd, rfl⟩⟩; (first | exact ⟨rfl, _, World.drewN_drewN _ _ _⟩ | exact ⟨rfl, _, Eq.trans (World.drewN_drewN _ _ _) (congrArg (World.drewN _) (Nat.add_assoc _ _ _))⟩)))
      go_wp2
      go_ret
      exact ⟨rfl, (by repeat (first | (with_reducible exact Below.refl _ _) | apply pw_below_drewN | apply below_alloc))⟩
  · have hb0 : (ep != L.epoch) = true := by simpa using hep
    have hres : claimL L seq ep = none := by simp [claimL, hep]
    rw [hres]
    have c9 := h.c_epoch
    clear h hs
    go_enter Try.func36, Try.ntmps36
    go_wp2
    go_quiet (fail)
    go_wp2
    go_ret
    exact ⟨rfl, (by repeat (first | (with_reducible exact Below.refl _ _) | apply pw_below_drewN | apply below_alloc))⟩
end Go.Proofs.Ytekjhfhlbkcklaa.L

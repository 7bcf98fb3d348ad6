/-
  The lane's methods: Ready, Lay, Publish, First, where the lane was made.
-/
import Derived.Test.YtekjhfhlbkcklaaLc
import Derived.StillTailTactics
namespace Go.Proofs.Ytekjhfhlbkcklaa.L
open Go.RowKit Go.Proofs.Ytekjhfhlbkcklaa.K Go.Proofs.Ytekjhfhlbkcklaa.PA Go.Proofs.YtekjhfhlbkcklaaW.PrintWords

/-- What holds of every lane that was made. -/
structure Ok (L : Lane) : Prop where
  credit : 0 < L.credit
  pow : PowS L.size
  head0 : 0 ≤ L.head
  head1 : L.head < 18446744073709551616
  tail0 : 0 ≤ L.tail
  tail1 : L.tail < 18446744073709551616

theorem claimL_some {L : Lane} {seq ep : Int} {j : Nat} (h : claimL L seq ep = some j) : ∃ e, L.ring[j]? = some e ∧ (e.is = 1 ∨ e.is = 2) := by
  unfold claimL at h
  split at h
  · cases h
  · split at h
    · cases h
    · split at h
      · rename_i e he
        split at h
        · rename_i hi
          cases h
          exact ⟨e, he, hi⟩
        · cases h
      · cases h

def readyL (L : Lane) (seq ep : Int) : Bool :=
  match claimL L seq ep with
  | some j => (match L.ring[j]? with | some e => decide (e.is = 2) | none => false) && decide (seq = L.ready)
  | none => false
set_option maxHeartbeats 1000000 in
theorem ready_calls (w : World) (b : Nat) (L : Lane) (h : IsLane w b L) (hok : Ok L) (seq ep : Int) (h0 : 0 ≤ seq) (h1 : seq < 18446744073709551616) :
    Calls Try.prog 21 #[.pointer (some ⟨b, 0, none⟩), .agg #[.int .u64 seq, .int .u64 ep]] w fun e w' => e = .returned (.bool (readyL L seq ep)) ∧ Below w.heap.size w w' := by
  have hlt := h.lt; have hs := hok.pow; have hu := Try.underlying34; have HL := Aside0.mk h; have HIS := Aside0.mk (fun W (hl : IsLane W b L) => is_at W b L hl true (by simp [hok.credit])); have hcl := fun W (hl : IsLane W b L) => claim_calls W b L hl hs seq ep h0 h1
  cases hc : claimL L seq ep with
  | none =>
    have hres : readyL L seq ep = false := by simp [readyL, hc]
    rw [hres]
    simp only [hc, entPtr, Option.map_none, Option.map_some] at hcl
    have HCL := Aside0.mk hcl
    clear h hok hc hres hcl hs
    go_enter Try.func21, Try.ntmps21
    go_wp2_with (first | (go_at_call 34; refine (HIS.out _ ?side).mono ?_; (case side => exact (by repeat (first | with_reducible exact HL.out | apply IsLane.alloc | apply IsLane.drewN))); rintro e_ w' ⟨rfl, rfl⟩) | (go_at_call 36; (with_reducible refine (HCL.out _ ?side2).mono ?_); (case side2 => exact (by repeat (first | with_reducible exact HL.out | apply IsLane.alloc | apply IsLane.drewN))); rintro e_ w1 ⟨rfl, hb1⟩; have HB1 := Aside0.mk (show Below w.heap.size w w1 from below_step (by repeat (first | (with_reducible exact Below.refl _ _) | apply pw_below_drewN | apply below_alloc)) hb1); have HL1 := Aside0.mk (IsLane.chg (by repeat (first | with_reducible exact HL.out | apply IsLane.alloc | apply IsLane.drewN)) (Chg.below hb1 (fun _ => False)) (fun f => f)); have hz1 : w.heap.size < w1.heap.size := (by have := hb1.size; simp at this; omega); have t0 : w1.cell? ⟨w.heap.size, 0, none⟩ = some (.int .u64 seq) := pw_cell_below hb1 (by go_simp); skip; clear hb1))
    go_quiet (fail)
    go_wp2
    go_ret
    exact ⟨rfl, pw_below_drewN HB1.out _⟩
  | some j =>
    obtain ⟨e, he, hi⟩ := claimL_some hc
    have hres : readyL L seq ep = (decide (e.is = 2) && decide (seq = L.ready)) := by simp [readyL, hc, he]
    rw [hres]
    simp only [hc, entPtr, Option.map_none, Option.map_some] at hcl
    have HCL := Aside0.mk hcl
    clear h hok hc hres hcl hs
    by_cases i2 : e.is = 2
    · have i2b : (e.is == 2) = true := by simpa using i2
      by_cases i3 : seq = L.ready
      · have i3b : (seq == L.ready) = true := by simpa using i3
        have HF := Aside0.mk (show (decide (e.is = 2) && decide (seq = L.ready)) = true by simp [i2, i3])
        rw [HF.out]
        clear i2 i3 hi
        go_enter Try.func21, Try.ntmps21
        go_wp2_with (first | (go_at_call 34; refine (HIS.out _ ?side).mono ?_; (case side => exact (by repeat (first | with_reducible exact HL.out | apply IsLane.alloc | apply IsLane.drewN))); rintro e_ w' ⟨rfl, rfl⟩) | (go_at_call 36; (with_reducible refine (HCL.out _ ?side2).mono ?_); (case side2 => exact (by repeat (first | with_reducible exact HL.out | apply IsLane.alloc | apply IsLane.drewN))); rintro e_ w1 ⟨rfl, hb1⟩; have HB1 := Aside0.mk (show Below w.heap.size w w1 from below_step (by repeat (first | (with_reducible exact Below.refl _ _) | apply pw_below_drewN | apply below_alloc)) hb1); have HL1 := Aside0.mk (IsLane.chg (by repeat (first | with_reducible exact HL.out | apply IsLane.alloc | apply IsLane.drewN)) (Chg.below hb1 (fun _ => False)) (fun f => f)); have hz1 : w.heap.size < w1.heap.size := (by have := hb1.size; simp at this; omega); have t0 : w1.cell? ⟨w.heap.size, 0, none⟩ = some (.int .u64 seq) := pw_cell_below hb1 (by go_simp); have c7 := HL1.out.c_ready; have ce := HL1.out.e_is he; clear hb1))
        go_quiet (fail)
        go_wp2
        go_ret
        exact ⟨rfl, pw_below_drewN HB1.out _⟩
      · have i3b : (seq == L.ready) = false := by simpa using i3
        have HF := Aside0.mk (show (decide (e.is = 2) && decide (seq = L.ready)) = false by simp [i3])
        rw [HF.out]
        clear i2 i3 hi
        go_enter Try.func21, Try.ntmps21
        go_wp2_with (first | (go_at_call 34; refine (HIS.out _ ?side).mono ?_; (case side => exact (by repeat (first | with_reducible exact HL.out | apply IsLane.alloc | apply IsLane.drewN))); rintro e_ w' ⟨rfl, rfl⟩) | (go_at_call 36; (with_reducible refine (HCL.out _ ?side2).mono ?_); (case side2 => exact (by repeat (first | with_reducible exact HL.out | apply IsLane.alloc | apply IsLane.drewN))); rintro e_ w1 ⟨rfl, hb1⟩; have HB1 := Aside0.mk (show Below w.heap.size w w1 from below_step (by repeat (first | (with_reducible exact Below.refl _ _) | apply pw_below_drewN | apply below_alloc)) hb1); have HL1 := Aside0.mk (IsLane.chg (by repeat (first | with_reducible exact HL.out | apply IsLane.alloc | apply IsLane.drewN)) (Chg.below hb1 (fun _ => False)) (fun f => f)); have hz1 : w.heap.size < w1.heap.size := (by have := hb1.size; simp at this; omega); have t0 : w1.cell? ⟨w.heap.size, 0, none⟩ = some (.int .u64 seq) := pw_cell_below hb1 (by go_simp); have c7 := HL1.out.c_ready; have ce := HL1.out.e_is he; clear hb1))
        go_quiet (fail)
        go_wp2
        go_ret
        exact ⟨rfl, pw_below_drewN HB1.out _⟩
    · have i2b : (e.is == 2) = false := by simpa using i2
      have HF := Aside0.mk (show (decide (e.is = 2) && decide (seq = L.ready)) = false by simp [i2])
      rw [HF.out]
      clear i2 hi
      go_enter Try.func21, Try.ntmps21
      go_wp2_with (first | (go_at_call 34; refine (HIS.out _ ?side).mono ?_; (case side => exact (by repeat (first | with_reducible exact HL.out | apply IsLane.alloc | apply IsLane.drewN))); rintro e_ w' ⟨rfl, rfl⟩) | (go_at_call 36; (with_reducible refine (HCL.out _ ?side2).mono ?_); (case side2 => exact (by repeat (first | with_reducible exact HL.out | apply IsLane.alloc | apply IsLane.drewN))); rintro e_ w1 ⟨rfl, hb1⟩; have HB1 := Aside0.mk (show Below w.heap.size w w1 from below_step (by repeat (first | (with_reducible exact Below.refl _ _) | apply pw_below_drewN | apply below_alloc)) hb1); have HL1 := Aside0.mk (IsLane.chg (by repeat (first | with_reducible exact HL.out | apply IsLane.alloc | apply IsLane.drewN)) (Chg.below hb1 (fun _ => False)) (fun f => f)); have hz1 : w.heap.size < w1.heap.size := (by have := hb1.size; simp at this; omega); have t0 : w1.cell? ⟨w.heap.size, 0, none⟩ = some (.int .u64 seq) := pw_cell_below hb1 (by go_simp); have ce := HL1.out.e_is he; clear hb1))
      go_quiet (fail)
      go_wp2
      go_ret
      exact ⟨rfl, pw_below_drewN HB1.out _⟩
end Go.Proofs.Ytekjhfhlbkcklaa.L

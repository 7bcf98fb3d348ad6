/-
  The lane's methods: Lay, Publish.
-/
import Derived.Test.YtekjhfhlbkcklaaLd
namespace Go.Proofs.Ytekjhfhlbkcklaa.L
open Go.RowKit Go.Proofs.Ytekjhfhlbkcklaa.K Go.Proofs.Ytekjhfhlbkcklaa.PA Go.Proofs.YtekjhfhlbkcklaaW.PrintWords

def layL (L : Lane) (seq ep n gen : Int) : Lane × Int :=
  match claimL L seq ep with
  | some j => (match L.ring[j]? with | some e => ({ L with ring := L.ring.set j { e with is := 2, n := n, gen := gen } }, 0) | none => (L, 82))
  | none => (L, 82)
set_option maxHeartbeats 1000000 in
theorem lay_calls (w : World) (b : Nat) (L : Lane) (h : IsLane w b L) (hok : Ok L) (seq ep n gen : Int) (h0 : 0 ≤ seq) (h1 : seq < 18446744073709551616) :
    Calls Try.prog 16 #[.pointer (some ⟨b, 0, none⟩), .agg #[.int .u64 seq, .int .u64 ep], .agg #[.int .i64 n, .int .u64 gen]] w fun e w' => e = .returned (.int .i64 (layL L seq ep n gen).2) ∧ IsLane w' b (layL L seq ep n gen).1 ∧ Chg (· = b) w w' := by
  have hlt := h.lt; have hs := hok.pow; have hu := Try.underlying34; have HL := Aside0.mk h; have HIS := Aside0.mk (fun W (hl : IsLane W b L) => is_at W b L hl true (by simp [hok.credit])); have hcl := fun W (hl : IsLane W b L) => claim_calls W b L hl hs seq ep h0 h1
  have hu2 := Try.underlying36
  cases hc : claimL L seq ep with
  | none =>
    have hres : layL L seq ep n gen = (L, 82) := by simp [layL, hc]
    rw [hres]
    simp only [hc, entPtr, Option.map_none, Option.map_some] at hcl
    have HCL := Aside0.mk hcl
    clear h hok hc hres hcl hs
    go_enter Try.func16, Try.ntmps16
    go_wp2_with (first | (go_at_call 34; refine (HIS.out _ ?side).mono ?_; (case side => exact (by repeat (first | with_reducible exact HL.out | apply IsLane.alloc | apply IsLane.drewN))); rintro e_ w' ⟨rfl, rfl⟩) | (go_at_call 36; ((with_reducible refine (HCL.out _ ?side2).mono ?_); (case side2 => exact (by repeat (first | with_reducible exact HL.out | apply IsLane.alloc | apply IsLane.drewN))); rintro e_ w1 ⟨rfl, hb1⟩; have HB1 := Aside0.mk (show Below w.heap.size w w1 from below_step (by repeat (first | (with_reducible exact Below.refl _ _) | apply pw_below_drewN | apply below_alloc)) hb1); have HL1 := Aside0.mk (IsLane.chg (by repeat (first | with_reducible exact HL.out | apply IsLane.alloc | apply IsLane.drewN)) (Chg.below hb1 (fun _ => False)) (fun f => f)); have hz1 : w.heap.size < w1.heap.size := (by have := hb1.size; simp at this; omega); have t0 : w1.cell? ⟨w.heap.size, 0, none⟩ = some (.int .u64 seq) := pw_cell_below hb1 (by go_simp); skip; clear hb1)))
    go_ret
    exact ⟨rfl, HL1.out, Chg.below HB1.out _⟩
  | some j =>
    obtain ⟨e, he, hi⟩ := claimL_some hc
    have hres : layL L seq ep n gen = ({ L with ring := L.ring.set j { e with is := 2, n := n, gen := gen } }, 0) := by simp [layL, hc, he]
    rw [hres]
    simp only [hc, entPtr, Option.map_none, Option.map_some] at hcl
    have HCL := Aside0.mk hcl
    clear h hok hc hres hcl hs
    go_enter Try.func16, Try.ntmps16
    go_wp2_with (first | (go_at_call 34; refine (HIS.out _ ?side).mono ?_; (case side => exact (by repeat (first | with_reducible exact HL.out | apply IsLane.alloc | apply IsLane.drewN))); rintro e_ w' ⟨rfl, rfl⟩) | (go_at_call 36; ((with_reducible refine (HCL.out _ ?side2).mono ?_); (case side2 => exact (by repeat (first | with_reducible exact HL.out | apply IsLane.alloc | apply IsLane.drewN))); rintro e_ w1 ⟨rfl, hb1⟩; have HB1 := Aside0.mk (show Below w.heap.size w w1 from below_step (by repeat (first | (with_reducible exact Below.refl _ _) | apply pw_below_drewN | apply below_alloc)) hb1); have HL1 := Aside0.mk (IsLane.chg (by repeat (first | with_reducible exact HL.out | apply IsLane.alloc | apply IsLane.drewN)) (Chg.below hb1 (fun _ => False)) (fun f => f)); have hz1 : w.heap.size < w1.heap.size := (by have := hb1.size; simp at this; omega); have t0 : w1.cell? ⟨w.heap.size, 0, none⟩ = some (.int .u64 seq) := pw_cell_below hb1 (by go_simp); have ce := HL1.out.e_is he; have cn := HL1.out.e_n he; have cg := HL1.out.e_gen he; have f0 := HL1.out.fr; have t1 : w1.cell? ⟨w.heap.size + 1, 0, none⟩ = some (.int .i64 n) := pw_cell_below hb1 (by go_simp); have t2 : w1.cell? ⟨w.heap.size + 1, 1, none⟩ = some (.int .u64 gen) := pw_cell_below hb1 (by go_simp); have hne : w.heap.size + 1 ≠ b := (by omega); clear hb1)))
    go_region
    go_wp2
    go_ret
    exact ⟨rfl, (HL1.out.w_lay he 2 n gen).drew, ((((Chg.below HB1.out (· = b)).setCell _ _ (fun _ => rfl)).setCell _ _ (fun _ => rfl)).setCell _ _ (fun _ => rfl)).drew⟩

def pubL (L : Lane) (seq ep tick step : Int) : Lane × Int :=
  match claimL L seq ep with
  | some j => (match L.ring[j]? with
    | some e => if e.is = 2 then (if seq = L.ready then ({ L with ring := L.ring.set j { e with is := 3, tick := tick, step := step }, ready := IntKind.u64.wrap (L.ready + 1) }, 0) else (L, 83)) else (L, 82)
    | none => (L, 82))
  | none => (L, 82)
set_option maxHeartbeats 1000000 in
theorem publish_calls (w : World) (b : Nat) (L : Lane) (h : IsLane w b L) (hok : Ok L) (seq ep tick step : Int) (h0 : 0 ≤ seq) (h1 : seq < 18446744073709551616) :
    Calls Try.prog 20 #[.pointer (some ⟨b, 0, none⟩), .agg #[.int .u64 seq, .int .u64 ep], .agg #[.int .i64 tick, .int .i64 step]] w fun e w' => e = .returned (.int .i64 (pubL L seq ep tick step).2) ∧ IsLane w' b (pubL L seq ep tick step).1 ∧ Chg (· = b) w w' := by
  have hlt := h.lt; have hs := hok.pow; have hu := Try.underlying34; have HL := Aside0.mk h; have HIS := Aside0.mk (fun W (hl : IsLane W b L) => is_at W b L hl true (by simp [hok.credit])); have hcl := fun W (hl : IsLane W b L) => claim_calls W b L hl hs seq ep h0 h1
  have hu2 := Try.underlying38
  cases hc : claimL L seq ep with
  | none =>
    have hres : pubL L seq ep tick step = (L, 82) := by simp [pubL, hc]
    rw [hres]
    simp only [hc, entPtr, Option.map_none, Option.map_some] at hcl
    have HCL := Aside0.mk hcl
    clear h hok hc hres hcl hs
    go_enter Try.func20, Try.ntmps20
    go_wp2_with (first | (go_at_call 34; refine (HIS.out _ ?side).mono ?_; (case side => exact (by repeat (first | with_reducible exact HL.out | apply IsLane.alloc | apply IsLane.drewN))); rintro e_ w' ⟨rfl, rfl⟩) | (go_at_call 36; ((with_reducible refine (HCL.out _ ?side2).mono ?_); (case side2 => exact (by repeat (first | with_reducible exact HL.out | apply IsLane.alloc | apply IsLane.drewN))); rintro e_ w1 ⟨rfl, hb1⟩; have HB1 := Aside0.mk (show Below w.heap.size w w1 from below_step (by repeat (first | (with_reducible exact Below.refl _ _) | apply pw_below_drewN | apply below_alloc)) hb1); have HL1 := Aside0.mk (IsLane.chg (by repeat (first | with_reducible exact HL.out | apply IsLane.alloc | apply IsLane.drewN)) (Chg.below hb1 (fun _ => False)) (fun f => f)); have hz1 : w.heap.size < w1.heap.size := (by have := hb1.size; simp at this; omega); have t0 : w1.cell? ⟨w.heap.size, 0, none⟩ = some (.int .u64 seq) := pw_cell_below hb1 (by go_simp); skip; clear hb1)))
    go_ret
    exact ⟨rfl, HL1.out, Chg.below HB1.out _⟩
  | some j =>
    obtain ⟨e, he, hi⟩ := claimL_some hc
    have hres : pubL L seq ep tick step = if e.is = 2 then (if seq = L.ready then ({ L with ring := L.ring.set j { e with is := 3, tick := tick, step := step }, ready := IntKind.u64.wrap (L.ready + 1) }, 0) else (L, 83)) else (L, 82) := by simp [pubL, hc, he]
    rw [hres]
    simp only [hc, entPtr, Option.map_none, Option.map_some] at hcl
    have HCL := Aside0.mk hcl
    clear h hok hc hres hcl hs
    by_cases i2 : e.is = 2
    · have i2b : (e.is != 2) = false := by simp [i2]
      rw [if_pos i2]
      by_cases i3 : seq = L.ready
      · have i3b : (seq != L.ready) = false := by simp [i3]
        rw [if_pos i3]
        clear i2 i3 hi
        go_enter Try.func20, Try.ntmps20
        go_wp2_with (first | (go_at_call 34; refine (HIS.out _ ?side).mono ?_; (case side => exact (by repeat (first | with_reducible exact HL.out | apply IsLane.alloc | apply IsLane.drewN))); rintro e_ w' ⟨rfl, rfl⟩) | (go_at_call 36; ((with_reducible refine (HCL.out _ ?side2).mono ?_); (case side2 => exact (by repeat (first | with_reducible exact HL.out | apply IsLane.alloc | apply IsLane.drewN))); rintro e_ w1 ⟨rfl, hb1⟩; have HB1 := Aside0.mk (show Below w.heap.size w w1 from below_step (by repeat (first | (with_reducible exact Below.refl _ _) | apply pw_below_drewN | apply below_alloc)) hb1); have HL1 := Aside0.mk (IsLane.chg (by repeat (first | with_reducible exact HL.out | apply IsLane.alloc | apply IsLane.drewN)) (Chg.below hb1 (fun _ => False)) (fun f => f)); have hz1 : w.heap.size < w1.heap.size := (by have := hb1.size; simp at this; omega); have t0 : w1.cell? ⟨w.heap.size, 0, none⟩ = some (.int .u64 seq) := pw_cell_below hb1 (by go_simp); have ce := HL1.out.e_is he; have c7 := HL1.out.c_ready; have cn := HL1.out.e_tick he; have cg := HL1.out.e_step he; have f0 := HL1.out.fr; have t1 : w1.cell? ⟨w.heap.size + 1, 0, none⟩ = some (.int .i64 tick) := pw_cell_below hb1 (by go_simp); have t2 : w1.cell? ⟨w.heap.size + 1, 1, none⟩ = some (.int .i64 step) := pw_cell_below hb1 (by go_simp); have hne : w.heap.size + 1 ≠ b := (by omega); clear hb1)))
        go_quiet (fail)
        go_wp2
        go_region
        go_wp2
        go_ret
        exact ⟨rfl, ((HL1.out.drewN (nq + 1)).w_pub he 3 tick step).s_ready _, (by repeat (first | with_reducible exact Chg.below HB1.out _ | refine Chg.setCell ?_ _ _ (fun _ => rfl) | apply Chg.drewN | apply Chg.drew))⟩
      · have i3b : (seq != L.ready) = true := by simpa using i3
        rw [if_neg i3]
        clear i2 i3 hi
        go_enter Try.func20, Try.ntmps20
        go_wp2_with (first | (go_at_call 34; refine (HIS.out _ ?side).mono ?_; (case side => exact (by repeat (first | with_reducible exact HL.out | apply IsLane.alloc | apply IsLane.drewN))); rintro e_ w' ⟨rfl, rfl⟩) | (go_at_call 36; ((with_reducible refine (HCL.out _ ?side2).mono ?_); (case side2 => exact (by repeat (first | with_reducible exact HL.out | apply IsLane.alloc | apply IsLane.drewN))); rintro e_ w1 ⟨rfl, hb1⟩; have HB1 := Aside0.mk (show Below w.heap.size w w1 from below_step (by repeat (first | (with_reducible exact Below.refl _ _) | apply pw_below_drewN | apply below_alloc)) hb1); have HL1 := Aside0.mk (IsLane.chg (by repeat (first | with_reducible exact HL.out | apply IsLane.alloc | apply IsLane.drewN)) (Chg.below hb1 (fun _ => False)) (fun f => f)); have hz1 : w.heap.size < w1.heap.size := (by have := hb1.size; simp at this; omega); have t0 : w1.cell? ⟨w.heap.size, 0, none⟩ = some (.int .u64 seq) := pw_cell_below hb1 (by go_simp); have ce := HL1.out.e_is he; have c7 := HL1.out.c_ready; clear hb1)))
        go_quiet (fail)
        go_wp2
        go_ret
        exact ⟨rfl, HL1.out.drewN _, (Chg.below HB1.out _).drewN _⟩
    · have i2b : (e.is != 2) = true := by simpa using i2
      rw [if_neg i2]
      clear i2 hi
      go_enter Try.func20, Try.ntmps20
      go_wp2_with (first | (go_at_call 34; refine (HIS.out _ ?side).mono ?_; (case side => exact (by repeat (first | with_reducible exact HL.out | apply IsLane.alloc | apply IsLane.drewN))); rintro e_ w' ⟨rfl, rfl⟩) | (go_at_call 36; ((with_reducible refine (HCL.out _ ?side2).mono ?_); (case side2 => exact (by repeat (first | with_reducible exact HL.out | apply IsLane.alloc | apply IsLane.drewN))); rintro e_ w1 ⟨rfl, hb1⟩; have HB1 := Aside0.mk (show Below w.heap.size w w1 from below_step (by repeat (first | (with_reducible exact Below.refl _ _) | apply pw_below_drewN | apply below_alloc)) hb1); have HL1 := Aside0.mk (IsLane.chg (by repeat (first | with_reducible exact HL.out | apply IsLane.alloc | apply IsLane.drewN)) (Chg.below hb1 (fun _ => False)) (fun f => f)); have hz1 : w.heap.size < w1.heap.size := (by have := hb1.size; simp at this; omega); have t0 : w1.cell? ⟨w.heap.size, 0, none⟩ = some (.int .u64 seq) := pw_cell_below hb1 (by go_simp); have ce := HL1.out.e_is he; clear hb1)))
      go_ret
      exact ⟨rfl, HL1.out, Chg.below HB1.out _⟩
end Go.Proofs.Ytekjhfhlbkcklaa.L

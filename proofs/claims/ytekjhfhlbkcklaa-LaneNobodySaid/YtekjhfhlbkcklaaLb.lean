/-
  The lane in memory, more: its cells read, and what a store into each of them makes.
-/
import Derived.Test.YtekjhfhlbkcklaaLa
namespace Go.Proofs.Ytekjhfhlbkcklaa.L
open Go.RowKit Go.Proofs.Ytekjhfhlbkcklaa.K

structure IsLane (w : World) (b : Nat) (L : Lane) : Prop where
  blk : Blk w b (laneCells L) 67
  len : L.ring.length = 64
theorem get_ring (L : Lane) (hl : L.ring.length = 64) (j i : Nat) (e : Ent) (h : L.ring[j]? = some e) (hi : i < 5) : (laneCells L)[4 + (5 * j + i)]? = e.cells[i]? := by
  have hj : j < 64 := by rw [← hl]; exact (List.getElem?_eq_some_iff.1 h).1
  unfold laneCells
  rw [List.getElem?_append_right (by simp [hdCells]), show (hdCells L).length = 4 from rfl, show 4 + (5 * j + i) - 4 = 5 * j + i by omega,
    List.getElem?_append_left (by rw [ringCells_length, hl]; omega)]
  exact ringCells_get _ _ _ _ h hi
theorem get_tl (L : Lane) (hl : L.ring.length = 64) (k : Nat) : (laneCells L)[324 + k]? = (tlCells L)[k]? := by
  unfold laneCells
  rw [List.getElem?_append_right (by simp [hdCells]; omega), show (hdCells L).length = 4 from rfl,
    List.getElem?_append_right (by rw [ringCells_length, hl]; omega), ringCells_length, hl, show 324 + k - 4 - 5 * 64 = k by omega]
theorem set_ring (L : Lane) (hl : L.ring.length = 64) (j i : Nat) (e e' : Ent) (v : Value) (h : L.ring[j]? = some e) (hi : i < 5) (he : e.cells.set i v = e'.cells) :
    (laneCells L).set (4 + (5 * j + i)) v = laneCells { L with ring := L.ring.set j e' } := by
  have hj : j < 64 := by rw [← hl]; exact (List.getElem?_eq_some_iff.1 h).1
  show (hdCells L ++ (ringCells L.ring ++ tlCells L)).set _ _ = hdCells L ++ (ringCells (L.ring.set j e') ++ tlCells L)
  rw [List.set_append_right _ _ (by simp [hdCells]), show (hdCells L).length = 4 from rfl, show 4 + (5 * j + i) - 4 = 5 * j + i by omega,
    List.set_append_left _ _ (by rw [ringCells_length, hl]; omega), ringCells_set _ _ _ _ _ _ h hi he]
theorem set_tl (L L' : Lane) (hl : L.ring.length = 64) (k : Nat) (v : Value) (hr : L'.ring = L.ring) (hh : hdCells L' = hdCells L) (ht : (tlCells L).set k v = tlCells L') :
    (laneCells L).set (324 + k) v = laneCells L' := by
  show (hdCells L ++ (ringCells L.ring ++ tlCells L)).set _ _ = hdCells L' ++ (ringCells L'.ring ++ tlCells L')
  rw [List.set_append_right _ _ (by simp [hdCells]; omega), show (hdCells L).length = 4 from rfl,
    List.set_append_right _ _ (by rw [ringCells_length, hl]; omega), ringCells_length, hl, show 324 + k - 4 - 5 * 64 = k by omega, ht, hh, hr]
namespace IsLane
variable {w w1 : World} {b : Nat} {L : Lane}
theorem chg {S : Nat → Prop} (h : IsLane w b L) (c : Chg S w w1) (hn : ¬ S b) : IsLane w1 b L := ⟨h.blk.chg c hn, h.len⟩
theorem alloc (h : IsLane w b L) (o : Obj) : IsLane (w.alloc o) b L := ⟨h.blk.alloc o, h.len⟩
theorem other (h : IsLane w b L) {p : Addr} (hp : p.block ≠ b) (v : Value) : IsLane (w.setCell p v) b L := ⟨h.blk.other hp v, h.len⟩
theorem drewN (h : IsLane w b L) (n : Nat) : IsLane (w.drewN n) b L := ⟨h.blk, h.len⟩
theorem drew (h : IsLane w b L) : IsLane w.drew b L := ⟨h.blk, h.len⟩
theorem fr (h : IsLane w b L) (i : Nat) : w.frozen? ⟨b, i, none⟩ = false := h.blk.frozen i
theorem lt (h : IsLane w b L) : b < w.heap.size := h.blk.lt
theorem c_credit (h : IsLane w b L) : w.cell? ⟨b, 0, none⟩ = some (.int .i64 L.credit) := h.blk.cell rfl
theorem c_two (h : IsLane w b L) : w.cell? ⟨b, 1, none⟩ = some (.bool L.two) := h.blk.cell rfl
theorem c_left (h : IsLane w b L) : w.cell? ⟨b, 2, none⟩ = some (.int .i64 L.left) := h.blk.cell rfl
theorem c_size (h : IsLane w b L) : w.cell? ⟨b, 3, none⟩ = some (.int .i64 L.size) := h.blk.cell rfl
theorem c_base (h : IsLane w b L) : w.cell? ⟨b, 324, none⟩ = some (.int .u64 L.base) := h.blk.cell (get_tl L h.len 0)
theorem c_head (h : IsLane w b L) : w.cell? ⟨b, 325, none⟩ = some (.int .u64 L.head) := h.blk.cell (get_tl L h.len 1)
theorem c_ready (h : IsLane w b L) : w.cell? ⟨b, 326, none⟩ = some (.int .u64 L.ready) := h.blk.cell (get_tl L h.len 2)
theorem c_tail (h : IsLane w b L) : w.cell? ⟨b, 327, none⟩ = some (.int .u64 L.tail) := h.blk.cell (get_tl L h.len 3)
theorem c_epoch (h : IsLane w b L) : w.cell? ⟨b, 328, none⟩ = some (.int .u64 L.epoch) := h.blk.cell (get_tl L h.len 4)
theorem c_m (h : IsLane w b L) : w.cell? ⟨b, 329, none⟩ = some (.map (some L.m)) := h.blk.cell (get_tl L h.len 5)
theorem c_ent (h : IsLane w b L) {j : Nat} {e : Ent} (he : L.ring[j]? = some e) (i : Nat) {v : Value} (hi : i < 5) (hv : e.cells[i]? = some v) : w.cell? ⟨b, 4 + (5 * j + i), none⟩ = some v := h.blk.cell ((get_ring L h.len j i e he hi).trans hv)
theorem e_is (h : IsLane w b L) {j : Nat} {e : Ent} (he : L.ring[j]? = some e) : w.cell? ⟨b, 4 + j * 5, none⟩ = some (.int .i64 e.is) := by rw [Nat.mul_comm]; exact h.c_ent he 0 (by omega) rfl
theorem e_n (h : IsLane w b L) {j : Nat} {e : Ent} (he : L.ring[j]? = some e) : w.cell? ⟨b, 4 + j * 5 + 1, none⟩ = some (.int .i64 e.n) := by rw [Nat.mul_comm]; exact h.c_ent he 1 (by omega) rfl
theorem e_gen (h : IsLane w b L) {j : Nat} {e : Ent} (he : L.ring[j]? = some e) : w.cell? ⟨b, 4 + j * 5 + 2, none⟩ = some (.int .u64 e.gen) := by rw [Nat.mul_comm]; exact h.c_ent he 2 (by omega) rfl
theorem e_tick (h : IsLane w b L) {j : Nat} {e : Ent} (he : L.ring[j]? = some e) : w.cell? ⟨b, 4 + j * 5 + 3, none⟩ = some (.int .i64 e.tick) := by rw [Nat.mul_comm]; exact h.c_ent he 3 (by omega) rfl
theorem e_step (h : IsLane w b L) {j : Nat} {e : Ent} (he : L.ring[j]? = some e) : w.cell? ⟨b, 4 + j * 5 + 4, none⟩ = some (.int .i64 e.step) := by rw [Nat.mul_comm]; exact h.c_ent he 4 (by omega) rfl
theorem s_left (h : IsLane w b L) (x : Int) : IsLane (w.setCell ⟨b, 2, none⟩ (.int .i64 x)) b { L with left := x } := ⟨h.blk.set 2 _, h.len⟩
theorem s_base (h : IsLane w b L) (x : Int) : IsLane (w.setCell ⟨b, 324, none⟩ (.int .u64 x)) b { L with base := x } := ⟨by rw [← set_tl L { L with base := x } h.len 0 (.int .u64 x) rfl rfl rfl]; exact h.blk.set _ _, h.len⟩
theorem s_head (h : IsLane w b L) (x : Int) : IsLane (w.setCell ⟨b, 325, none⟩ (.int .u64 x)) b { L with head := x } := ⟨by rw [← set_tl L { L with head := x } h.len 1 (.int .u64 x) rfl rfl rfl]; exact h.blk.set _ _, h.len⟩
theorem s_ready (h : IsLane w b L) (x : Int) : IsLane (w.setCell ⟨b, 326, none⟩ (.int .u64 x)) b { L with ready := x } := ⟨by rw [← set_tl L { L with ready := x } h.len 2 (.int .u64 x) rfl rfl rfl]; exact h.blk.set _ _, h.len⟩
theorem s_tail (h : IsLane w b L) (x : Int) : IsLane (w.setCell ⟨b, 327, none⟩ (.int .u64 x)) b { L with tail := x } := ⟨by rw [← set_tl L { L with tail := x } h.len 3 (.int .u64 x) rfl rfl rfl]; exact h.blk.set _ _, h.len⟩
theorem s_epoch (h : IsLane w b L) (x : Int) : IsLane (w.setCell ⟨b, 328, none⟩ (.int .u64 x)) b { L with epoch := x } := ⟨by rw [← set_tl L { L with epoch := x } h.len 4 (.int .u64 x) rfl rfl rfl]; exact h.blk.set _ _, h.len⟩
theorem s_ent (h : IsLane w b L) {j : Nat} {e e' : Ent} (he : L.ring[j]? = some e) (i : Nat) {v : Value} (hi : i < 5) (hv : e.cells.set i v = e'.cells) : IsLane (w.setCell ⟨b, 4 + (5 * j + i), none⟩ v) b { L with ring := L.ring.set j e' } :=
  ⟨by rw [← set_ring L h.len j i e e' v he hi hv]; exact h.blk.set _ _, by simpa using h.len⟩
theorem s_ent' (h : IsLane w b L) {j : Nat} {e e' : Ent} (he : L.ring[j]? = some e) (i : Nat) {v : Value} (hi : i < 5) (hv : e.cells.set i v = e'.cells) : IsLane (w.setCell ⟨b, 4 + j * 5 + i, none⟩ v) b { L with ring := L.ring.set j e' } := by
  rw [Nat.mul_comm j 5, Nat.add_assoc]
  exact h.s_ent he i hi hv
theorem ring_set {L : Lane} {j : Nat} {e e' : Ent} (he : L.ring[j]? = some e) : (L.ring.set j e')[j]? = some e' := by
  rw [List.getElem?_set_self (List.getElem?_eq_some_iff.1 he).1]
theorem s_ent2 (h : IsLane w b L) {j : Nat} (e e' : Ent) (he : L.ring[j]? = some e) (i : Nat) (v : Value) (hi : i < 5) (hv : e.cells.set i v = e'.cells) (r' : List Ent) (hr : L.ring.set j e' = r') : IsLane (w.setCell ⟨b, 4 + j * 5 + i, none⟩ v) b { L with ring := r' } := by
  subst hr
  exact h.s_ent' he i hi hv
theorem w_lay (h : IsLane w b L) {j : Nat} {e : Ent} (he : L.ring[j]? = some e) (s n gen : Int) :
    IsLane (((w.setCell ⟨b, 4 + j * 5, none⟩ (.int .i64 s)).setCell ⟨b, 4 + j * 5 + 1, none⟩ (.int .i64 n)).setCell ⟨b, 4 + j * 5 + 1 + 1, none⟩ (.int .u64 gen)) b { L with ring := L.ring.set j { e with is := s, n := n, gen := gen } } := by
  have h1 := h.s_ent2 e { e with is := s } he 0 (.int .i64 s) (by omega) rfl _ rfl
  have h2 := h1.s_ent2 { e with is := s } { e with is := s, n := n } (ring_set he) 1 (.int .i64 n) (by omega) rfl (L.ring.set j { e with is := s, n := n }) (List.set_set _)
  exact h2.s_ent2 { e with is := s, n := n } { e with is := s, n := n, gen := gen } (ring_set he) 2 (.int .u64 gen) (by omega) rfl (L.ring.set j { e with is := s, n := n, gen := gen }) (List.set_set _)
theorem w_pub (h : IsLane w b L) {j : Nat} {e : Ent} (he : L.ring[j]? = some e) (s tick step : Int) :
    IsLane (((w.setCell ⟨b, 4 + j * 5, none⟩ (.int .i64 s)).setCell ⟨b, 4 + j * 5 + 3, none⟩ (.int .i64 tick)).setCell ⟨b, 4 + j * 5 + 3 + 1, none⟩ (.int .i64 step)) b { L with ring := L.ring.set j { e with is := s, tick := tick, step := step } } := by
  have h1 := h.s_ent2 e { e with is := s } he 0 (.int .i64 s) (by omega) rfl _ rfl
  have h2 := h1.s_ent2 { e with is := s } { e with is := s, tick := tick } (ring_set he) 3 (.int .i64 tick) (by omega) rfl (L.ring.set j { e with is := s, tick := tick }) (List.set_set _)
  exact h2.s_ent2 { e with is := s, tick := tick } { e with is := s, tick := tick, step := step } (ring_set he) 4 (.int .i64 step) (by omega) rfl (L.ring.set j { e with is := s, tick := tick, step := step }) (List.set_set _)
theorem w_all (h : IsLane w b L) {j : Nat} {e : Ent} (he : L.ring[j]? = some e) (s n gen tick step : Int) :
    IsLane (((((w.setCell ⟨b, 4 + j * 5, none⟩ (.int .i64 s)).setCell ⟨b, 4 + j * 5 + 1, none⟩ (.int .i64 n)).setCell ⟨b, 4 + j * 5 + 2, none⟩ (.int .u64 gen)).setCell ⟨b, 4 + j * 5 + 3, none⟩ (.int .i64 tick)).setCell ⟨b, 4 + j * 5 + 4, none⟩ (.int .i64 step)) b { L with ring := L.ring.set j ⟨s, n, gen, tick, step⟩ } := by
  have h3 := h.w_lay he s n gen
  have h4 := h3.s_ent2 { e with is := s, n := n, gen := gen } ⟨s, n, gen, tick, e.step⟩ (ring_set he) 3 (.int .i64 tick) (by omega) rfl (L.ring.set j ⟨s, n, gen, tick, e.step⟩) (List.set_set _)
  exact h4.s_ent2 ⟨s, n, gen, tick, e.step⟩ ⟨s, n, gen, tick, step⟩ (ring_set he) 4 (.int .i64 step) (by omega) rfl (L.ring.set j ⟨s, n, gen, tick, step⟩) (List.set_set _)
end IsLane

set_option maxHeartbeats 400000 in
theorem is_nil (w : World) : Calls Try.prog 34 #[.pointer none] w fun e w' => e = .returned (.bool false) ∧ w' = w := by
  go_enter Try.func34, Try.ntmps34
  go_wp2
  go_ret
  exact ⟨rfl, rfl⟩
set_option maxHeartbeats 400000 in
theorem is_at (w : World) (b : Nat) (L : Lane) (h : IsLane w b L) (r : Bool) (hr : decide (0 < L.credit) = r) : Calls Try.prog 34 #[.pointer (some ⟨b, 0, none⟩)] w fun e w' => e = .returned (.bool r) ∧ w' = w := by
  have h0 := h.c_credit
  clear h
  go_enter Try.func34, Try.ntmps34
  go_wp2
  go_ret
  exact ⟨by simp [← hr], rfl⟩
end Go.Proofs.Ytekjhfhlbkcklaa.L

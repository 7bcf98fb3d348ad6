/-
  The lane in memory: its block of 330 cells, and the map of what was taken. · The lane in memory, more: its cells read, and what a store into each of them makes. · The lane's small readers: at, claim, Ready, First. · The lane's methods: Ready, Lay, Publish, First, where the lane was made. · The lane's methods: Lay, Publish. · The lane's methods: First, Claim.
-/
import Derived.Test.YtekjhfhlbkcklaaProg
import Derived.Test.YtekjhfhlbkcklaaK
import Derived.Test.YtekjhfhlbkcklaaPAx7
import Derived.Test.YtekjhfhlbkcklaaPAx10
import Derived.Laws.BitsAllLaws
import Derived.StillTailTactics
import Derived.Deep.RegionWith
import Derived.BigRegion
set_option linter.unusedVariables false
set_option linter.unusedSimpArgs false
namespace Go.Proofs.Ytekjhfhlbkcklaa.L
open Go.RowKit Go.Proofs.Ytekjhfhlbkcklaa.K

structure Ent where
  is : Int
  n : Int
  gen : Int
  tick : Int
  step : Int
def ent0 : Ent := ⟨0, 0, 0, 0, 0⟩
def Ent.cells (e : Ent) : List Value := [.int .i64 e.is, .int .i64 e.n, .int .u64 e.gen, .int .i64 e.tick, .int .i64 e.step]

structure Lane where
  credit : Int
  two : Bool
  left : Int
  size : Int
  ring : List Ent
  base : Int
  head : Int
  ready : Int
  tail : Int
  epoch : Int
  m : Nat

def hdCells (L : Lane) : List Value := [.int .i64 L.credit, .bool L.two, .int .i64 L.left, .int .i64 L.size]
def ringCells (r : List Ent) : List Value := r.flatMap Ent.cells
def tlCells (L : Lane) : List Value := [.int .u64 L.base, .int .u64 L.head, .int .u64 L.ready, .int .u64 L.tail, .int .u64 L.epoch, .map (some L.m)]
def laneCells (L : Lane) : List Value := hdCells L ++ (ringCells L.ring ++ tlCells L)

theorem ringCells_length : ∀ r : List Ent, (ringCells r).length = 5 * r.length
  | [] => rfl
  | e :: r => by simp only [ringCells, List.flatMap_cons, List.length_append, List.length_cons] at *; have := ringCells_length r; simp only [ringCells] at this; rw [this]; simp [Ent.cells]; omega
theorem ringCells_get : ∀ (r : List Ent) (j i : Nat) (e : Ent), r[j]? = some e → i < 5 → (ringCells r)[5 * j + i]? = e.cells[i]?
  | [], j, i, e, h, _ => by simp at h
  | x :: r, 0, i, e, h, hi => by
    obtain rfl : x = e := by simpa using h
    rw [ringCells, List.flatMap_cons, List.getElem?_append_left (by simp [Ent.cells]; omega)]
    simp
  | x :: r, j + 1, i, e, h, hi => by
    have hl : x.cells.length = 5 := rfl
    rw [ringCells, List.flatMap_cons, List.getElem?_append_right (by rw [hl]; omega), hl, show 5 * (j + 1) + i - 5 = 5 * j + i by omega]
    exact ringCells_get r j i e (by simpa using h) hi
theorem ringCells_set : ∀ (r : List Ent) (j i : Nat) (e : Ent) (v : Value) (e' : Ent), r[j]? = some e → i < 5 → e.cells.set i v = e'.cells → (ringCells r).set (5 * j + i) v = ringCells (r.set j e')
  | [], j, i, e, v, e', h, _, _ => by simp at h
  | x :: r, 0, i, e, v, e', h, hi, he => by
    obtain rfl : x = e := by simpa using h
    simp only [ringCells, List.flatMap_cons, List.set_cons_zero]
    rw [List.set_append_left _ _ (by simp [Ent.cells]; omega), Nat.mul_zero, Nat.zero_add, he]
  | x :: r, j + 1, i, e, v, e', h, hi, he => by
    have hl : x.cells.length = 5 := rfl
    simp only [ringCells, List.flatMap_cons, List.set_cons_succ]
    rw [List.set_append_right _ _ (by rw [hl]; omega), hl, show 5 * (j + 1) + i - 5 = 5 * j + i by omega]
    have := ringCells_set r j i e v e' (by simpa using h) hi he
    simp only [ringCells] at this
    rw [this]
end Go.Proofs.Ytekjhfhlbkcklaa.L
namespace Go.Proofs.Ytekjhfhlbkcklaa.L
open Go.RowKit Go.Proofs.Ytekjhfhlbkcklaa.K

structure IsLane (w : World) (b : Nat) (L : Lane) : Prop where
  blk : Blk w b (laneCells L) 67
  len : L.ring.length = 64
theorem get_ring (L : Lane) (hl : L.ring.length = 64) (j i : Nat) (e : Ent) (h : L.ring[j]? = some e) (hi : i < 5) : (laneCells L)[4 + (5 * j + i)]? = e.cells[i]? := by
  have hj : j < 64 := by rw [← hl]; exact (List.getElem?_eq_some_iff.1 h).1
  unfold laneCells
  rw [List.getElem?_append_right (by simp [hdCells]), show (hdCells L).length = 4 from rfl, show 4 + (5 * j + i) - 4 = 5 * j + i by omega,
    List.getElem?_append_left (by rw [ringCells_length, hl]; omega)]
  exact ringCells_get _ _ _ _ h hi
theorem get_tl (L : Lane) (hl : L.ring.length = 64) (k : Nat) : (laneCells L)[324 + k]? = (tlCells L)[k]? := by
  unfold laneCells
  rw [List.getElem?_append_right (by simp [hdCells]; omega), show (hdCells L).length = 4 from rfl,
    List.getElem?_append_right (by rw [ringCells_length, hl]; omega), ringCells_length, hl, show 324 + k - 4 - 5 * 64 = k by omega]
theorem set_ring (L : Lane) (hl : L.ring.length = 64) (j i : Nat) (e e' : Ent) (v : Value) (h : L.ring[j]? = some e) (hi : i < 5) (he : e.cells.set i v = e'.cells) :
    (laneCells L).set (4 + (5 * j + i)) v = laneCells { L with ring := L.ring.set j e' } := by
  have hj : j < 64 := by rw [← hl]; exact (List.getElem?_eq_some_iff.1 h).1
  show (hdCells L ++ (ringCells L.ring ++ tlCells L)).set _ _ = hdCells L ++ (ringCells (L.ring.set j e') ++ tlCells L)
  rw [List.set_append_right _ _ (by simp [hdCells]), show (hdCells L).length = 4 from rfl, show 4 + (5 * j + i) - 4 = 5 * j + i by omega,
    List.set_append_left _ _ (by rw [ringCells_length, hl]; omega), ringCells_set _ _ _ _ _ _ h hi he]
theorem set_tl (L L' : Lane) (hl : L.ring.length = 64) (k : Nat) (v : Value) (hr : L'.ring = L.ring) (hh : hdCells L' = hdCells L) (ht : (tlCells L).set k v = tlCells L') :
    (laneCells L).set (324 + k) v = laneCells L' := by
  show (hdCells L ++ (ringCells L.ring ++ tlCells L)).set _ _ = hdCells L' ++ (ringCells L'.ring ++ tlCells L')
  rw [List.set_append_right _ _ (by simp [hdCells]; omega), show (hdCells L).length = 4 from rfl,
    List.set_append_right _ _ (by rw [ringCells_length, hl]; omega), ringCells_length, hl, show 324 + k - 4 - 5 * 64 = k by omega, ht, hh, hr]
namespace IsLane
variable {w w1 : World} {b : Nat} {L : Lane}
theorem chg {S : Nat → Prop} (h : IsLane w b L) (c : Chg S w w1) (hn : ¬ S b) : IsLane w1 b L := ⟨h.blk.chg c hn, h.len⟩
theorem alloc (h : IsLane w b L) (o : Obj) : IsLane (w.alloc o) b L := ⟨h.blk.alloc o, h.len⟩
theorem other (h : IsLane w b L) {p : Addr} (hp : p.block ≠ b) (v : Value) : IsLane (w.setCell p v) b L := ⟨h.blk.other hp v, h.len⟩
theorem drewN (h : IsLane w b L) (n : Nat) : IsLane (w.drewN n) b L := ⟨h.blk, h.len⟩
theorem drew (h : IsLane w b L) : IsLane w.drew b L := ⟨h.blk, h.len⟩
theorem fr (h : IsLane w b L) (i : Nat) : w.frozen? ⟨b, i, none⟩ = false := h.blk.frozen i
theorem lt (h : IsLane w b L) : b < w.heap.size := h.blk.lt
theorem c_credit (h : IsLane w b L) : w.cell? ⟨b, 0, none⟩ = some (.int .i64 L.credit) := h.blk.cell rfl
theorem c_two (h : IsLane w b L) : w.cell? ⟨b, 1, none⟩ = some (.bool L.two) := h.blk.cell rfl
theorem c_left (h : IsLane w b L) : w.cell? ⟨b, 2, none⟩ = some (.int .i64 L.left) := h.blk.cell rfl
theorem c_size (h : IsLane w b L) : w.cell? ⟨b, 3, none⟩ = some (.int .i64 L.size) := h.blk.cell rfl
theorem c_base (h : IsLane w b L) : w.cell? ⟨b, 324, none⟩ = some (.int .u64 L.base) := h.blk.cell (get_tl L h.len 0)
theorem c_head (h : IsLane w b L) : w.cell? ⟨b, 325, none⟩ = some (.int .u64 L.head) := h.blk.cell (get_tl L h.len 1)
theorem c_ready (h : IsLane w b L) : w.cell? ⟨b, 326, none⟩ = some (.int .u64 L.ready) := h.blk.cell (get_tl L h.len 2)
theorem c_tail (h : IsLane w b L) : w.cell? ⟨b, 327, none⟩ = some (.int .u64 L.tail) := h.blk.cell (get_tl L h.len 3)
theorem c_epoch (h : IsLane w b L) : w.cell? ⟨b, 328, none⟩ = some (.int .u64 L.epoch) := h.blk.cell (get_tl L h.len 4)
theorem c_m (h : IsLane w b L) : w.cell? ⟨b, 329, none⟩ = some (.map (some L.m)) := h.blk.cell (get_tl L h.len 5)
theorem c_ent (h : IsLane w b L) {j : Nat} {e : Ent} (he : L.ring[j]? = some e) (i : Nat) {v : Value} (hi : i < 5) (hv : e.cells[i]? = some v) : w.cell? ⟨b, 4 + (5 * j + i), none⟩ = some v := h.blk.cell ((get_ring L h.len j i e he hi).trans hv)
theorem e_is (h : IsLane w b L) {j : Nat} {e : Ent} (he : L.ring[j]? = some e) : w.cell? ⟨b, 4 + j * 5, none⟩ = some (.int .i64 e.is) := by rw [Nat.mul_comm]; exact h.c_ent he 0 (by omega) rfl
theorem e_n (h : IsLane w b L) {j : Nat} {e : Ent} (he : L.ring[j]? = some e) : w.cell? ⟨b, 4 + j * 5 + 1, none⟩ = some (.int .i64 e.n) := by rw [Nat.mul_comm]; exact h.c_ent he 1 (by omega) rfl
theorem e_gen (h : IsLane w b L) {j : Nat} {e : Ent} (he : L.ring[j]? = some e) : w.cell? ⟨b, 4 + j * 5 + 2, none⟩ = some (.int .u64 e.gen) := by rw [Nat.mul_comm]; exact h.c_ent he 2 (by omega) rfl
theorem e_tick (h : IsLane w b L) {j : Nat} {e : Ent} (he : L.ring[j]? = some e) : w.cell? ⟨b, 4 + j * 5 + 3, none⟩ = some (.int .i64 e.tick) := by rw [Nat.mul_comm]; exact h.c_ent he 3 (by omega) rfl
theorem e_step (h : IsLane w b L) {j : Nat} {e : Ent} (he : L.ring[j]? = some e) : w.cell? ⟨b, 4 + j * 5 + 4, none⟩ = some (.int .i64 e.step) := by rw [Nat.mul_comm]; exact h.c_ent he 4 (by omega) rfl
theorem s_left (h : IsLane w b L) (x : Int) : IsLane (w.setCell ⟨b, 2, none⟩ (.int .i64 x)) b { L with left := x } := ⟨h.blk.set 2 _, h.len⟩
theorem s_base (h : IsLane w b L) (x : Int) : IsLane (w.setCell ⟨b, 324, none⟩ (.int .u64 x)) b { L with base := x } := ⟨by rw [← set_tl L { L with base := x } h.len 0 (.int .u64 x) rfl rfl rfl]; exact h.blk.set _ _, h.len⟩
theorem s_head (h : IsLane w b L) (x : Int) : IsLane (w.setCell ⟨b, 325, none⟩ (.int .u64 x)) b { L with head := x } := ⟨by rw [← set_tl L { L with head := x } h.len 1 (.int .u64 x) rfl rfl rfl]; exact h.blk.set _ _, h.len⟩
theorem s_ready (h : IsLane w b L) (x : Int) : IsLane (w.setCell ⟨b, 326, none⟩ (.int .u64 x)) b { L with ready := x } := ⟨by rw [← set_tl L { L with ready := x } h.len 2 (.int .u64 x) rfl rfl rfl]; exact h.blk.set _ _, h.len⟩
theorem s_tail (h : IsLane w b L) (x : Int) : IsLane (w.setCell ⟨b, 327, none⟩ (.int .u64 x)) b { L with tail := x } := ⟨by rw [← set_tl L { L with tail := x } h.len 3 (.int .u64 x) rfl rfl rfl]; exact h.blk.set _ _, h.len⟩
theorem s_epoch (h : IsLane w b L) (x : Int) : IsLane (w.setCell ⟨b, 328, none⟩ (.int .u64 x)) b { L with epoch := x } := ⟨by rw [← set_tl L { L with epoch := x } h.len 4 (.int .u64 x) rfl rfl rfl]; exact h.blk.set _ _, h.len⟩
theorem s_ent (h : IsLane w b L) {j : Nat} {e e' : Ent} (he : L.ring[j]? = some e) (i : Nat) {v : Value} (hi : i < 5) (hv : e.cells.set i v = e'.cells) : IsLane (w.setCell ⟨b, 4 + (5 * j + i), none⟩ v) b { L with ring := L.ring.set j e' } :=
  ⟨by rw [← set_ring L h.len j i e e' v he hi hv]; exact h.blk.set _ _, by simpa using h.len⟩
theorem s_ent' (h : IsLane w b L) {j : Nat} {e e' : Ent} (he : L.ring[j]? = some e) (i : Nat) {v : Value} (hi : i < 5) (hv : e.cells.set i v = e'.cells) : IsLane (w.setCell ⟨b, 4 + j * 5 + i, none⟩ v) b { L with ring := L.ring.set j e' } := by
  rw [Nat.mul_comm j 5, Nat.add_assoc]
  exact h.s_ent he i hi hv
theorem ring_set {L : Lane} {j : Nat} {e e' : Ent} (he : L.ring[j]? = some e) : (L.ring.set j e')[j]? = some e' := by
  rw [List.getElem?_set_self (List.getElem?_eq_some_iff.1 he).1]
theorem s_ent2 (h : IsLane w b L) {j : Nat} (e e' : Ent) (he : L.ring[j]? = some e) (i : Nat) (v : Value) (hi : i < 5) (hv : e.cells.set i v = e'.cells) (r' : List Ent) (hr : L.ring.set j e' = r') : IsLane (w.setCell ⟨b, 4 + j * 5 + i, none⟩ v) b { L with ring := r' } := by
  subst hr
  exact h.s_ent' he i hi hv
theorem w_lay (h : IsLane w b L) {j : Nat} {e : Ent} (he : L.ring[j]? = some e) (s n gen : Int) :
    IsLane (((w.setCell ⟨b, 4 + j * 5, none⟩ (.int .i64 s)).setCell ⟨b, 4 + j * 5 + 1, none⟩ (.int .i64 n)).setCell ⟨b, 4 + j * 5 + 1 + 1, none⟩ (.int .u64 gen)) b { L with ring := L.ring.set j { e with is := s, n := n, gen := gen } } := by
  have h1 := h.s_ent2 e { e with is := s } he 0 (.int .i64 s) (by omega) rfl _ rfl
  have h2 := h1.s_ent2 { e with is := s } { e with is := s, n := n } (ring_set he) 1 (.int .i64 n) (by omega) rfl (L.ring.set j { e with is := s, n := n }) (List.set_set _)
  exact h2.s_ent2 { e with is := s, n := n } { e with is := s, n := n, gen := gen } (ring_set he) 2 (.int .u64 gen) (by omega) rfl (L.ring.set j { e with is := s, n := n, gen := gen }) (List.set_set _)
theorem w_pub (h : IsLane w b L) {j : Nat} {e : Ent} (he : L.ring[j]? = some e) (s tick step : Int) :
    IsLane (((w.setCell ⟨b, 4 + j * 5, none⟩ (.int .i64 s)).setCell ⟨b, 4 + j * 5 + 3, none⟩ (.int .i64 tick)).setCell ⟨b, 4 + j * 5 + 3 + 1, none⟩ (.int .i64 step)) b { L with ring := L.ring.set j { e with is := s, tick := tick, step := step } } := by
  have h1 := h.s_ent2 e { e with is := s } he 0 (.int .i64 s) (by omega) rfl _ rfl
  have h2 := h1.s_ent2 { e with is := s } { e with is := s, tick := tick } (ring_set he) 3 (.int .i64 tick) (by omega) rfl (L.ring.set j { e with is := s, tick := tick }) (List.set_set _)
  exact h2.s_ent2 { e with is := s, tick := tick } { e with is := s, tick := tick, step := step } (ring_set he) 4 (.int .i64 step) (by omega) rfl (L.ring.set j { e with is := s, tick := tick, step := step }) (List.set_set _)
theorem w_all (h : IsLane w b L) {j : Nat} {e : Ent} (he : L.ring[j]? = some e) (s n gen tick step : Int) :
    IsLane (((((w.setCell ⟨b, 4 + j * 5, none⟩ (.int .i64 s)).setCell ⟨b, 4 + j * 5 + 1, none⟩ (.int .i64 n)).setCell ⟨b, 4 + j * 5 + 2, none⟩ (.int .u64 gen)).setCell ⟨b, 4 + j * 5 + 3, none⟩ (.int .i64 tick)).setCell ⟨b, 4 + j * 5 + 4, none⟩ (.int .i64 step)) b { L with ring := L.ring.set j ⟨s, n, gen, tick, step⟩ } := by
  have h3 := h.w_lay he s n gen
  have h4 := h3.s_ent2 { e with is := s, n := n, gen := gen } ⟨s, n, gen, tick, e.step⟩ (ring_set he) 3 (.int .i64 tick) (by omega) rfl (L.ring.set j ⟨s, n, gen, tick, e.step⟩) (List.set_set _)
  exact h4.s_ent2 ⟨s, n, gen, tick, e.step⟩ ⟨s, n, gen, tick, step⟩ (ring_set he) 4 (.int .i64 step) (by omega) rfl (L.ring.set j ⟨s, n, gen, tick, step⟩) (List.set_set _)
end IsLane

set_option maxHeartbeats 400000 in
theorem is_nil (w : World) : Calls Try.prog 34 #[.pointer none] w fun e w' => e = .returned (.bool false) ∧ w' = w := by
  go_enter Try.func34, Try.ntmps34
  go_wp2
  go_ret
  exact ⟨rfl, rfl⟩
set_option maxHeartbeats 400000 in
theorem is_at (w : World) (b : Nat) (L : Lane) (h : IsLane w b L) (r : Bool) (hr : decide (0 < L.credit) = r) : Calls Try.prog 34 #[.pointer (some ⟨b, 0, none⟩)] w fun e w' => e = .returned (.bool r) ∧ w' = w := by
  have h0 := h.c_credit
  clear h
  go_enter Try.func34, Try.ntmps34
  go_wp2
  go_ret
  exact ⟨by simp [← hr], rfl⟩
end Go.Proofs.Ytekjhfhlbkcklaa.L
namespace Go.Proofs.Ytekjhfhlbkcklaa.L
open Go.RowKit Go.Proofs.Ytekjhfhlbkcklaa.K Go.Proofs.Ytekjhfhlbkcklaa.PA Go.Proofs.YtekjhfhlbkcklaaW.PrintWords

def PowS (s : Int) : Prop := s = 1 ∨ s = 2 ∨ s = 4 ∨ s = 8 ∨ s = 16 ∨ s = 32 ∨ s = 64
theorem and_mask (k : Nat) (hk : k ≤ 6) (n : Int) (h0 : 0 ≤ n) (h1 : n < 18446744073709551616) : bits .and .u64 n ((2 ^ k - 1 : Nat) : Int) = n % (2 ^ k : Nat) := by
  have h2 : 2 ^ k ≤ 64 := by
    have := Nat.pow_le_pow_right (n := 2) (by omega) hk
    simpa using this
  have h3 : 0 < 2 ^ k := Nat.pos_of_ne_zero (by simp)
  rw [u64_and n _ h0 h1 (by omega) (by omega)]
  rw [show (((2 ^ k - 1 : Nat) : Int)).toNat = 2 ^ k - 1 from Int.toNat_natCast _, Nat.and_two_pow_sub_one_eq_mod]
  obtain ⟨m, rfl⟩ := Int.eq_ofNat_of_zero_le h0
  simp
theorem place_eq (n s : Int) (hs : PowS s) (h0 : 0 ≤ n) (h1 : n < 18446744073709551616) : order_Place.f n s = some (n % s, 0) := by
  have key : ∀ k, k ≤ 6 → s = ((2 ^ k : Nat) : Int) → order_ring.f s = some true → order_Place.f n s = some (n % s, 0) := by
    intro k hk hs' hr
    have h2 : 2 ^ k ≤ 64 := by
      have := Nat.pow_le_pow_right (n := 2) (by omega) hk
      simpa using this
    have h3 : 0 < 2 ^ k := Nat.pos_of_ne_zero (by simp)
    unfold order_Place.f
    rw [hr]
    simp only [Option.bind_some, if_true]
    have e1 : IntKind.u64.wrap (wrap64 (s - 1)) = ((2 ^ k - 1 : Nat) : Int) := by
      rw [hs']; generalize 2 ^ k = q at *; unfold wrap64; simp only [IntKind.wrap, IntKind.bits, IntKind.signed]; simp; omega
    rw [e1, and_mask k hk n h0 h1, ← hs']
    have e2 : wrap64 (n % s) = n % s := by
      have := Int.emod_nonneg n (show s ≠ 0 by omega); have := Int.emod_lt_of_pos n (show 0 < s by omega)
      unfold wrap64; omega
    rw [e2]
  rcases hs with rfl | rfl | rfl | rfl | rfl | rfl | rfl
  · exact key 0 (by omega) rfl (by decide +kernel)
  · exact key 1 (by omega) rfl (by decide +kernel)
  · exact key 2 (by omega) rfl (by decide +kernel)
  · exact key 3 (by omega) rfl (by decide +kernel)
  · exact key 4 (by omega) rfl (by decide +kernel)
  · exact key 5 (by omega) rfl (by decide +kernel)
  · exact key 6 (by omega) rfl (by decide +kernel)
theorem PowS.pos {s : Int} (h : PowS s) : 1 ≤ s ∧ s ≤ 64 := by unfold PowS at h; omega

set_option maxHeartbeats 1000000 in
theorem at_calls (w : World) (b : Nat) (L : Lane) (h : IsLane w b L) (hs : PowS L.size) (n : Int) (h0 : 0 ≤ n) (h1 : n < 18446744073709551616) (j : Nat) (hj : (n % L.size) = j) :
    Calls Try.prog 35 #[.pointer (some ⟨b, 0, none⟩), .int .u64 n] w fun e w' => e = .returned (.pointer (some ⟨b, 4 + j * 5, none⟩)) ∧ ∃ nd, w' = w.drewN nd := by
  have hp := Aside0.mk (place_eq n L.size hs h0 h1)
  rw [hj] at hp
  have hj64 : j < 64 := by
    have := Int.emod_lt_of_pos n (show 0 < L.size by have := hs.pos; omega); have := hs.pos; omega
  have c3 := h.c_size
  clear h hs hj
  go_enter Try.func35, Try.ntmps35
  go_wp2_with (go_at_call 44; refine (order_Place.calls n L.size j 0 _ hp.out).mono ?_; rintro e w' ⟨rfl, ⟨nd, rfl⟩⟩)
  go_ret
  exact ⟨rfl, nd, rfl⟩

def withinU (low x high : Int) : Bool := decide (IntKind.u64.wrap (x - low) < IntKind.u64.wrap (high - low))
def claimL (L : Lane) (seq ep : Int) : Option Nat :=
  if ep ≠ L.epoch then none else if withinU L.ready seq L.tail = false then none else
    match L.ring[(seq % L.size).toNat]? with
    | some e => if e.is = 1 ∨ e.is = 2 then some (seq % L.size).toNat else none
    | none => none

def entPtr (b : Nat) (r : Option Nat) : Value := .pointer (r.map fun j => ⟨b, 4 + j * 5, none⟩)

set_option maxHeartbeats 1000000 in
theorem claim_calls (w : World) (b : Nat) (L : Lane) (h : IsLane w b L) (hs : PowS L.size) (seq ep : Int) (h0 : 0 ≤ seq) (h1 : seq < 18446744073709551616) :
    Calls Try.prog 36 #[.pointer (some ⟨b, 0, none⟩), .agg #[.int .u64 seq, .int .u64 ep]] w fun e w' => e = .returned (entPtr b (claimL L seq ep)) ∧ Below w.heap.size w w' := by
  have hlt := h.lt
  have hu := Try.underlying34
  by_cases hep : ep = L.epoch
  · subst hep
    have hb0 : (L.epoch != L.epoch) = false := by simp
    by_cases hw : withinU L.ready seq L.tail = true
    · obtain ⟨j, hj⟩ : ∃ j : Nat, (seq % L.size) = j := ⟨(seq % L.size).toNat, by have := Int.emod_nonneg seq (show L.size ≠ 0 by have := hs.pos; omega); omega⟩
      have hj64 : j < 64 := by
        have := Int.emod_lt_of_pos seq (show 0 < L.size by have := hs.pos; omega); have := hs.pos; omega
      obtain ⟨e, he⟩ : ∃ e, L.ring[j]? = some e := ⟨_, List.getElem?_eq_getElem (by rw [h.len]; exact hj64)⟩
      have hres : claimL L seq L.epoch = if e.is = 1 ∨ e.is = 2 then some j else none := by simp [claimL, hw, hj, he]
      have HW := Aside0.mk (show order_Within.f L.ready seq L.tail = some true from congrArg some hw)
      have HAT := Aside0.mk (fun nq => at_calls ((w.alloc (Obj.cells #[.int .u64 seq, .int .u64 L.epoch] 34)).drewN nq) b L ((h.alloc _).drewN nq) hs seq h0 h1 j hj)
      rw [hres]
      have c9 := h.c_epoch
      have c7 := h.c_ready
      have c8 := h.c_tail
      have ce := h.e_is he
      clear h hs hw hres hj he
      by_cases i1 : e.is = 1
      · rw [if_pos (.inl i1)]
        have i1b : (e.is == 1) = true := by simpa using i1
        clear i1
        go_enter Try.func36, Try.ntmps36
        go_wp2
        go_quiet (first | (go_at_call 45; (with_reducible refine (order_Within.calls L.ready seq L.tail true _ HW.out).mono ?_); rintro e w' ⟨rfl, ⟨nd, rfl⟩⟩; (first | exact ⟨rfl, _, World.drewN_drewN _ _ _⟩ | exact ⟨rfl, _, Eq.trans (World.drewN_drewN _ _ _) (congrArg (World.drewN _) (Nat.add_assoc _ _ _))⟩)))
        go_wp2_with (go_at_call 35; refine (HAT.out _).mono ?_; rintro e_ w' ⟨rfl, nd2, rfl⟩)
        go_ret
        exact ⟨rfl, (by repeat (first | (with_reducible exact Below.refl _ _) | apply pw_below_drewN | apply below_alloc))⟩
      · have i1b : (e.is == 1) = false := by simpa using i1
        by_cases i2 : e.is = 2
        · rw [if_pos (.inr i2)]
          have i2b : (e.is == 2) = true := by simpa using i2
          clear i1 i2
          go_enter Try.func36, Try.ntmps36
          go_wp2
          go_quiet (first | (go_at_call 45; (with_reducible refine (order_Within.calls L.ready seq L.tail true _ HW.out).mono ?_); rintro e w' ⟨rfl, ⟨nd, rfl⟩⟩; (first | exact ⟨rfl, _, World.drewN_drewN _ _ _⟩ | exact ⟨rfl, _, Eq.trans (World.drewN_drewN _ _ _) (congrArg (World.drewN _) (Nat.add_assoc _ _ _))⟩)))
          go_wp2_with (go_at_call 35; refine (HAT.out _).mono ?_; rintro e_ w' ⟨rfl, nd2, rfl⟩)
          go_ret
          exact ⟨rfl, (by repeat (first | (with_reducible exact Below.refl _ _) | apply pw_below_drewN | apply below_alloc))⟩
        · rw [if_neg (by simp [i1, i2])]
          have i2b : (e.is == 2) = false := by simpa using i2
          clear i1 i2
          go_enter Try.func36, Try.ntmps36
          go_wp2
          go_quiet (first | (go_at_call 45; (with_reducible refine (order_Within.calls L.ready seq L.tail true _ HW.out).mono ?_); rintro e w' ⟨rfl, ⟨nd, rfl⟩⟩; (first | exact ⟨rfl, _, World.drewN_drewN _ _ _⟩ | exact ⟨rfl, _, Eq.trans (World.drewN_drewN _ _ _) (congrArg (World.drewN _) (Nat.add_assoc _ _ _))⟩)))
          go_wp2_with (go_at_call 35; refine (HAT.out _).mono ?_; rintro e_ w' ⟨rfl, nd2, rfl⟩)
          go_ret
          exact ⟨rfl, (by repeat (first | (with_reducible exact Below.refl _ _) | apply pw_below_drewN | apply below_alloc))⟩
    · have hw' : withinU L.ready seq L.tail = false := by simpa using hw
      have hres : claimL L seq L.epoch = none := by simp [claimL, hw']
      have HW := Aside0.mk (show order_Within.f L.ready seq L.tail = some false from congrArg some hw')
      rw [hres]
      have c9 := h.c_epoch
      have c7 := h.c_ready
      have c8 := h.c_tail
      clear h hs hw hw' hres
      go_enter Try.func36, Try.ntmps36
      go_wp2
      go_quiet (first | (go_at_call 45; (with_reducible refine (order_Within.calls L.ready seq L.tail false _ HW.out).mono ?_); rintro e w' ⟨rfl, ⟨nd, rfl⟩⟩; (first | exact ⟨rfl, _, World.drewN_drewN _ _ _⟩ | exact ⟨rfl, _, Eq.trans (World.drewN_drewN _ _ _) (congrArg (World.drewN _) (Nat.add_assoc _ _ _))⟩)))
      go_wp2
      go_ret
      exact ⟨rfl, (by repeat (first | (with_reducible exact Below.refl _ _) | apply pw_below_drewN | apply below_alloc))⟩
  · have hb0 : (ep != L.epoch) = true := by simpa using hep
    have hres : claimL L seq ep = none := by simp [claimL, hep]
    rw [hres]
    have c9 := h.c_epoch
    clear h hs
    go_enter Try.func36, Try.ntmps36
    go_wp2
    go_quiet (fail)
    go_wp2
    go_ret
    exact ⟨rfl, (by repeat (first | (with_reducible exact Below.refl _ _) | apply pw_below_drewN | apply below_alloc))⟩
end Go.Proofs.Ytekjhfhlbkcklaa.L
namespace Go.Proofs.Ytekjhfhlbkcklaa.L
open Go.RowKit Go.Proofs.Ytekjhfhlbkcklaa.K Go.Proofs.Ytekjhfhlbkcklaa.PA Go.Proofs.YtekjhfhlbkcklaaW.PrintWords

/-- What holds of every lane that was made. -/
structure Ok (L : Lane) : Prop where
  credit : 0 < L.credit
  pow : PowS L.size
  head0 : 0 ≤ L.head
  head1 : L.head < 18446744073709551616
  tail0 : 0 ≤ L.tail
  tail1 : L.tail < 18446744073709551616

theorem claimL_some {L : Lane} {seq ep : Int} {j : Nat} (h : claimL L seq ep = some j) : ∃ e, L.ring[j]? = some e ∧ (e.is = 1 ∨ e.is = 2) := by
  unfold claimL at h
  split at h
  · cases h
  · split at h
    · cases h
    · split at h
      · rename_i e he
        split at h
        · rename_i hi
          cases h
          exact ⟨e, he, hi⟩
        · cases h
      · cases h

def readyL (L : Lane) (seq ep : Int) : Bool :=
  match claimL L seq ep with
  | some j => (match L.ring[j]? with | some e => decide (e.is = 2) | none => false) && decide (seq = L.ready)
  | none => false
set_option maxHeartbeats 1000000 in
theorem ready_calls (w : World) (b : Nat) (L : Lane) (h : IsLane w b L) (hok : Ok L) (seq ep : Int) (h0 : 0 ≤ seq) (h1 : seq < 18446744073709551616) :
    Calls Try.prog 21 #[.pointer (some ⟨b, 0, none⟩), .agg #[.int .u64 seq, .int .u64 ep]] w fun e w' => e = .returned (.bool (readyL L seq ep)) ∧ Below w.heap.size w w' := by
  have hlt := h.lt; have hs := hok.pow; have hu := Try.underlying34; have HL := Aside0.mk h; have HIS := Aside0.mk (fun W (hl : IsLane W b L) => is_at W b L hl true (by simp [hok.credit])); have hcl := fun W (hl : IsLane W b L) => claim_calls W b L hl hs seq ep h0 h1
  cases hc : claimL L seq ep with
  | none =>
    have hres : readyL L seq ep = false := by simp [readyL, hc]
    rw [hres]
    simp only [hc, entPtr, Option.map_none, Option.map_some] at hcl
    have HCL := Aside0.mk hcl
    clear h hok hc hres hcl hs
    go_enter Try.func21, Try.ntmps21
    go_wp2_with (first | (go_at_call 34; refine (HIS.out _ ?side).mono ?_; (case side => exact (by repeat (first | with_reducible exact HL.out | apply IsLane.alloc | apply IsLane.drewN))); rintro e_ w' ⟨rfl, rfl⟩) | (go_at_call 36; (with_reducible refine (HCL.out _ ?side2).mono ?_); (case side2 => exact (by repeat (first | with_reducible exact HL.out | apply IsLane.alloc | apply IsLane.drewN))); rintro e_ w1 ⟨rfl, hb1⟩; have HB1 := Aside0.mk (show Below w.heap.size w w1 from below_step (by repeat (first | (with_reducible exact Below.refl _ _) | apply pw_below_drewN | apply below_alloc)) hb1); have HL1 := Aside0.mk (IsLane.chg (by repeat (first | with_reducible exact HL.out | apply IsLane.alloc | apply IsLane.drewN)) (Chg.below hb1 (fun _ => False)) (fun f => f)); have hz1 : w.heap.size < w1.heap.size := (by have := hb1.size; simp at this; omega); have t0 : w1.cell? ⟨w.heap.size, 0, none⟩ = some (.int .u64 seq) := pw_cell_below hb1 (by go_simp); skip; clear hb1))
    go_quiet (fail)
    go_wp2
    go_ret
    exact ⟨rfl, pw_below_drewN HB1.out _⟩
  | some j =>
    obtain ⟨e, he, hi⟩ := claimL_some hc
    have hres : readyL L seq ep = (decide (e.is = 2) && decide (seq = L.ready)) := by simp [readyL, hc, he]
    rw [hres]
    simp only [hc, entPtr, Option.map_none, Option.map_some] at hcl
    have HCL := Aside0.mk hcl
    clear h hok hc hres hcl hs
    by_cases i2 : e.is = 2
    · have i2b : (e.is == 2) = true := by simpa using i2
      by_cases i3 : seq = L.ready
      · have i3b : (seq == L.ready) = true := by simpa using i3
        have HF := Aside0.mk (show (decide (e.is = 2) && decide (seq = L.ready)) = true by simp [i2, i3])
        rw [HF.out]
        clear i2 i3 hi
        go_enter Try.func21, Try.ntmps21
        go_wp2_with (first | (go_at_call 34; refine (HIS.out _ ?side).mono ?_; (case side => exact (by repeat (first | with_reducible exact HL.out | apply IsLane.alloc | apply IsLane.drewN))); rintro e_ w' ⟨rfl, rfl⟩) | (go_at_call 36; (with_reducible refine (HCL.out _ ?side2).mono ?_); (case side2 => exact (by repeat (first | with_reducible exact HL.out | apply IsLane.alloc | apply IsLane.drewN))); rintro e_ w1 ⟨rfl, hb1⟩; have HB1 := Aside0.mk (show Below w.heap.size w w1 from below_step (by repeat (first | (with_reducible exact Below.refl _ _) | apply pw_below_drewN | apply below_alloc)) hb1); have HL1 := Aside0.mk (IsLane.chg (by repeat (first | with_reducible exact HL.out | apply IsLane.alloc | apply IsLane.drewN)) (Chg.below hb1 (fun _ => False)) (fun f => f)); have hz1 : w.heap.size < w1.heap.size := (by have := hb1.size; simp at this; omega); have t0 : w1.cell? ⟨w.heap.size, 0, none⟩ = some (.int .u64 seq) := pw_cell_below hb1 (by go_simp); have c7 := HL1.out.c_ready; have ce := HL1.out.e_is he; clear hb1))
        go_quiet (fail)
        go_wp2
        go_ret
        exact ⟨rfl, pw_below_drewN HB1.out _⟩
      · have i3b : (seq == L.ready) = false := by simpa using i3
        have HF := Aside0.mk (show (decide (e.is = 2) && decide (seq = L.ready)) = false by simp [i3])
        rw [HF.out]
        clear i2 i3 hi
        go_enter Try.func21, Try.ntmps21
        go_wp2_with (first | (go_at_call 34; refine (HIS.out _ ?side).mono ?_; (case side => exact (by repeat (first | with_reducible exact HL.out | apply IsLane.alloc | apply IsLane.drewN))); rintro e_ w' ⟨rfl, rfl⟩) | (go_at_call 36; (with_reducible refine (HCL.out _ ?side2).mono ?_); (case side2 => exact (by repeat (first | with_reducible exact HL.out | apply IsLane.alloc | apply IsLane.drewN))); rintro e_ w1 ⟨rfl, hb1⟩; have HB1 := Aside0.mk (show Below w.heap.size w w1 from below_step (by repeat (first | (with_reducible exact Below.refl _ _) | apply pw_below_drewN | apply below_alloc)) hb1); have HL1 := Aside0.mk (IsLane.chg (by repeat (first | with_reducible exact HL.out | apply IsLane.alloc | apply IsLane.drewN)) (Chg.below hb1 (fun _ => False)) (fun f => f)); have hz1 : w.heap.size < w1.heap.size := (by have := hb1.size; simp at this; omega); have t0 : w1.cell? ⟨w.heap.size, 0, none⟩ = some (.int .u64 seq) := pw_cell_below hb1 (by go_simp); have c7 := HL1.out.c_ready; have ce := HL1.out.e_is he; clear hb1))
        go_quiet (fail)
        go_wp2
        go_ret
        exact ⟨rfl, pw_below_drewN HB1.out _⟩
    · have i2b : (e.is == 2) = false := by simpa using i2
      have HF := Aside0.mk (show (decide (e.is = 2) && decide (seq = L.ready)) = false by simp [i2])
      rw [HF.out]
      clear i2 hi
      go_enter Try.func21, Try.ntmps21
      go_wp2_with (first | (go_at_call 34; refine (HIS.out _ ?side).mono ?_; (case side => exact (by repeat (first | with_reducible exact HL.out | apply IsLane.alloc | apply IsLane.drewN))); rintro e_ w' ⟨rfl, rfl⟩) | (go_at_call 36; (with_reducible refine (HCL.out _ ?side2).mono ?_); (case side2 => exact (by repeat (first | with_reducible exact HL.out | apply IsLane.alloc | apply IsLane.drewN))); rintro e_ w1 ⟨rfl, hb1⟩; have HB1 := Aside0.mk (show Below w.heap.size w w1 from below_step (by repeat (first | (with_reducible exact Below.refl _ _) | apply pw_below_drewN | apply below_alloc)) hb1); have HL1 := Aside0.mk (IsLane.chg (by repeat (first | with_reducible exact HL.out | apply IsLane.alloc | apply IsLane.drewN)) (Chg.below hb1 (fun _ => False)) (fun f => f)); have hz1 : w.heap.size < w1.heap.size := (by have := hb1.size; simp at this; omega); have t0 : w1.cell? ⟨w.heap.size, 0, none⟩ = some (.int .u64 seq) := pw_cell_below hb1 (by go_simp); have ce := HL1.out.e_is he; clear hb1))
      go_quiet (fail)
      go_wp2
      go_ret
      exact ⟨rfl, pw_below_drewN HB1.out _⟩
end Go.Proofs.Ytekjhfhlbkcklaa.L
namespace Go.Proofs.Ytekjhfhlbkcklaa.L
open Go.RowKit Go.Proofs.Ytekjhfhlbkcklaa.K Go.Proofs.Ytekjhfhlbkcklaa.PA Go.Proofs.YtekjhfhlbkcklaaW.PrintWords

def layL (L : Lane) (seq ep n gen : Int) : Lane × Int :=
  match claimL L seq ep with
  | some j => (match L.ring[j]? with | some e => ({ L with ring := L.ring.set j { e with is := 2, n := n, gen := gen } }, 0) | none => (L, 82))
  | none => (L, 82)
set_option maxHeartbeats 1000000 in
theorem lay_calls (w : World) (b : Nat) (L : Lane) (h : IsLane w b L) (hok : Ok L) (seq ep n gen : Int) (h0 : 0 ≤ seq) (h1 : seq < 18446744073709551616) :
    Calls Try.prog 16 #[.pointer (some ⟨b, 0, none⟩), .agg #[.int .u64 seq, .int .u64 ep], .agg #[.int .i64 n, .int .u64 gen]] w fun e w' => e = .returned (.int .i64 (layL L seq ep n gen).2) ∧ IsLane w' b (layL L seq ep n gen).1 ∧ Chg (· = b) w w' := by
  have hlt := h.lt; have hs := hok.pow; have hu := Try.underlying34; have HL := Aside0.mk h; have HIS := Aside0.mk (fun W (hl : IsLane W b L) => is_at W b L hl true (by simp [hok.credit])); have hcl := fun W (hl : IsLane W b L) => claim_calls W b L hl hs seq ep h0 h1
  have hu2 := Try.underlying36
  cases hc : claimL L seq ep with
  | none =>
    have hres : layL L seq ep n gen = (L, 82) := by simp [layL, hc]
    rw [hres]
    simp only [hc, entPtr, Option.map_none, Option.map_some] at hcl
    have HCL := Aside0.mk hcl
    clear h hok hc hres hcl hs
    go_enter Try.func16, Try.ntmps16
    go_wp2_with (first | (go_at_call 34; refine (HIS.out _ ?side).mono ?_; (case side => exact (by repeat (first | with_reducible exact HL.out | apply IsLane.alloc | apply IsLane.drewN))); rintro e_ w' ⟨rfl, rfl⟩) | (go_at_call 36; ((with_reducible refine (HCL.out _ ?side2).mono ?_); (case side2 => exact (by repeat (first | with_reducible exact HL.out | apply IsLane.alloc | apply IsLane.drewN))); rintro e_ w1 ⟨rfl, hb1⟩; have HB1 := Aside0.mk (show Below w.heap.size w w1 from below_step (by repeat (first | (with_reducible exact Below.refl _ _) | apply pw_below_drewN | apply below_alloc)) hb1); have HL1 := Aside0.mk (IsLane.chg (by repeat (first | with_reducible exact HL.out | apply IsLane.alloc | apply IsLane.drewN)) (Chg.below hb1 (fun _ => False)) (fun f => f)); have hz1 : w.heap.size < w1.heap.size := (by have := hb1.size; simp at this; omega); have t0 : w1.cell? ⟨w.heap.size, 0, none⟩ = some (.int .u64 seq) := pw_cell_below hb1 (by go_simp); skip; clear hb1)))
    go_ret
    exact ⟨rfl, HL1.out, Chg.below HB1.out _⟩
  | some j =>
    obtain ⟨e, he, hi⟩ := claimL_some hc
    have hres : layL L seq ep n gen = ({ L with ring := L.ring.set j { e with is := 2, n := n, gen := gen } }, 0) := by simp [layL, hc, he]
    rw [hres]
    simp only [hc, entPtr, Option.map_none, Option.map_some] at hcl
    have HCL := Aside0.mk hcl
    clear h hok hc hres hcl hs
    go_enter Try.func16, Try.ntmps16
    go_wp2_with (first | (go_at_call 34; refine (HIS.out _ ?side).mono ?_; (case side => exact (by repeat (first | with_reducible exact HL.out | apply IsLane.alloc | apply IsLane.drewN))); rintro e_ w' ⟨rfl, rfl⟩) | (go_at_call 36; ((with_reducible refine (HCL.out _ ?side2).mono ?_); (case side2 => exact (by repeat (first | with_reducible exact HL.out | apply IsLane.alloc | apply IsLane.drewN))); rintro e_ w1 ⟨rfl, hb1⟩; have HB1 := Aside0.mk (show Below w.heap.size w w1 from below_step (by repeat (first | (with_reducible exact Below.refl _ _) | apply pw_below_drewN | apply below_alloc)) hb1); have HL1 := Aside0.mk (IsLane.chg (by repeat (first | with_reducible exact HL.out | apply IsLane.alloc | apply IsLane.drewN)) (Chg.below hb1 (fun _ => False)) (fun f => f)); have hz1 : w.heap.size < w1.heap.size := (by have := hb1.size; simp at this; omega); have t0 : w1.cell? ⟨w.heap.size, 0, none⟩ = some (.int .u64 seq) := pw_cell_below hb1 (by go_simp); have ce := HL1.out.e_is he; have cn := HL1.out.e_n he; have cg := HL1.out.e_gen he; have f0 := HL1.out.fr; have t1 : w1.cell? ⟨w.heap.size + 1, 0, none⟩ = some (.int .i64 n) := pw_cell_below hb1 (by go_simp); have t2 : w1.cell? ⟨w.heap.size + 1, 1, none⟩ = some (.int .u64 gen) := pw_cell_below hb1 (by go_simp); have hne : w.heap.size + 1 ≠ b := (by omega); clear hb1)))
    go_region
    go_wp2
    go_ret
    exact ⟨rfl, (HL1.out.w_lay he 2 n gen).drew, ((((Chg.below HB1.out (· = b)).setCell _ _ (fun _ => rfl)).setCell _ _ (fun _ => rfl)).setCell _ _ (fun _ => rfl)).drew⟩

def pubL (L : Lane) (seq ep tick step : Int) : Lane × Int :=
  match claimL L seq ep with
  | some j => (match L.ring[j]? with
    | some e => if e.is = 2 then (if seq = L.ready then ({ L with ring := L.ring.set j { e with is := 3, tick := tick, step := step }, ready := IntKind.u64.wrap (L.ready + 1) }, 0) else (L, 83)) else (L, 82)
    | none => (L, 82))
  | none => (L, 82)
set_option maxHeartbeats 1000000 in
theorem publish_calls (w : World) (b : Nat) (L : Lane) (h : IsLane w b L) (hok : Ok L) (seq ep tick step : Int) (h0 : 0 ≤ seq) (h1 : seq < 18446744073709551616) :
    Calls Try.prog 20 #[.pointer (some ⟨b, 0, none⟩), .agg #[.int .u64 seq, .int .u64 ep], .agg #[.int .i64 tick, .int .i64 step]] w fun e w' => e = .returned (.int .i64 (pubL L seq ep tick step).2) ∧ IsLane w' b (pubL L seq ep tick step).1 ∧ Chg (· = b) w w' := by
  have hlt := h.lt; have hs := hok.pow; have hu := Try.underlying34; have HL := Aside0.mk h; have HIS := Aside0.mk (fun W (hl : IsLane W b L) => is_at W b L hl true (by simp [hok.credit])); have hcl := fun W (hl : IsLane W b L) => claim_calls W b L hl hs seq ep h0 h1
  have hu2 := Try.underlying38
  cases hc : claimL L seq ep with
  | none =>
    have hres : pubL L seq ep tick step = (L, 82) := by simp [pubL, hc]
    rw [hres]
    simp only [hc, entPtr, Option.map_none, Option.map_some] at hcl
    have HCL := Aside0.mk hcl
    clear h hok hc hres hcl hs
    go_enter Try.func20, Try.ntmps20
    go_wp2_with (first | (go_at_call 34; refine (HIS.out _ ?side).mono ?_; (case side => exact (by repeat (first | with_reducible exact HL.out | apply IsLane.alloc | apply IsLane.drewN))); rintro e_ w' ⟨rfl, rfl⟩) | (go_at_call 36; ((with_reducible refine (HCL.out _ ?side2).mono ?_); (case side2 => exact (by repeat (first | with_reducible exact HL.out | apply IsLane.alloc | apply IsLane.drewN))); rintro e_ w1 ⟨rfl, hb1⟩; have HB1 := Aside0.mk (show Below w.heap.size w w1 from below_step (by repeat (first | (with_reducible exact Below.refl _ _) | apply pw_below_drewN | apply below_alloc)) hb1); have HL1 := Aside0.mk (IsLane.chg (by repeat (first | with_reducible exact HL.out | apply IsLane.alloc | apply IsLane.drewN)) (Chg.below hb1 (fun _ => False)) (fun f => f)); have hz1 : w.heap.size < w1.heap.size := (by have := hb1.size; simp at this; omega); have t0 : w1.cell? ⟨w.heap.size, 0, none⟩ = some (.int .u64 seq) := pw_cell_below hb1 (by go_simp); skip; clear hb1)))
    go_ret
    exact ⟨rfl, HL1.out, Chg.below HB1.out _⟩
  | some j =>
    obtain ⟨e, he, hi⟩ := claimL_some hc
    have hres : pubL L seq ep tick step = if e.is = 2 then (if seq = L.ready then ({ L with ring := L.ring.set j { e with is := 3, tick := tick, step := step }, ready := IntKind.u64.wrap (L.ready + 1) }, 0) else (L, 83)) else (L, 82) := by simp [pubL, hc, he]
    rw [hres]
    simp only [hc, entPtr, Option.map_none, Option.map_some] at hcl
    have HCL := Aside0.mk hcl
    clear h hok hc hres hcl hs
    by_cases i2 : e.is = 2
    · have i2b : (e.is != 2) = false := by simp [i2]
      rw [if_pos i2]
      by_cases i3 : seq = L.ready
      · have i3b : (seq != L.ready) = false := by simp [i3]
        rw [if_pos i3]
        clear i2 i3 hi
        go_enter Try.func20, Try.ntmps20
        go_wp2_with (first | (go_at_call 34; refine (HIS.out _ ?side).mono ?_; (case side => exact (by repeat (first | with_reducible exact HL.out | apply IsLane.alloc | apply IsLane.drewN))); rintro e_ w' ⟨rfl, rfl⟩) | (go_at_call 36; ((with_reducible refine (HCL.out _ ?side2).mono ?_); (case side2 => exact (by repeat (first | with_reducible exact HL.out | apply IsLane.alloc | apply IsLane.drewN))); rintro e_ w1 ⟨rfl, hb1⟩; have HB1 := Aside0.mk (show Below w.heap.size w w1 from below_step (by repeat (first | (with_reducible exact Below.refl _ _) | apply pw_below_drewN | apply below_alloc)) hb1); have HL1 := Aside0.mk (IsLane.chg (by repeat (first | with_reducible exact HL.out | apply IsLane.alloc | apply IsLane.drewN)) (Chg.below hb1 (fun _ => False)) (fun f => f)); have hz1 : w.heap.size < w1.heap.size := (by have := hb1.size; simp at this; omega); have t0 : w1.cell? ⟨w.heap.size, 0, none⟩ = some (.int .u64 seq) := pw_cell_below hb1 (by go_simp); have ce := HL1.out.e_is he; have c7 := HL1.out.c_ready; have cn := HL1.out.e_tick he; have cg := HL1.out.e_step he; have f0 := HL1.out.fr; have t1 : w1.cell? ⟨w.heap.size + 1, 0, none⟩ = some (.int .i64 tick) := pw_cell_below hb1 (by go_simp); have t2 : w1.cell? ⟨w.heap.size + 1, 1, none⟩ = some (.int .i64 step) := pw_cell_below hb1 (by go_simp); have hne : w.heap.size + 1 ≠ b := (by omega); clear hb1)))
        go_quiet (fail)
        go_wp2
        go_region
        go_wp2
        go_ret
        exact ⟨rfl, ((HL1.out.drewN (nq + 1)).w_pub he 3 tick step).s_ready _, (by repeat (first | with_reducible exact Chg.below HB1.out _ | refine Chg.setCell ?_ _ _ (fun _ => rfl) | apply Chg.drewN | apply Chg.drew))⟩
      · have i3b : (seq != L.ready) = true := by simpa using i3
        rw [if_neg i3]
        clear i2 i3 hi
        go_enter Try.func20, Try.ntmps20
        go_wp2_with (first | (go_at_call 34; refine (HIS.out _ ?side).mono ?_; (case side => exact (by repeat (first | with_reducible exact HL.out | apply IsLane.alloc | apply IsLane.drewN))); rintro e_ w' ⟨rfl, rfl⟩) | (go_at_call 36; ((with_reducible refine (HCL.out _ ?side2).mono ?_); (case side2 => exact (by repeat (first | with_reducible exact HL.out | apply IsLane.alloc | apply IsLane.drewN))); rintro e_ w1 ⟨rfl, hb1⟩; have HB1 := Aside0.mk (show Below w.heap.size w w1 from below_step (by repeat (first | (with_reducible exact Below.refl _ _) | apply pw_below_drewN | apply below_alloc)) hb1); have HL1 := Aside0.mk (IsLane.chg (by repeat (first | with_reducible exact HL.out | apply IsLane.alloc | apply IsLane.drewN)) (Chg.below hb1 (fun _ => False)) (fun f => f)); have hz1 : w.heap.size < w1.heap.size := (by have := hb1.size; simp at this; omega); have t0 : w1.cell? ⟨w.heap.size, 0, none⟩ = some (.int .u64 seq) := pw_cell_below hb1 (by go_simp); have ce := HL1.out.e_is he; have c7 := HL1.out.c_ready; clear hb1)))
        go_quiet (fail)
        go_wp2
        go_ret
        exact ⟨rfl, HL1.out.drewN _, (Chg.below HB1.out _).drewN _⟩
    · have i2b : (e.is != 2) = true := by simpa using i2
      rw [if_neg i2]
      clear i2 hi
      go_enter Try.func20, Try.ntmps20
      go_wp2_with (first | (go_at_call 34; refine (HIS.out _ ?side).mono ?_; (case side => exact (by repeat (first | with_reducible exact HL.out | apply IsLane.alloc | apply IsLane.drewN))); rintro e_ w' ⟨rfl, rfl⟩) | (go_at_call 36; ((with_reducible refine (HCL.out _ ?side2).mono ?_); (case side2 => exact (by repeat (first | with_reducible exact HL.out | apply IsLane.alloc | apply IsLane.drewN))); rintro e_ w1 ⟨rfl, hb1⟩; have HB1 := Aside0.mk (show Below w.heap.size w w1 from below_step (by repeat (first | (with_reducible exact Below.refl _ _) | apply pw_below_drewN | apply below_alloc)) hb1); have HL1 := Aside0.mk (IsLane.chg (by repeat (first | with_reducible exact HL.out | apply IsLane.alloc | apply IsLane.drewN)) (Chg.below hb1 (fun _ => False)) (fun f => f)); have hz1 : w.heap.size < w1.heap.size := (by have := hb1.size; simp at this; omega); have t0 : w1.cell? ⟨w.heap.size, 0, none⟩ = some (.int .u64 seq) := pw_cell_below hb1 (by go_simp); have ce := HL1.out.e_is he; clear hb1)))
      go_ret
      exact ⟨rfl, HL1.out, Chg.below HB1.out _⟩
end Go.Proofs.Ytekjhfhlbkcklaa.L
namespace Go.Proofs.Ytekjhfhlbkcklaa.L
open Go.RowKit Go.Proofs.Ytekjhfhlbkcklaa.K Go.Proofs.Ytekjhfhlbkcklaa.PA Go.Proofs.YtekjhfhlbkcklaaW.PrintWords

/-- The first message that was published, and is not taken: its place. -/
def firstL (L : Lane) : Option Nat := if L.head = L.ready then none else some (L.head % L.size).toNat
set_option maxHeartbeats 1000000 in
set_option maxRecDepth 100000 in
theorem first_calls (w : World) (b : Nat) (L : Lane) (h : IsLane w b L) (hok : Ok L) (j : Nat) (e : Ent) (hj : L.head % L.size = j) (he : L.ring[j]? = some e) (hne : L.head ≠ L.ready) :
    Calls Try.prog 23 #[.pointer (some ⟨b, 0, none⟩)] w fun e_ w' => e_ = .returned (.tuple #[.agg #[.int .i64 e.tick, .int .i64 e.step], .agg #[.int .u64 L.head, .int .u64 L.epoch], .bool true]) ∧ Below w.heap.size w w' := by
  have hlt := h.lt
  have n0 : w.heap.size ≠ b := by omega
  have n1 : w.heap.size + 1 ≠ b := by omega
  have hu := Try.underlying34
  have hu2 := Try.underlying38
  have HL := Aside0.mk h
  have HIS := Aside0.mk (fun W (hl : IsLane W b L) => is_at W b L hl true (by simp [hok.credit]))
  have HAT := Aside0.mk (fun W (hl : IsLane W b L) => at_calls W b L hl hok.pow L.head hok.head0 hok.head1 j hj)
  have c6 := h.c_head
  have c7 := h.c_ready
  have c9 := h.c_epoch
  have ct := h.e_tick he
  have cs := h.e_step he
  have hneb : (L.head == L.ready) = false := by simpa using hne
  clear h hok hj he hne
  go_enter Try.func23, Try.ntmps23
  go_wp2
  go_quiet (first | (go_at_call 34; refine Calls.quiet_of_same (HIS.out _ ?side); (case side => exact (by repeat (first | with_reducible exact HL.out | apply IsLane.alloc | apply IsLane.drewN)))))
  go_wp2
  go_region_held3 (fun w' => w'.cell? ⟨b, 325, none⟩ = some (.int .u64 L.head) ∧ w'.cell? ⟨b, 328, none⟩ = some (.int .u64 L.epoch) ∧ w'.cell? ⟨b, 4 + j * 5 + 3, none⟩ = some (.int .i64 e.tick) ∧ w'.cell? ⟨b, 4 + j * 5 + 3 + 1, none⟩ = some (.int .i64 e.step)) (first | go_keep | (go_split_ands; refine ⟨?_, ?_, ?_, ?_⟩ <;> (go_simp; done))) (first | (go_at_call 35; refine (HAT.out _ ?side).mono ?_; (case side => exact (by repeat (first | with_reducible exact HL.out | apply IsLane.alloc | apply IsLane.drewN | apply IsLane.drew))); rintro e_ w' ⟨rfl, nd, rfl⟩))
  all_goals go_wp2
  all_goals refine bodyPost_ret (v := .tuple #[.agg #[.int .i64 e.tick, .int .i64 e.step], .agg #[.int .u64 L.head, .int .u64 L.epoch], .bool true]) (by simp [results, Try.results23, go_sem, n0, n1]) rfl ⟨rfl, (by repeat (first | (with_reducible exact Below.refl _ _) | refine Below.setCell ?_ (by simp) _ | apply pw_below_drewN | apply below_drew | apply below_alloc))⟩

set_option maxHeartbeats 1000000 in
set_option maxRecDepth 100000 in
theorem first_none (w : World) (b : Nat) (L : Lane) (h : IsLane w b L) (hok : Ok L) (hne : L.head = L.ready) :
    Calls Try.prog 23 #[.pointer (some ⟨b, 0, none⟩)] w fun e_ w' => e_ = .returned (.tuple #[.agg #[.int .i64 0, .int .i64 0], .agg #[.int .u64 0, .int .u64 0], .bool false]) ∧ Below w.heap.size w w' := by
  have hlt := h.lt
  have hu := Try.underlying34
  have hu2 := Try.underlying38
  have HL := Aside0.mk h
  have HIS := Aside0.mk (fun W (hl : IsLane W b L) => is_at W b L hl true (by simp [hok.credit]))
  have c6 := h.c_head
  have c7 := h.c_ready
  have hneb : (L.head == L.ready) = true := by simpa using hne
  clear h hok hne
  go_enter Try.func23, Try.ntmps23
  go_wp2
  go_quiet (first | (go_at_call 34; refine Calls.quiet_of_same (HIS.out _ ?side); (case side => exact (by repeat (first | with_reducible exact HL.out | apply IsLane.alloc | apply IsLane.drewN)))))
  go_wp2
  refine bodyPost_ret (v := .tuple #[.agg #[.int .i64 0, .int .i64 0], .agg #[.int .u64 0, .int .u64 0], .bool false]) (by simp [results, Try.results23, go_sem]) rfl ⟨rfl, (by repeat (first | (with_reducible exact Below.refl _ _) | refine Below.setCell ?_ (by simp) _ | apply pw_below_drewN | apply below_drew | apply below_alloc))⟩

def claimNew (L : Lane) : Lane := { L with ring := L.ring.set (L.tail % L.size).toNat ⟨1, 0, 0, 0, 0⟩, tail := IntKind.u64.wrap (L.tail + 1), left := wrap64 (L.left - 1) }
set_option maxHeartbeats 1000000 in
set_option maxRecDepth 100000 in
theorem claimm_no (w : World) (b : Nat) (L : Lane) (h : IsLane w b L) (hok : Ok L) (hl : L.left = 0) :
    Calls Try.prog 15 #[.pointer (some ⟨b, 0, none⟩)] w fun e_ w' => e_ = .returned (.tuple #[.agg #[.int .u64 0, .int .u64 0], .int .i64 81]) ∧ Below w.heap.size w w' := by
  have hlt := h.lt
  have hu := Try.underlying34
  have HL := Aside0.mk h
  have HIS := Aside0.mk (fun W (hl : IsLane W b L) => is_at W b L hl true (by simp [hok.credit]))
  have c2 := h.c_left
  have hneb : (L.left == 0) = true := by simpa using hl
  clear h hok hl
  go_enter Try.func15, Try.ntmps15
  go_wp2_with (first | (go_at_call 34; refine (HIS.out _ ?side).mono ?_; (case side => exact (by repeat (first | with_reducible exact HL.out | apply IsLane.alloc | apply IsLane.drewN))); rintro e_ w' ⟨rfl, rfl⟩))
  refine bodyPost_ret (v := .tuple #[.agg #[.int .u64 0, .int .u64 0], .int .i64 81]) (by simp [results, Try.results15, go_sem]) rfl ⟨rfl, (by repeat (first | (with_reducible exact Below.refl _ _) | refine Below.setCell ?_ (by simp) _ | apply pw_below_drewN | apply below_drew | apply below_alloc))⟩
set_option maxHeartbeats 1000000 in
set_option maxRecDepth 100000 in
theorem claimm_yes (w : World) (b : Nat) (L : Lane) (h : IsLane w b L) (hok : Ok L) (hl : L.left ≠ 0) :
    Calls Try.prog 15 #[.pointer (some ⟨b, 0, none⟩)] w fun e_ w' => e_ = .returned (.tuple #[.agg #[.int .u64 L.tail, .int .u64 L.epoch], .int .i64 0]) ∧ IsLane w' b (claimNew L) ∧ Chg (· = b) w w' := by
  have hlt := h.lt
  have hu := Try.underlying34
  have n0 : w.heap.size ≠ b := by omega
  have n1 : w.heap.size + 1 ≠ b := by omega
  obtain ⟨j, hj⟩ : ∃ j : Nat, (L.tail % L.size) = j := ⟨(L.tail % L.size).toNat, by have := Int.emod_nonneg L.tail (show L.size ≠ 0 by have := hok.pow.pos; omega); omega⟩
  have hj64 : j < 64 := by
    have := Int.emod_lt_of_pos L.tail (show 0 < L.size by have := hok.pow.pos; omega); have := hok.pow.pos; omega
  obtain ⟨e, he⟩ : ∃ e, L.ring[j]? = some e := ⟨_, List.getElem?_eq_getElem (by rw [h.len]; exact hj64)⟩
  have hres : claimNew L = { L with ring := L.ring.set j ⟨1, 0, 0, 0, 0⟩, tail := IntKind.u64.wrap (L.tail + 1), left := wrap64 (L.left - 1) } := by simp [claimNew, hj]
  rw [hres]
  have HL := Aside0.mk h
  have HIS := Aside0.mk (fun W (hl : IsLane W b L) => is_at W b L hl true (by simp [hok.credit]))
  have HAT := Aside0.mk (fun W (hl : IsLane W b L) => at_calls W b L hl hok.pow L.tail hok.tail0 hok.tail1 j hj)
  have c2 := h.c_left
  have c8 := h.c_tail
  have c9 := h.c_epoch
  have x0 := h.e_is he
  have x1 := h.e_n he
  have x2 := h.e_gen he
  have x3 := h.e_tick he
  have x4 := h.e_step he
  have f0 := h.fr
  have hneb : (L.left == 0) = false := by simpa using hl
  clear h hok hl hj hres
  go_enter Try.func15, Try.ntmps15
  go_wp2_with (first | (go_at_call 34; refine (HIS.out _ ?side).mono ?_; (case side => exact (by repeat (first | with_reducible exact HL.out | apply IsLane.alloc | apply IsLane.drewN))); rintro e_ w' ⟨rfl, rfl⟩))
  go_region_held3 (fun w' => w'.cell? ⟨b, 327, none⟩ = some (.int .u64 L.tail) ∧ w'.cell? ⟨b, 328, none⟩ = some (.int .u64 L.epoch)) (first | go_keep | (go_split_ands; refine ⟨?_, ?_⟩ <;> (go_simp; done))) (first | fail)
  go_wp2_with (first | (go_at_call 35; refine (HAT.out _ ?side).mono ?_; (case side => exact (by repeat (first | with_reducible exact HL.out | apply IsLane.alloc | apply IsLane.drewN | apply IsLane.drew))); rintro e_ w' ⟨rfl, nd, rfl⟩))
  refine bodyPost_ret (v := .tuple #[.agg #[.int .u64 L.tail, .int .u64 L.epoch], .int .i64 0]) (by simp [results, Try.results15, go_sem, n0, n1]) rfl ⟨rfl, ?_, ?_⟩
  · refine IsLane.other (p := ⟨w.heap.size, 1, none⟩) ?_ n0 _
    refine IsLane.other (p := ⟨w.heap.size, 0, none⟩) ?_ n0 _
    have h1 := IsLane.w_all (w := ((w.alloc (Obj.cells #[.int .u64 0, .int .u64 0] 34)).alloc (Obj.cells #[.int .u64 L.tail, .int .u64 L.epoch] 34)).drewN (1 + nd)) (by exact (by repeat (first | with_reducible exact HL.out | apply IsLane.alloc | apply IsLane.drewN | apply IsLane.drew))) he 1 0 0 0 0
    exact (h1.s_tail (IntKind.u64.wrap (L.tail + 1))).s_left (wrap64 (L.left - 1))
  · exact (by repeat (first | with_reducible exact Chg.refl _ _ | refine Chg.setCell ?_ _ _ (fun hlt_ => by first | rfl | (exfalso; exact absurd hlt_ (by simp))) | apply Chg.drewN | apply Chg.drew | apply Chg.alloc))
end Go.Proofs.Ytekjhfhlbkcklaa.L

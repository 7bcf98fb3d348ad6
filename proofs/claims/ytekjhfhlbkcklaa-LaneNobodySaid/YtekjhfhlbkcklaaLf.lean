/-
  The lane's methods: First, Claim.
-/
import Derived.Test.YtekjhfhlbkcklaaLe
import Derived.Deep.RegionWith
import Derived.BigRegion
namespace Go.Proofs.Ytekjhfhlbkcklaa.L
open Go.RowKit Go.Proofs.Ytekjhfhlbkcklaa.K Go.Proofs.Ytekjhfhlbkcklaa.PA Go.Proofs.YtekjhfhlbkcklaaW.PrintWords

/-- The first message that was published, and is not taken: its place. -/
def firstL (L : Lane) : Option Nat := if L.head = L.ready then none else some (L.head % L.size).toNat
set_option maxHeartbeats 1000000 in
set_option maxRecDepth 100000 in
theorem first_calls (w : World) (b : Nat) (L : Lane) (h : IsLane w b L) (hok : Ok L) (j : Nat) (e : Ent) (hj : L.head % L.size = j) (he : L.ring[j]? = some e) (hne : L.head ≠ L.ready) :
    Calls Try.prog 23 #[.pointer (some ⟨b, 0, none⟩)] w fun e_ w' => e_ = .returned (.tuple #[.agg #[.int .i64 e.tick, .int .i64 e.step], .agg #[.int .u64 L.head, .int .u64 L.epoch], .bool true]) ∧ Below w.heap.size w w' := by
  have hlt := h.lt
  have n0 : w.heap.size ≠ b := by omega
  have n1 : w.heap.size + 1 ≠ b := by omega
  have hu := Try.underlying34
  have hu2 := Try.underlying38
  have HL := Aside0.mk h
  have HIS := Aside0.mk (fun W (hl : IsLane W b L) => is_at W b L hl true (by simp [hok.credit]))
  have HAT := Aside0.mk (fun W (hl : IsLane W b L) => at_calls W b L hl hok.pow L.head hok.head0 hok.head1 j hj)
  have c6 := h.c_head
  have c7 := h.c_ready
  have c9 := h.c_epoch
  have ct := h.e_tick he
  have cs := h.e_step he
  have hneb : (L.head == L.ready) = false := by simpa using hne
  clear h hok hj he hne
  go_enter Try.func23, Try.ntmps23
  go_wp2
  go_quiet (first | (go_at_call 34; refine Calls.quiet_of_same (HIS.out _ ?side); (case side => exact (by repeat (first | with_reducible exact HL.out | apply IsLane.alloc | apply IsLane.drewN)))))
  go_wp2
  go_region_held3 (fun w' => w'.cell? ⟨b, 325, none⟩ = some (.int .u64 L.head) ∧ w'.cell? ⟨b, 328, none⟩ = some (.int .u64 L.epoch) ∧ w'.cell? ⟨b, 4 + j * 5 + 3, none⟩ = some (.int .i64 e.tick) ∧ w'.cell? ⟨b, 4 + j * 5 + 3 + 1, none⟩ = some (.int .i64 e.step)) (first | go_keep | (go_split_ands; refine ⟨?_, ?_, ?_, ?_⟩ <;> (go_simp; done))) (first | (go_at_call 35; refine (HAT.out _ ?side).mono ?_; (case side => exact (by repeat (first | with_reducible exact HL.out | apply IsLane.alloc | apply IsLane.drewN | apply IsLane.drew))); rintro e_ w' ⟨rfl, nd, rfl⟩))
  all_goals go_wp2
  all_goals refine bodyPost_ret (v := .tuple #[.agg #[.int .i64 e.tick, .int .i64 e.step], .agg #[.int .u64 L.head, .int .u64 L.epoch], .bool true]) (by simp [results, Try.results23, go_sem, n0, n1]) rfl ⟨rfl, (by repeat (first | (with_reducible exact Below.refl _ _) | refine Below.setCell ?_ (by simp) _ | apply pw_below_drewN | apply below_drew | apply below_alloc))⟩

set_option maxHeartbeats 1000000 in
set_option maxRecDepth 100000 in
theorem first_none (w : World) (b : Nat) (L : Lane) (h : IsLane w b L) (hok : Ok L) (hne : L.head = L.ready) :
    Calls Try.prog 23 #[.pointer (some ⟨b, 0, none⟩)] w fun e_ w' => e_ = .returned (.tuple #[.agg #[.int .i64 0, .int .i64 0], .agg #[.int .u64 0, .int .u64 0], .bool false]) ∧ Below w.heap.size w w' := by
  have hlt := h.lt
  have hu := Try.underlying34
  have hu2 := Try.underlying38
  have HL := Aside0.mk h
  have HIS := Aside0.mk (fun W (hl : IsLane W b L) => is_at W b L hl true (by simp [hok.credit]))
  have c6 := h.c_head
  have c7 := h.c_ready
  have hneb : (L.head == L.ready) = true := by simpa using hne
  clear h hok hne
  go_enter Try.func23, Try.ntmps23
  go_wp2
  go_quiet (first | (go_at_call 34; refine Calls.quiet_of_same (HIS.out _ ?side); (case side => exact (by repeat (first | with_reducible exact HL.out | apply IsLane.alloc | apply IsLane.drewN)))))
  go_wp2
  refine bodyPost_ret (v := .tuple #[.agg #[.int .i64 0, .int .i64 0], .agg #[.int .u64 0, .int .u64 0], .bool false]) (by simp [results, Try.results23, go_sem]) rfl ⟨rfl, (by repeat (first | (with_reducible exact Below.refl _ _) | refine Below.setCell ?_ (by simp) _ | apply pw_below_drewN | apply below_drew | apply below_alloc))⟩

def claimNew (L : Lane) : Lane := { L with ring := L.ring.set (L.tail % L.size).toNat ⟨1, 0, 0, 0, 0⟩, tail := IntKind.u64.wrap (L.tail + 1), left := wrap64 (L.left - 1) }
set_option maxHeartbeats 1000000 in
set_option maxRecDepth 100000 in
theorem claimm_no (w : World) (b : Nat) (L : Lane) (h : IsLane w b L) (hok : Ok L) (hl : L.left = 0) :
    Calls Try.prog 15 #[.pointer (some ⟨b, 0, none⟩)] w fun e_ w' => e_ = .returned (.tuple #[.agg #[.int .u64 0, .int .u64 0], .int .i64 81]) ∧ Below w.heap.size w w' := by
  have hlt := h.lt
  have hu := Try.underlying34
  have HL := Aside0.mk h
  have HIS := Aside0.mk (fun W (hl : IsLane W b L) => is_at W b L hl true (by simp [hok.credit]))
  have c2 := h.c_left
  have hneb : (L.left == 0) = true := by simpa using hl
  clear h hok hl
  go_enter Try.func15, Try.ntmps15
  go_wp2_with (first | (go_at_call 34; refine (HIS.out _ ?side).mono ?_; (case side => exact (by repeat (first | with_reducible exact HL.out | apply IsLane.alloc | apply IsLane.drewN))); rintro e_ w' ⟨rfl, rfl⟩))
  refine bodyPost_ret (v := .tuple #[.agg #[.int .u64 0, .int .u64 0], .int .i64 81]) (by simp [results, Try.results15, go_sem]) rfl ⟨rfl, (by repeat (first | (with_reducible exact Below.refl _ _) | refine Below.setCell ?_ (by simp) _ | apply pw_below_drewN | apply below_drew | apply below_alloc))⟩
set_option maxHeartbeats 1000000 in
set_option maxRecDepth 100000 in
theorem claimm_yes (w : World) (b : Nat) (L : Lane) (h : IsLane w b L) (hok : Ok L) (hl : L.left ≠ 0) :
    Calls Try.prog 15 #[.pointer (some ⟨b, 0, none⟩)] w fun e_ w' => e_ = .returned (.tuple #[.agg #[.int .u64 L.tail, .int .u64 L.epoch], .int .i64 0]) ∧ IsLane w' b (claimNew L) ∧ Chg (· = b) w w' := by
  have hlt := h.lt
  have hu := Try.underlying34
  have n0 : w.heap.size ≠ b := by omega
  have n1 : w.heap.size + 1 ≠ b := by omega
  obtain ⟨j, hj⟩ : ∃ j : Nat, (L.tail % L.size) = j := ⟨(L.tail % L.size).toNat, by have := Int.emod_nonneg L.tail (show L.size ≠ 0 by have := hok.pow.pos; omega); omega⟩
  have hj64 : j < 64 := by
    have := Int.emod_lt_of_pos L.tail (show 0 < L.size by have := hok.pow.pos; omega); have := hok.pow.pos; omega
  obtain ⟨e, he⟩ : ∃ e, L.ring[j]? = some e := ⟨_, List.getElem?_eq_getElem (by rw [h.len]; exact hj64)⟩
  have hres : claimNew L = { L with ring := L.ring.set j ⟨1, 0, 0, 0, 0⟩, tail := IntKind.u64.wrap (L.tail + 1), left := wrap64 (L.left - 1) } := by simp [claimNew, hj]
  rw [hres]
  have HL := Aside0.mk h
  have HIS := Aside0.mk (fun W (hl : IsLane W b L) => is_at W b L hl true (by simp [hok.credit]))
  have HAT := Aside0.mk (fun W (hl : IsLane W b L) => at_calls W b L hl hok.pow L.tail hok.tail0 hok.tail1 j hj)
  have c2 := h.c_left
  have c8 := h.c_tail
  have c9 := h.c_epoch
  have x0 := h.e_is he
  have x1 := h.e_n he
  have x2 := h.e_gen he
  have x3 := h.e_tick he
  have x4 := h.e_step he
  have f0 := h.fr
  have hneb : (L.left == 0) = false := by simpa using hl
  clear h hok hl hj hres
  go_enter Try.func15, Try.ntmps15
  go_wp2_with (first | (go_at_call 34; refine (HIS.out _ ?side).mono ?_; (case side => exact (by repeat (first | with_reducible exact HL.out | apply IsLane.alloc | apply IsLane.drewN))); rintro e_ w' ⟨rfl, rfl⟩))
  go_region_held3 (fun w' => w'.cell? ⟨b, 327, none⟩ = some (.int .u64 L.tail) ∧ w'.cell? ⟨b, 328, none⟩ = some (.int .u64 L.epoch)) (first | go_keep | (go_split_ands; refine ⟨?_, ?_⟩ <;> (go_simp; done))) (first | fail)
  go_wp2_with (first | (go_at_call 35; refine (HAT.out _ ?side).mono ?_; (case side => exact (by repeat (first | with_reducible exact HL.out | apply IsLane.alloc | apply IsLane.drewN | apply IsLane.drew))); rintro e_ w' ⟨rfl, nd, rfl⟩))
  refine bodyPost_ret (v := .tuple #[.agg #[.int .u64 L.tail, .int .u64 L.epoch], .int .i64 0]) (by simp [results, Try.results15, go_sem, n0, n1]) rfl ⟨rfl, ?_, ?_⟩
  · refine IsLane.other (p := ⟨w.heap.size, 1, none⟩) ?_ n0 _
    refine IsLane.other (p := ⟨w.heap.size, 0, none⟩) ?_ n0 _
    have h1 := IsLane.w_all (w := ((w.alloc (Obj.cells #[.int .u64 0, .int .u64 0] 34)).alloc (Obj.cells #[.int .u64 L.tail, .int .u64 L.epoch] 34)).drewN (1 + nd)) (by exact (by repeat (first | with_reducible exact HL.out | apply IsLane.alloc | apply IsLane.drewN | apply IsLane.drew))) he 1 0 0 0 0
    exact (h1.s_tail (IntKind.u64.wrap (L.tail + 1))).s_left (wrap64 (L.left - 1))
  · exact (by repeat (first | with_reducible exact Chg.refl _ _ | refine Chg.setCell ?_ _ _ (fun hlt_ => by first | rfl | (exfalso; exact absurd hlt_ (by simp))) | apply Chg.drewN | apply Chg.drew | apply Chg.alloc))
end Go.Proofs.Ytekjhfhlbkcklaa.L

/-
  New: an empty lane.
-/
import Derived.Test.YtekjhfhlbkcklaaLi
import Derived.Test.YtekjhfhlbkcklaaPAx2
namespace Go.Proofs.Ytekjhfhlbkcklaa.L
open Go.RowKit Go.Proofs.Ytekjhfhlbkcklaa.K Go.Proofs.Ytekjhfhlbkcklaa.PA Go.Proofs.YtekjhfhlbkcklaaW.PrintWords
open Go.ChangeMaps (setBlock)

def sizeL (c : Int) : Int := if c ≤ 1 then 1 else if c ≤ 2 then 2 else if c ≤ 4 then 4 else if c ≤ 8 then 8 else if c ≤ 16 then 16 else if c ≤ 32 then 32 else 64
theorem size_all : ∀ n : Fin 64, order_Size.f 12 ((n.val : Int) + 1) = some (sizeL ((n.val : Int) + 1), 0) := by decide +kernel
theorem size_is (c : Int) (h0 : 1 ≤ c) (h1 : c ≤ 64) : order_Size.f 12 c = some (sizeL c, 0) := by
  have h := size_all ⟨(c - 1).toNat, by omega⟩
  have e : (((c - 1).toNat : Nat) : Int) + 1 = c := by omega
  simp only [e] at h
  exact h
def newL (c : Int) (two : Bool) (start : Int) (m : Nat) : Lane := ⟨c, two, c, sizeL c, List.replicate 64 ent0, start, start, start, start, 0, m⟩
theorem made_lane (c s st : Int) (two : Bool) (m : Nat) : (((((((((Try.zeroCells67.setIfInBounds 0 (.int .i64 c)).setIfInBounds 1 (.bool two)).setIfInBounds 2 (.int .i64 c)).setIfInBounds 3 (.int .i64 s)).setIfInBounds 324 (.int .u64 st)).setIfInBounds 325 (.int .u64 st)).setIfInBounds 326 (.int .u64 st)).setIfInBounds 327 (.int .u64 st)).setIfInBounds 329 (.map (some m))) =
    (laneCells ⟨c, two, c, s, List.replicate 64 ent0, st, st, st, st, 0, m⟩).toArray := by kernel_rfl
set_option maxHeartbeats 4000000 in
set_option maxRecDepth 100000 in
theorem new_calls (w : World) (c : Int) (two : Bool) (start : Int) (h0 : 1 ≤ c) (h1 : c ≤ 64) :
    Calls Try.prog 10 #[.int .i64 c, .bool two, .int .u64 start] w fun e_ w' => ∃ b m, e_ = .returned (.tuple #[.pointer (some ⟨b, 0, none⟩), .int .i64 0]) ∧ IsLane w' b (newL c two start m) ∧ IsMap w' m [] ∧ m ≠ b ∧ w.heap.size ≤ b ∧ w.heap.size ≤ m ∧ Below w.heap.size w w' := by
  have hS := Aside0.mk (size_is c h0 h1)
  have d0 : ¬ c < 1 := by omega
  have d1 : ¬ c > 64 := by omega
  clear h0 h1
  obtain ⟨z, hz⟩ : ∃ z, sizeL c = z := ⟨_, rfl⟩
  rw [hz] at hS
  have hMk : ∀ W : World, (Instr.makeMap 65 none).run Try.prog W = .ok (.map (some W.heap.size)) (W.alloc (.map #[] 0)) := fun W => run_makeMap _ W
  have HZ := Aside0.mk hz
  clear hz
  go_enter Try.func10, Try.ntmps10
  go_wp2_with (first | (go_at_call 24; refine (order_Size.calls 12 c z 0 _ hS.out).mono ?_; rintro e w' ⟨rfl, ⟨nd, rfl⟩⟩))
  refine bodyPost_ret (v := .tuple #[.pointer (some ⟨w.heap.size + 1, 0, none⟩), .int .i64 0]) (by simp [results, Try.results10, go_sem]) rfl ⟨w.heap.size + 1, w.heap.size, rfl, ?_, ?_, by omega, by omega, by omega, ?_⟩
  · rw [made_lane, ← HZ.out]
    exact ⟨blk_new1 (w.drewN nd) (.map #[] 0) (laneCells (newL c two start w.heap.size)) 67, by simp [newL]⟩
  · exact (MapIs.made .u64 Past.enc (w.drewN nd)).alloc _
  · exact (by repeat (first | (with_reducible exact Below.refl _ _) | apply pw_below_drewN | apply below_alloc))
set_option maxHeartbeats 4000000 in
set_option maxRecDepth 100000 in
theorem new_bad (w : World) (c : Int) (two : Bool) (start : Int) (h0 : c < 1 ∨ 64 < c) :
    Calls Try.prog 10 #[.int .i64 c, .bool two, .int .u64 start] w fun e_ w' => e_ = .returned (.tuple #[.pointer none, .int .i64 80]) ∧ w' = w := by
  by_cases h1 : c < 1
  · clear h0
    go_enter Try.func10, Try.ntmps10
    go_wp2_with fail
    refine bodyPost_ret (v := .tuple #[.pointer none, .int .i64 80]) (by simp [results, Try.results10, go_sem]) rfl ⟨rfl, rfl⟩
  · have h2 : 64 < c := by omega
    clear h0
    go_enter Try.func10, Try.ntmps10
    go_wp2_with fail
    refine bodyPost_ret (v := .tuple #[.pointer none, .int .i64 80]) (by simp [results, Try.results10, go_sem]) rfl ⟨rfl, rfl⟩
theorem ok_new (c : Int) (two : Bool) (start : Int) (m : Nat) (h0 : 1 ≤ c) (h1 : c ≤ 64) (s0 : 0 ≤ start) (s1 : start < 18446744073709551616) : Ok (newL c two start m) := by
  refine ⟨by simp only [newL]; omega, ?_, s0, s1, s0, s1⟩
  show PowS (sizeL c)
  unfold sizeL PowS
  repeat' split
  all_goals simp
end Go.Proofs.Ytekjhfhlbkcklaa.L

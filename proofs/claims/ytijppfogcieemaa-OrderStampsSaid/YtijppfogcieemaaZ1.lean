import Derived.Test.YtijppfogcieemaaPAx1
import Derived.Test.YtijppfogcieemaaPAx2
import Derived.Shelf.SlSortCmp.WholeK
import Derived.Lib.AppendIntMem
namespace Go.Proofs.Ytijppfogcieemaa.Z
open Go.RowKit Go.Shelf Go.Lib Go.Sort
open Go.Proofs.Ytijppfogcieemaa.PA

def cmp2 (x y : Int × Int) : Int := if x = y then 0 else if x.1 < y.1 ∨ x.1 = y.1 ∧ x.2 < y.2 then -1 else 1

attribute [local go_sem high] eqA24 eqA31

set_option maxHeartbeats 1000000 in
theorem moment_compare (x y : Int × Int) (w : World) :
    Calls Try.prog 10 #[.agg #[.int .i64 x.1, .int .i64 x.2], .agg #[.int .i64 y.1, .int .i64 y.2]] w fun e w' => e = .returned (.int .i64 (cmp2 x y)) ∧ ∃ q os', w' = grow (w.drewN q) os' := by
  obtain ⟨a, b⟩ := x
  obtain ⟨c, d⟩ := y
  dsimp only
  have hu31 := Try.underlying31
  have hu24 := Try.underlying24
  by_cases h1 : a = c
  · subst h1
    by_cases h2 : b = d
    · subst h2
      have h3 : (a == a && (b == b)) = true := by simp
      go_enter Try.func10, Try.ntmps10
      go_wp2
      go_ret
      exact ⟨by simp [cmp2], 0, _, by rw [alloc_eq_grow, alloc_eq_grow, grow_grow]; rfl⟩
    · have h3 : (a == a && (b == d)) = false := by simp [h2]
      by_cases h4 : b < d
      · have h5 : ¬ a < a := by omega
        have h6 : (a == a) = true := by simp
        go_enter Try.func10, Try.ntmps10
        go_wp2
        go_ret
        exact ⟨by simp [cmp2, h2, h4], 0, _, by rw [alloc_eq_grow, alloc_eq_grow, grow_grow]; rfl⟩
      · have h5 : ¬ a < a := by omega
        have h6 : (a == a) = true := by simp
        go_enter Try.func10, Try.ntmps10
        go_wp2
        go_ret
        exact ⟨by simp [cmp2, h2, h4], 0, _, by rw [alloc_eq_grow, alloc_eq_grow, grow_grow]; rfl⟩
  · have h3 : (a == c && (b == d)) = false := by simp [h1]
    by_cases h4 : a < c
    · go_enter Try.func10, Try.ntmps10
      go_wp2
      go_ret
      exact ⟨by simp [cmp2, h1, h4], 0, _, by rw [alloc_eq_grow, alloc_eq_grow, grow_grow]; rfl⟩
    · have h6 : (a == c) = false := by simp [h1]
      go_enter Try.func10, Try.ntmps10
      go_wp2
      go_ret
      exact ⟨by simp [cmp2, h1, h4], 0, _, by rw [alloc_eq_grow, alloc_eq_grow, grow_grow]; rfl⟩

set_option maxHeartbeats 1000000 in
theorem ref_compare (x y : Int × Int) (w : World) :
    Calls Try.prog 5 #[.agg #[.int .i64 x.1, .int .i64 x.2], .agg #[.int .i64 y.1, .int .i64 y.2]] w fun e w' => e = .returned (.int .i64 (cmp2 x y)) ∧ ∃ q os', w' = grow (w.drewN q) os' := by
  obtain ⟨a, b⟩ := x
  obtain ⟨c, d⟩ := y
  dsimp only
  have hu31 := Try.underlying31
  have hu24 := Try.underlying24
  by_cases h1 : a = c
  · subst h1
    by_cases h2 : b = d
    · subst h2
      have h3 : (a == a && (b == b)) = true := by simp
      go_enter Try.func5, Try.ntmps5
      go_wp2
      go_ret
      exact ⟨by simp [cmp2], 0, _, by rw [alloc_eq_grow, alloc_eq_grow, grow_grow]; rfl⟩
    · have h3 : (a == a && (b == d)) = false := by simp [h2]
      by_cases h4 : b < d
      · have h5 : ¬ a < a := by omega
        have h6 : (a == a) = true := by simp
        go_enter Try.func5, Try.ntmps5
        go_wp2
        go_ret
        exact ⟨by simp [cmp2, h2, h4], 0, _, by rw [alloc_eq_grow, alloc_eq_grow, grow_grow]; rfl⟩
      · have h5 : ¬ a < a := by omega
        have h6 : (a == a) = true := by simp
        go_enter Try.func5, Try.ntmps5
        go_wp2
        go_ret
        exact ⟨by simp [cmp2, h2, h4], 0, _, by rw [alloc_eq_grow, alloc_eq_grow, grow_grow]; rfl⟩
  · have h3 : (a == c && (b == d)) = false := by simp [h1]
    by_cases h4 : a < c
    · go_enter Try.func5, Try.ntmps5
      go_wp2
      go_ret
      exact ⟨by simp [cmp2, h1, h4], 0, _, by rw [alloc_eq_grow, alloc_eq_grow, grow_grow]; rfl⟩
    · have h6 : (a == c) = false := by simp [h1]
      go_enter Try.func5, Try.ntmps5
      go_wp2
      go_ret
      exact ⟨by simp [cmp2, h1, h4], 0, _, by rw [alloc_eq_grow, alloc_eq_grow, grow_grow]; rfl⟩

set_option maxHeartbeats 1000000 in
theorem order_compare (x y : Int × Int) (w : World) :
    Calls Try.prog 4 #[.agg #[.int .i64 x.1, .int .i64 x.2], .agg #[.int .i64 y.1, .int .i64 y.2]] w fun e w' => e = .returned (.int .i64 (cmp2 x y)) ∧ Below w.heap.size w w' := by
  have hu31 := Try.underlying31
  have hu24 := Try.underlying24
  go_enter Try.func4, Try.ntmps4
  go_wp2_with (go_at_call 10; refine (moment_compare x y _).mono ?_; rintro e w' ⟨rfl, q, os, rfl⟩)
  go_ret
  exact ⟨rfl, (((Below.refl w.heap.size w).alloc (Nat.le_refl _) _).alloc (by simp) _).trans (below_grow _ _ (by simp; omega) q os)⟩
theorem ref_compare_b (x y : Int × Int) (w : World) :
    Calls Try.prog 5 #[.agg #[.int .i64 x.1, .int .i64 x.2], .agg #[.int .i64 y.1, .int .i64 y.2]] w fun e w' => e = .returned (.int .i64 (cmp2 x y)) ∧ Below w.heap.size w w' :=
  (ref_compare x y w).mono fun _ _ ⟨he, q, os, hw⟩ => ⟨he, by rw [hw]; exact below_grow _ _ (Nat.le_refl _) q os⟩
end Go.Proofs.Ytijppfogcieemaa.Z

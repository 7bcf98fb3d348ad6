import Derived.Test.YtijppfogcieemaaZ4
import Derived.Test.YtijppfogcieemaaPAx6
import Derived.Test.YtijppfogcieemaaPAx33
import Derived.Deep.RegionHeld3
namespace Go.Proofs.Ytijppfogcieemaa.Z
open Go.RowKit Go.Shelf Go.Lib Go.Sort
open Go.Proofs.YtijppfogcieemaaW.PrintWords Go.Proofs.YtijppfogcieemaaW.PrintLast Go.Proofs.YtijppfogcieemaaW.PrintMore
open Go.Proofs.Ytijppfogcieemaa.PA
attribute [local go_sem high] eqA24 eqA31
attribute [local go_sem ↓] Go.wp_at_zero Go.wp_at_succ

theorem same_loop (xs : List S24) (hn : xs.length ≤ 1000) : ∀ (k i : Nat), xs.length - i < k → rampartref07_Same.l0 k xs xs (i : Int) = some true
  | 0, i, h => by omega
  | k + 1, i, h => by
    simp only [rampartref07_Same.l0]
    by_cases hi : (i : Int) < (xs.length : Int)
    · rw [if_pos hi, if_pos (by omega), if_pos hi, if_neg (by simp), IntWalk.wrap64_in _ (by omega)]
      exact same_loop xs hn k (i + 1) (by omega)
    · rw [if_neg hi]
theorem same_self (xs : List S24) (hn : xs.length ≤ 1000) : rampartref07_Same.f (xs.length + 1) xs xs = some true := by
  unfold rampartref07_Same.f
  rw [if_pos rfl]
  exact same_loop xs hn (xs.length + 1) 0 (by omega)
theorem alive_is : rampartlaw07_alive.f 10 = some true := by decide +kernel

set_option maxHeartbeats 4000000 in
set_option maxRecDepth 100000 in
theorem law_calls (A : Option Addr) (c : Nat) (xs : List S24) (a b : S24) (w : World) (hr : Kd.C k24 w A xs.length xs) (hc : xs.length ≤ c) (hm : xs.length ≤ 9223372036854775807) :
    Calls Try.prog 3 #[.slice A xs.length c, .agg #[.int .i64 a.f0, .int .i64 a.f1], .agg #[.int .i64 b.f0, .int .i64 b.f1]] w fun e w' => e = .returned (.bool true) ∧ Go.RowKit.Below w.heap.size w w' := by
  obtain ⟨ys, hys⟩ : ∃ ys, xs.take 40 = ys := ⟨_, rfl⟩
  have hyl : ys.length = min 40 xs.length := by rw [← hys, List.length_take]
  have hyn : ys.length ≤ 40 := by omega
  have hyc : ys.length ≤ c := by omega
  have hyr : ∀ W, Bel w.heap.size w W → Kd.C k24 W A ys.length ys := fun W hW => by
    have h1 := Kd.C_take (Kd.C_below hr hW) (m := min 40 xs.length) (by omega)
    have h2 : xs.take (min 40 xs.length) = ys := by
      rw [← hys]
      rcases Nat.le_total 40 xs.length with h | h
      · rw [Nat.min_eq_left h]
      · rw [Nat.min_eq_right h, List.take_length, List.take_of_length_le h]
    rwa [h2] at h1
  obtain ⟨w2, hw2⟩ : ∃ w2 : World, w2 = (w.alloc (.cells #[.int .i64 a.f0, .int .i64 a.f1] 24)).alloc (.cells #[.int .i64 b.f0, .int .i64 b.f1] 24) := ⟨_, rfl⟩
  have hB2 : Bel w.heap.size w w2 := by rw [hw2]; exact below_alloc (below_alloc (Go.RowKit.Below.refl _ _) _) _
  have up : ∀ {W}, Bel w2.heap.size w2 W → Bel w.heap.size w W := fun h => hB2.trans (h.mono hB2.size)
  have tr : ∀ {W W'}, Bel w2.heap.size w2 W → Bel W.heap.size W W' → Bel w2.heap.size w2 W' := fun h k => h.trans (k.mono h.size)
  have H4 : ∀ W, Bel w2.heap.size w2 W → Calls Try.prog 4 #[.agg #[.int .i64 a.f0, .int .i64 a.f1], .agg #[.int .i64 b.f0, .int .i64 b.f1]] W fun e w' => e = .returned (.int .i64 (cmp2 (a.f0, a.f1) (b.f0, b.f1))) ∧ Bel w2.heap.size w2 w' := fun W hW => (order_compare (a.f0, a.f1) (b.f0, b.f1) W).mono fun _ _ h => ⟨h.1, tr hW h.2⟩
  have H5 : ∀ W, Bel w2.heap.size w2 W → Calls Try.prog 5 #[.agg #[.int .i64 a.f0, .int .i64 a.f1], .agg #[.int .i64 b.f0, .int .i64 b.f1]] W fun e w' => e = .returned (.int .i64 (cmp2 (a.f0, a.f1) (b.f0, b.f1))) ∧ Bel w2.heap.size w2 w' := fun W hW => (ref_compare_b (a.f0, a.f1) (b.f0, b.f1) W).mono fun _ _ h => ⟨h.1, tr hW h.2⟩
  have H7 : ∀ W n, n = ys.length → Bel w2.heap.size w2 W → Calls Try.prog 7 #[.slice A n c] W fun e w' => ∃ A2 c2, e = .returned (.slice A2 (refSorted ys).length c2) ∧ (refSorted ys).length ≤ c2 ∧ Bel w2.heap.size w2 w' ∧ Aside0 (∀ w3, Bel w'.heap.size w' w3 → Kd.C k24 w3 A2 (refSorted ys).length (refSorted ys)) := by
    rintro W n rfl hW
    refine (order_sorted A c ys W (hyr W (up hW)) hyc (by omega)).mono ?_
    rintro e w' ⟨v, rfl, hR, hB⟩
    rw [sorted_eq] at hR
    obtain ⟨A2, c2, rfl, hl, hC⟩ := Kd.R_reads hR
    exact ⟨A2, c2, rfl, hl, tr hW hB, ⟨fun w2 h2 => Kd.C_below hC h2⟩⟩
  have H8 : ∀ W n, n = ys.length → Bel w2.heap.size w2 W → Calls Try.prog 8 #[.slice A n c] W fun e w' => ∃ A2 c2, e = .returned (.slice A2 (refSorted ys).length c2) ∧ (refSorted ys).length ≤ c2 ∧ Bel w2.heap.size w2 w' ∧ Bel W.heap.size W w' ∧ Kd.C k24 w' A2 (refSorted ys).length (refSorted ys) := by
    rintro W n rfl hW
    refine (ref_sorted A c ys W (hyr W (up hW)) hyc (by omega)).mono ?_
    rintro e w' ⟨v, rfl, hR, hB⟩
    obtain ⟨A2, c2, rfl, hl, hC⟩ := Kd.R_reads hR
    exact ⟨A2, c2, rfl, hl, tr hW hB, hB, hC⟩
  obtain ⟨zs, hzs⟩ : ∃ zs, refSorted ys = zs := ⟨_, rfl⟩
  rw [hzs] at H7 H8
  have hzl : zs.length ≤ 1000 := by
    have : (sortedL ys).length ≤ ys.length := by
      unfold sortedL; simp only; unfold compactUpTo
      rw [List.length_map]
      exact Nat.le_trans (List.length_filter_le _ _) (by simp)
    rw [sorted_eq, hzs] at this
    omega
  have H6 : ∀ W A2 c2 A3 c3, zs.length ≤ c2 → zs.length ≤ c3 → Kd.C k24 W A2 zs.length zs → Kd.C k24 W A3 zs.length zs → Bel w2.heap.size w2 W → Calls Try.prog 6 #[.slice A2 zs.length c2, .slice A3 zs.length c3] W fun e w' => e = .returned (.bool true) ∧ Bel w2.heap.size w2 w' := fun W A2 c2 A3 c3 h2 h3 h4 h5 hW =>
    (rampartref07_Same.calls _ A2 c2 zs A3 c3 zs true W h4 h2 h5 h3 (same_self zs hzl)).mono fun _ _ h => ⟨h.1, by obtain ⟨n, hn⟩ := h.2; rw [hn]; exact ⟨hW.os, hW.tape, hW.output, hW.size, hW.block⟩⟩
  have H9 : ∀ W, Bel w2.heap.size w2 W → Calls Try.prog 9 #[] W fun e w' => e = .returned (.bool true) ∧ Bel w2.heap.size w2 w' := fun W hW => (rampartlaw07_alive.calls 10 true W alive_is).mono fun _ _ h => ⟨h.1, tr hW h.2⟩
  obtain ⟨r, hr2⟩ : ∃ r, cmp2 (a.f0, a.f1) (b.f0, b.f1) = r := ⟨_, rfl⟩
  rw [hr2] at H4 H5
  have XS : ∀ W, Bel w2.heap.size w2 W → W.cell? ⟨w.heap.size, 0, none⟩ = some (.int .i64 a.f0) ∧ W.cell? ⟨w.heap.size, 1, none⟩ = some (.int .i64 a.f1) ∧ W.cell? ⟨w.heap.size + 1, 0, none⟩ = some (.int .i64 b.f0) ∧ W.cell? ⟨w.heap.size + 1, 1, none⟩ = some (.int .i64 b.f1) := by
    intro W hW
    have e0 : W.heap[w.heap.size]? = some (.cells #[.int .i64 a.f0, .int .i64 a.f1] 24 (0, 0)) := by
      rw [hW.block _ (by rw [hw2]; simp; omega), hw2, Go.RowKit.Below.heap_alloc _ _ _ (by simp)]
      exact heap_alloc_new w _
    have e1 : W.heap[w.heap.size + 1]? = some (.cells #[.int .i64 b.f0, .int .i64 b.f1] 24 (0, 0)) := by
      rw [hW.block _ (by rw [hw2]; simp), hw2, show w.heap.size + 1 = (w.alloc (.cells #[.int .i64 a.f0, .int .i64 a.f1] 24)).heap.size by simp]
      exact heap_alloc_new _ _
    simp [World.cell?, e0, e1]
  clear hr2 hzs hyr hr hys tr
  replace H4 := Aside0.mk H4
  replace H5 := Aside0.mk H5
  replace H6 := Aside0.mk H6
  replace H7 := Aside0.mk H7
  replace H8 := Aside0.mk H8
  replace H9 := Aside0.mk H9
  replace XS := Aside0.mk XS
  replace up := Aside0.mk @up
  have HW2 := Aside0.mk hw2
  clear hw2
  have hcut := fun (h : 40 ≤ xs.length) W => take_run A xs.length c 40 h hc W
  have hn40 : ∀ n, n = min 40 xs.length → n = ys.length := fun n h => by omega
  by_cases h40 : 40 < xs.length
  · have hl40 : 40 = ys.length := by omega
    have hcutE : ∀ W, (Instr.slice 22 (.slice A xs.length c) none (some (.int .i64 40)) none).run Try.prog W = .ok (.slice A 40 c) W := fun W => hcut (by omega) W
    have h40i : (40 : Int) < (xs.length : Int) := by omega
    have hl40' := Aside0.mk hl40
    clear hcut hyl hyn hn40 hl40 hyc hm hc hzl h40
    go_enter Try.func3, Try.ntmps3
    go_wp2_with fail
    have HW2' := HW2.out.symm
    rw [HW2']
    go_loud (go_region_held3 (fun w' => w'.cell? ⟨w.heap.size, 0, none⟩ = some (.int .i64 a.f0) ∧ w'.cell? ⟨w.heap.size, 1, none⟩ = some (.int .i64 a.f1) ∧ w'.cell? ⟨w.heap.size + 1, 0, none⟩ = some (.int .i64 b.f0) ∧ w'.cell? ⟨w.heap.size + 1, 1, none⟩ = some (.int .i64 b.f1))
      (exact XS.out _ (by repeat (first | exact hb9 | exact hb6 | exact hb8 | exact hb7 | exact hb5 | exact hb4 | exact Go.RowKit.Below.refl _ _ | apply Go.RowKit.Below.drew)))
      (first
        | (go_at_call 4; refine (H4.out _ (by repeat (first | exact hb9 | exact hb6 | exact hb8 | exact hb7 | exact hb5 | exact hb4 | exact Go.RowKit.Below.refl _ _ | apply Go.RowKit.Below.drew))).mono ?_; rintro e w' ⟨rfl, hb4⟩)
        | (go_at_call 5; refine (H5.out _ (by repeat (first | exact hb9 | exact hb6 | exact hb8 | exact hb7 | exact hb5 | exact hb4 | exact Go.RowKit.Below.refl _ _ | apply Go.RowKit.Below.drew))).mono ?_; rintro e w' ⟨rfl, hb5⟩)
        | (go_at_call 7; refine (H7.out _ _ hl40'.out (by repeat (first | exact hb9 | exact hb6 | exact hb8 | exact hb7 | exact hb5 | exact hb4 | exact Go.RowKit.Below.refl _ _ | apply Go.RowKit.Below.drew))).mono ?_; rintro e w' ⟨A2, c2, rfl, hl2, hb7, HC7⟩)
        | (go_at_call 8; refine (H8.out _ _ hl40'.out (by repeat (first | exact hb9 | exact hb6 | exact hb8 | exact hb7 | exact hb5 | exact hb4 | exact Go.RowKit.Below.refl _ _ | apply Go.RowKit.Below.drew))).mono ?_; rintro e w' ⟨A3, c3, rfl, hl3, hb8, hb8', hC8⟩; replace hC8 := Aside0.mk hC8)
        | (go_at_call 6; refine (H6.out _ A2 c2 A3 c3 hl2 hl3 (HC7.out _ (by first
          | exact hb8'
          | exact hb8'.drew)) hC8.out (by repeat (first | exact hb9 | exact hb6 | exact hb8 | exact hb7 | exact hb5 | exact hb4 | exact Go.RowKit.Below.refl _ _ | apply Go.RowKit.Below.drew))).mono ?_; rintro e w' ⟨rfl, hb6⟩)
        | (go_at_call 9; refine (H9.out _ (by repeat (first | exact hb9 | exact hb6 | exact hb8 | exact hb7 | exact hb5 | exact hb4 | exact Go.RowKit.Below.refl _ _ | apply Go.RowKit.Below.drew))).mono ?_; rintro e w' ⟨rfl, hb9⟩)))
    all_goals go_wp2
    all_goals go_ret
    all_goals exact ⟨rfl, up.out hb9⟩
  · have hl40 : xs.length = ys.length := by omega
    have hl40' := Aside0.mk hl40
    clear hcut hyl hyn hn40 hl40 hyc hm hc hzl
    go_enter Try.func3, Try.ntmps3
    go_wp2_with fail
    have HW2' := HW2.out.symm
    rw [HW2']
    go_loud (go_region_held3 (fun w' => w'.cell? ⟨w.heap.size, 0, none⟩ = some (.int .i64 a.f0) ∧ w'.cell? ⟨w.heap.size, 1, none⟩ = some (.int .i64 a.f1) ∧ w'.cell? ⟨w.heap.size + 1, 0, none⟩ = some (.int .i64 b.f0) ∧ w'.cell? ⟨w.heap.size + 1, 1, none⟩ = some (.int .i64 b.f1))
      (exact XS.out _ (by repeat (first | exact hb9 | exact hb6 | exact hb8 | exact hb7 | exact hb5 | exact hb4 | exact Go.RowKit.Below.refl _ _ | apply Go.RowKit.Below.drew)))
      (first
        | (go_at_call 4; refine (H4.out _ (by repeat (first | exact hb9 | exact hb6 | exact hb8 | exact hb7 | exact hb5 | exact hb4 | exact Go.RowKit.Below.refl _ _ | apply Go.RowKit.Below.drew))).mono ?_; rintro e w' ⟨rfl, hb4⟩)
        | (go_at_call 5; refine (H5.out _ (by repeat (first | exact hb9 | exact hb6 | exact hb8 | exact hb7 | exact hb5 | exact hb4 | exact Go.RowKit.Below.refl _ _ | apply Go.RowKit.Below.drew))).mono ?_; rintro e w' ⟨rfl, hb5⟩)
        | (go_at_call 7; refine (H7.out _ _ hl40'.out (by repeat (first | exact hb9 | exact hb6 | exact hb8 | exact hb7 | exact hb5 | exact hb4 | exact Go.RowKit.Below.refl _ _ | apply Go.RowKit.Below.drew))).mono ?_; rintro e w' ⟨A2, c2, rfl, hl2, hb7, HC7⟩)
        | (go_at_call 8; refine (H8.out _ _ hl40'.out (by repeat (first | exact hb9 | exact hb6 | exact hb8 | exact hb7 | exact hb5 | exact hb4 | exact Go.RowKit.Below.refl _ _ | apply Go.RowKit.Below.drew))).mono ?_; rintro e w' ⟨A3, c3, rfl, hl3, hb8, hb8', hC8⟩; replace hC8 := Aside0.mk hC8)
        | (go_at_call 6; refine (H6.out _ A2 c2 A3 c3 hl2 hl3 (HC7.out _ (by first
          | exact hb8'
          | exact hb8'.drew)) hC8.out (by repeat (first | exact hb9 | exact hb6 | exact hb8 | exact hb7 | exact hb5 | exact hb4 | exact Go.RowKit.Below.refl _ _ | apply Go.RowKit.Below.drew))).mono ?_; rintro e w' ⟨rfl, hb6⟩)
        | (go_at_call 9; refine (H9.out _ (by repeat (first | exact hb9 | exact hb6 | exact hb8 | exact hb7 | exact hb5 | exact hb4 | exact Go.RowKit.Below.refl _ _ | apply Go.RowKit.Below.drew))).mono ?_; rintro e w' ⟨rfl, hb9⟩)))
    all_goals go_wp2
    all_goals go_ret
    all_goals exact ⟨rfl, up.out hb9⟩
end Go.Proofs.Ytijppfogcieemaa.Z

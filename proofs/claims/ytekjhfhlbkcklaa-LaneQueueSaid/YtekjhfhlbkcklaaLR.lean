/-
  maps.Keys of the lane's map: its iterator, for every loop that keeps its word. · slices.AppendSeq, Collect of the map's keys. · The sort's comparing function: by how far a number stands behind the base. · The sort of the numbers that were taken, by how far they stand behind the base. · slices.SortedFunc of the map's keys.
-/
import Derived.Test.YtekjhfhlbkcklaaLI
import Derived.RangeFuncNested
import Derived.RangeFuncBound
import Derived.RangeFuncCalls
import Derived.RangeFuncLeaves
import Derived.Shelf.Abstract
import Derived.Shelf.RegionOpen
import Derived.OwnWalkIn
import Derived.TacticsInMore
import Derived.LoopNIn
import Derived.LoopIn
import Derived.RangeFuncSeq
import Derived.Maps.Range
import Derived.RangeFuncBox
import Derived.Maps.AppendAt
import Derived.KernelRfl
import Derived.Test.YtekjhfhlbkcklaaSlp
import Derived.Shelf.SlSortCmp.Whole1
import Derived.Shelf.SlSortCmp.NoneTotal
set_option linter.unusedVariables false
set_option linter.unusedSimpArgs false
namespace Go.Proofs.Ytekjhfhlbkcklaa.L
open Go.RowKit Go.Shelf Go.Proofs.Ytekjhfhlbkcklaa.K Go.Proofs.YtekjhfhlbkcklaaW.PrintWords
open Go.ChangeMaps (setBlock)
attribute [local go_sem] Oper.semAt_some

theorem zip_filter_len {β γ : Type} (p : β → Bool) : ∀ (a : List β) (b : List γ), a.length = b.length → ((a.zip b).filter (fun z => p z.1)).length = (a.filter p).length
  | [], [], _ => rfl
  | [], _ :: _, h => by simp at h
  | _ :: _, [], h => by simp at h
  | x :: a, y :: b, h => by
    have ih := zip_filter_len p a b (by simpa using h)
    simp only [List.zip_cons_cons, List.filter_cons]
    split <;> simp [ih]
theorem iter_left {q : IntKind} {enc : Past → Value} {w : World} {m r : Nat} {l rest : Pasts} (h : Iter q enc w m r l rest) : w.rangeLeft m r = rest.length := by
  obtain ⟨es, clock, since, seen, c0, hb, hs, he, hr, hold, hsc, hcl, rfl⟩ := h
  have hl : es.toList.length = l.length := by have := congrArg List.length he; simpa using this
  rw [List.length_map, zip_filter_len (fun e : MapEntry => !seen.contains e.born) _ _ hl]
  simp only [World.rangeLeft, hb, hr, leftOf]
  rw [← Array.length_toList, Array.toList_filter]
theorem iter_walk {q : IntKind} {enc : Past → Value} {w : World} {m r : Nat} {l rest : Pasts} (h : Iter q enc w m r l rest) : ∃ o : Obj, w.heap[r]? = some o ∧ o.isWalk = true := by
  obtain ⟨es, clock, since, seen, c0, hb, hs, he, hr, _⟩ := h
  exact ⟨_, hr, rfl⟩
theorem iter_keeps {q : IntKind} {enc : Past → Value} {w w' : World} {m r : Nat} {l rest : Pasts} (h : Iter q enc w m r l rest) (hk : KeepsWalks w w') : Iter q enc w' m r l rest := by
  obtain ⟨es, clock, since, seen, c0, hb, hs, he, hr, x⟩ := h
  exact ⟨es, clock, since, seen, c0, hk.same m _ hb rfl, hs, he, hk.same r _ hr rfl, x⟩
set_option maxHeartbeats 2000000 in
set_option maxRecDepth 100000 in
theorem keys1_stops (F : Fence) (n : Nat) (hF : F.fn 48) (hro : F.round = none) (hn : 1 ≤ n) (Bm m : Nat) (M : Pasts) (w : World) (hBm : Bm < w.heap.size) (hm : w.cell? ⟨Bm, 0, none⟩ = some (.map (some m))) (hM : IsMap w m M) :
    SeqStopsK F n Try.prog 48 #[.pointer (some ⟨Bm, 0, none⟩)] (fun k : Int => #[.int .u64 k]) KeepsWalks (fun xs => xs.Perm (M.map (·.1))) (fun _ => True) M.length w := by
  intro l J Jx W hW hJ hJx hY h0
  have hM' : IsMap W m M := hM.chg (Chg.below hW (fun _ => False)) (fun f => f)
  have hm' : W.cell? ⟨Bm, 0, none⟩ = some (.map (some m)) := (hW.cell (p := ⟨Bm, 0, none⟩) hBm).trans hm
  obtain ⟨o, hrg, hit⟩ := Iter.start (P := Try.prog) (T := 65) (K := 22) (E := 79) hM' Try.underlying65
  have hJ0 : J [] (W.alloc o) := hJ [] W _ none h0 (World.grownBy_alloc W o none) (fun r e => by cases e)
  clear h0
  refine callsIn_of_wp Try.func48 rfl hF ?_ hro
  simp only [Try.ntmps48, List.size_toArray, List.length_cons, List.length_nil, Nat.reduceAdd, Nat.reduceSub, Array.replicate_succ, Array.replicate_zero, List.push_toArray, List.append_toArray, List.nil_append, List.cons_append]
  gi_wp2
  gi_loopw [3] (fun _ wr => ∃ (pre : List Int) (rest : Pasts), Iter .u64 Past.enc wr m W.heap.size M rest ∧ (M.map (·.1)).Perm (pre ++ rest.map (·.1)) ∧ J pre wr ∧ W.heap.size < wr.heap.size) (fun _ wr => wr.rangeLeft m W.heap.size)
  case atStart => exact ⟨[], M, hit, List.Perm.refl _, hJ0, by simp⟩
  case round =>
    obtain ⟨pre, rest, hI, hP, hJ1, hsz⟩ := hrel
    rcases Iter.next (P := Try.prog) hI with ⟨rfl, hnx⟩ | ⟨p, rest', o2, w1, hpM, hperm, hw1, hnx, hI2, hen⟩
    · gi_wp2
      go_end0
      exact ⟨⟨_, rfl⟩, .inl ⟨pre, by simpa using hP.symm, hJ1⟩⟩
    · obtain ⟨X1, hX1⟩ : ∃ X1, setBlock w1 W.heap.size o2 = X1 := ⟨_, rfl⟩
      have hg : wr.grownBy X1 (some W.heap.size) := by
        rw [← hX1]
        refine ⟨?_, ?_, ?_, ?_, fun i _ hne => ?_⟩
        · rcases hw1 with rfl | rfl <;> rfl
        · rcases hw1 with rfl | rfl <;> rfl
        · rcases hw1 with rfl | rfl <;> rfl
        · show wr.heap.size ≤ (w1.heap.setIfInBounds _ _).size
          rw [Array.size_setIfInBounds]
          rcases hw1 with rfl | rfl <;> exact Nat.le_refl _
        · have h1 : i ≠ W.heap.size := fun e => hne (by rw [e])
          simp only [ChangeMaps.setBlock, Array.getElem?_setIfInBounds, if_neg (Ne.symm h1)]
          rcases hw1 with rfl | rfl <;> rfl
      rw [hX1] at hnx hI2 hen
      have hen1 := hen X1 rfl rfl
      have hJ2 : J pre X1 := hJ pre wr X1 _ hJ1 hg (fun r e => by cases e; exact ⟨Nat.le_refl _, iter_walk hI⟩)
      have hlen : pre.length < M.length := by
        have h1 := hP.length_eq
        have h2 := hperm.length_eq
        simp at h1 h2
        omega
      obtain ⟨fn, tmps, assign, body, hy, hR⟩ := hY pre p.1 X1 hJ2 hlen
      clear hX1 hen hw1 hg
      gi_wp2
      refine hR.mono ?_
      rintro e W3 (⟨rfl, hJ3, hk3⟩ | ⟨rfl, hJx3⟩)
      · have hI3 := iter_keeps hI2 hk3
        gi_wp2
        go_roundw
        case rel =>
          refine ⟨pre ++ [p.1], rest', hI3, ?_, hJ3, hI3.lt⟩
          have h1 := hP.trans ((hperm.map (·.1)).append_left pre)
          simpa using h1
        case measure =>
          rw [iter_left hI3, iter_left hI]
          have := hperm.length_eq
          simp at this
          omega
      · gi_wp2
        refine bodyPost_ret (results_none rfl _ _ _) rfl ?_
        exact ⟨⟨_, rfl⟩, .inr ⟨_, trivial, hJx3⟩⟩
end Go.Proofs.Ytekjhfhlbkcklaa.L
namespace Go.Proofs.Ytekjhfhlbkcklaa.L
open Go.RowKit Go.Shelf Go.Proofs.Ytekjhfhlbkcklaa.K Go.Proofs.YtekjhfhlbkcklaaW.PrintWords
attribute [local go_sem] Oper.semAt_some

theorem info22 : (Try.prog.info? 22).map (fun i => (i.zero, i.size, i.bytes)) = some (some (.int .u64 0), 1, 8) := by kernel_rfl
theorem keys_calls (w : World) (m : Nat) : Calls Try.prog 38 #[.map (some m)] w fun e w' => e = .returned (.func (.func 48) #[] #[.pointer (some ⟨w.heap.size, 0, none⟩)]) ∧ w' = w.alloc (.cells #[.map (some m)] 65) := by
  go_enter Try.func38, Try.ntmps38
  go_wp2
  go_ret
  exact ⟨rfl, rfl⟩
set_option maxHeartbeats 2000000 in
set_option maxRecDepth 100000 in
theorem appendSeq_in (F : Fence) (n : Nat) (h3 : F.fn 51) (h5 : F.fn 48) (hro : F.round = none) (hn : 3 ≤ n) (Bm m : Nat) (M : Pasts) (w : World) (hM0 : M.length ≤ 1000) (hBm : Bm < w.heap.size) (hm : w.cell? ⟨Bm, 0, none⟩ = some (.map (some m))) (hM : IsMap w m M) :
    CallsIn F n Try.prog 51 #[.slice none 0 0, .func (.func 48) #[] #[.pointer (some ⟨Bm, 0, none⟩)]] w fun e W' => ∃ (v : Value) (xs : List Int), e = .returned v ∧ xs.Perm (M.map (·.1)) ∧ W'.ownsRow w.heap.size 22 1 v xs.length (xs.map (Value.int .u64)) ∧ Below w.heap.size w W' := by
  have h1 : 1 ≤ n := by omega
  obtain ⟨i0, hi, hz0, hz1, hz2⟩ := info_parts info22
  refine callsIn_of_wp_marks Try.func51 rfl h3 ?_ hro
  simp only [Try.ntmps51, List.size_toArray, List.length_cons, List.length_nil, Nat.reduceAdd, Nat.reduceSub, Array.replicate_succ, Array.replicate_zero, List.push_toArray, List.append_toArray, List.nil_append, List.cons_append]
  gi_wp2
  have bO := Boxed.new w 85 (.slice none 0 0)
  have hB0 : Below w.heap.size w (w.alloc (.cells #[.slice none 0 0] 85)) := (Below.refl _ w).alloc (Nat.le_refl _) _
  have hsq := keys1_stops F (n - 1) h5 hro (by omega) Bm m M (w.alloc (.cells #[.slice none 0 0] 85)) (by simp; omega) ((hB0.cell (p := ⟨Bm, 0, none⟩) hBm).trans hm) (hM.alloc _)
  refine wpIn_rangeFunc_ownG hro h1 (gf := 48) (lb := #[.pointer (some ⟨Bm, 0, none⟩)]) rfl h5 (enters_of Try.func48 (by kernel_rfl) rfl)
    hsq walksK_t walksK_b (Below.refl _ _) (fun _ => rfl)
    (fun pre W => (∃ v, Boxed W w.heap.size 85 v ∧ W.ownsRow w.heap.size 22 1 v pre.length (pre.map (Value.int .u64)) ∧ True) ∧ Below w.heap.size w W)
    (fun _ _ _ => False)
    (OwnFrom.and (Own.from (holdsRow_own w.heap.size w.heap.size 85 22 1 (fun pre : List Int => pre.length) (fun pre => pre.map (Value.int .u64)) (fun _ _ => True)) _) (ownFrom_below (Nat.le_refl _) (by simp)))
    (fun _ _ _ _ _ hs _ _ => hs)
    ⟨⟨_, bO, World.ownsRow_nil _ _ _ _, trivial⟩, hB0⟩
    (fun x => { tmps := #[.slice none 0 0, .func (.func 48) #[] #[.pointer (some ⟨Bm, 0, none⟩)], .pointer (some ⟨w.heap.size, 0, none⟩), undef, .slice none 0 0, .int .u64 x, .func (.func 48) #[] #[.pointer (some ⟨Bm, 0, none⟩)], .int .u64 x, undef, undef, undef, undef, undef], defers := [] }) ?assign ?body ?done ?stop
  case assign =>
    intro l x W K hK
    gi_wp2
    exact hK
  case body =>
    rintro l pre x W ⟨⟨v, hv, hrow, -⟩, hB⟩ hlt
    have hc := hv.cell
    gi_wp2_with (gi_at_builtin; refine wpListIn_append_own _ rfl _ _ 85 rfl w.heap.size 22 i0 (.int .u64 0) 1 8 Try.underlying85 hi hz0 hz1 hz2 rfl (by decide) _ _ _ rfl (hrow.alloc _) ⟨W.heap.size, 0, none⟩ 1 1 [.int .u64 x] rfl rfl (cell_one_new _ _ _) (by simp [Value.oneCell']) (by simp [maxLen]; omega) (by omega) (by have := hB.size; simp; omega) ?_; intro v' w1 hown' hgrow _; obtain ⟨g', cap', rfl⟩ := ownsRow_succ hown'; obtain ⟨hv1, hv2, hr2, hk2, hb2⟩ := hv.appended (by decide) hrow hB.size (Nat.le_refl _) hown' hgrow; have hc1 := hv1.cell; have hf1 := hv1.frozen)
    exact ⟨hk2.from _, hk2.walks, ⟨_, hv2, by simpa using hr2, trivial⟩, hB.trans hb2⟩
  case done =>
    rintro D ys W hD hS ⟨⟨v, hv, hrow, -⟩, hB⟩ hK
    have hc := hv.cell
    gi_wp2
    refine ⟨by simp, .inl ⟨_, _, rfl, run_takeDeferred hK, ?_⟩⟩
    exact ⟨_, results_tmp rfl _ _ _, v, ys, rfl, hS, ownsRow_putObj hrow _ hK rfl, hB.trans (belowK_b (w := w) (Nat.le_refl _) W D _ _ (by simp at hD; omega) hK rfl rfl)⟩
  case stop =>
    rintro D c pre W _ _ h _
    exact h.elim
set_option maxHeartbeats 1000000 in
theorem collect_calls (Bm m : Nat) (M : Pasts) (w : World) (hM0 : M.length ≤ 1000) (hBm : Bm < w.heap.size) (hm : w.cell? ⟨Bm, 0, none⟩ = some (.map (some m))) (hM : IsMap w m M) :
    Calls Try.prog 46 #[.func (.func 48) #[] #[.pointer (some ⟨Bm, 0, none⟩)]] w fun e W' => ∃ (v : Value) (xs : List Int), e = .returned v ∧ xs.Perm (M.map (·.1)) ∧ W'.ownsRow w.heap.size 22 1 v xs.length (xs.map (Value.int .u64)) ∧ Below w.heap.size w W' := by
  have hA := callsIn_wide.1 (appendSeq_in Fence.wide 3 trivial trivial rfl (by omega) Bm m M w hM0 hBm hm hM)
  have HA := Aside0.mk hA
  clear hA hm hM hBm
  go_enter Try.func46, Try.ntmps46
  go_wp2_with (first | (go_at_call 51; refine HA.out.mono ?_; rintro e w' ⟨v, xs, rfl, h1, h2, h3⟩; have H1 := Aside0.mk h1; have H2 := Aside0.mk h2; have H3 := Aside0.mk h3; clear h1 h2 h3))
  go_ret
  exact ⟨v, xs, rfl, H1.out, H2.out, H3.out⟩
end Go.Proofs.Ytekjhfhlbkcklaa.L
namespace Go.Proofs.Ytekjhfhlbkcklaa.L
open Go.RowKit Go.Shelf Go.Sort Go.Proofs.Ytekjhfhlbkcklaa.K Go.Proofs.YtekjhfhlbkcklaaW.PrintWords

def cmpU (a b : Int) : Int := if a < b then -1 else if b < a then 1 else 0
set_option maxHeartbeats 1000000 in
set_option maxRecDepth 100000 in
theorem compare_calls (a b : Int) (w : World) : Calls Try.prog 40 #[.int .u64 a, .int .u64 b] w fun e w' => e = .returned (.int .i64 (cmpU a b)) ∧ ∃ q, w' = w.drewN q := by
  by_cases h1 : a < b
  · have hr : cmpU a b = -1 := by unfold cmpU; rw [if_pos h1]
    rw [hr]
    clear hr
    go_enter Try.func40, Try.ntmps40
    go_wp2
    go_ret
    exact ⟨rfl, 0, rfl⟩
  · by_cases h2 : b < a
    · have hr : cmpU a b = 1 := by unfold cmpU; rw [if_neg h1, if_pos h2]
      rw [hr]
      clear hr
      go_enter Try.func40, Try.ntmps40
      go_wp2
      go_ret
      exact ⟨rfl, 0, rfl⟩
    · have hr : cmpU a b = 0 := by unfold cmpU; rw [if_neg h1, if_neg h2]
      rw [hr]
      clear hr
      go_enter Try.func40, Try.ntmps40
      go_wp2
      go_ret
      exact ⟨rfl, 0, rfl⟩
set_option maxHeartbeats 1000000 in
set_option maxRecDepth 100000 in
theorem less_calls (w : World) (g b : Nat) (base x y : Int) (hg : w.cell? ⟨g, 0, none⟩ = some (.pointer (some ⟨b, 0, none⟩))) (hb : w.cell? ⟨b, 324, none⟩ = some (.int .u64 base)) :
    Calls Try.prog 39 #[.int .u64 x, .int .u64 y, .pointer (some ⟨g, 0, none⟩)] w fun e w' => e = .returned (.int .i64 (cmpU (IntKind.u64.wrap (x - base)) (IntKind.u64.wrap (y - base)))) ∧ ∃ q, w' = w.drewN q := by
  go_enter Try.func39, Try.ntmps39
  go_wp2
  go_region_held3 (fun w' => w'.cell? ⟨g, 0, none⟩ = some (.pointer (some ⟨b, 0, none⟩)) ∧ w'.cell? ⟨b, 324, none⟩ = some (.int .u64 base)) (first
      | (try go_split_ands
         refine ⟨?_, ?_⟩ <;> (first | assumption | (go_simp; done))))
    (first
      | (go_at_call 40; refine (compare_calls _ _ _).mono ?_; rintro e w' ⟨rfl, q, rfl⟩))
  all_goals go_wp2
  all_goals go_ret
  all_goals exact ⟨rfl, _, rfl⟩
end Go.Proofs.Ytekjhfhlbkcklaa.L
namespace Go.Proofs.Ytekjhfhlbkcklaa.L
open Go.RowKit Go.Shelf Go.Sort Go.Proofs.Ytekjhfhlbkcklaa.K Go.Proofs.YtekjhfhlbkcklaaW.PrintWords

def ltB (base x y : Int) : Bool := decide (IntKind.u64.wrap (x - base) < IntKind.u64.wrap (y - base))
theorem ltB_swo (base : Int) : SWO (ltB base) := ⟨fun x => by simp [ltB], fun x y z h1 h2 => by simp [ltB] at *; omega, fun x y z h1 h2 => by simp [ltB] at *; omega⟩
theorem ltB_of (base : Int) : ltOf (fun x y : Int => cmpU (IntKind.u64.wrap (x - base)) (IntKind.u64.wrap (y - base))) = ltB base := by
  funext x y
  unfold ltOf cmpU ltB
  dsimp only
  split
  · rename_i h; simp [h]
  · rename_i h; split <;> simp [h]
def encU : Int → Value := Value.int .u64
theorem sortWorld_cell {w : World} {blk n : Nat} {d : Array Int} {os : Array Obj} {a : Addr} (ha : a.block ≠ blk) (hl : a.block < w.heap.size) : (sortWorld encU w blk 0 n d os).cell? a = w.cell? a := by
  unfold sortWorld
  rw [cell?_grow _ _ _ (by simpa [putRow, mapBlock, Sort.ahead] using hl), cell?_putRow_other encU _ blk 0 d a (Or.inl ha)]
  rfl
theorem sort64 (w : World) (blk cap g b : Nat) (base : Int) (xs : List Int) (hH : Holds encU w blk 0 xs.toArray) (hblk : blk < w.heap.size) (hn : xs.length ≤ 1000) (hg : w.cell? ⟨g, 0, none⟩ = some (.pointer (some ⟨b, 0, none⟩))) (hb : w.cell? ⟨b, 324, none⟩ = some (.int .u64 base)) (g1 : g ≠ blk) (b1 : b ≠ blk) :
    Calls Try.prog 47 #[.slice (some ⟨blk, 0, none⟩) xs.length cap, .func (.func 39) #[] #[.pointer (some ⟨g, 0, none⟩)]] w fun e w' =>
      e = .returned (.tuple #[]) ∧ ∃ (d' : Array Int) (n : Nat) (os : Array Obj), d'.toList.Perm xs ∧ SortedIn (ltB base) 0 xs.length d' ∧ w' = sortWorld encU w blk 0 n d' os := by
  have h := Any.slices_SortFunc (P := Try.prog) Try.sortL encU (fun _ => rfl) (fun x y : Int => cmpU (IntKind.u64.wrap (x - base)) (IntKind.u64.wrap (y - base))) (by rw [ltB_of]; exact ltB_swo base) 39 #[.pointer (some ⟨g, 0, none⟩)] blk 0 cap xs.toArray w (enters_of Try.func39 (by kernel_rfl) rfl)
    (fun m os dk _ x y => (less_calls _ g b base x y ((sortWorld_cell g1 (World.block_lt_of_cell? w _ hg)).trans hg) ((sortWorld_cell b1 (World.block_lt_of_cell? w _ hb)).trans hb)).mono fun e w' ⟨he, q, hq⟩ => ⟨he, q, #[], by rw [hq, grow_empty]⟩) hH hblk (by simp; omega)
  rw [ltB_of] at h
  refine (show Calls Try.prog 47 #[.slice (some ⟨blk, 0, none⟩) xs.length cap, .func (.func 39) #[] #[.pointer (some ⟨g, 0, none⟩)]] w _ from h).mono ?_
  rintro e w' ⟨rfl, d', n, os, hp, hs, rfl⟩
  refine ⟨rfl, d', n, os, ?_, by simpa using hs, rfl⟩
  have h1 := hp.2.2
  have h2 := hp.1
  have e1 : d'.extract 0 xs.toArray.size = d' := by rw [← h2]; simp
  rw [e1] at h1
  simpa using h1
end Go.Proofs.Ytekjhfhlbkcklaa.L
namespace Go.Proofs.Ytekjhfhlbkcklaa.L
open Go.RowKit Go.Shelf Go.Sort Go.Proofs.Ytekjhfhlbkcklaa.K Go.Proofs.YtekjhfhlbkcklaaW.PrintWords

theorem own_sort {w : World} {base blk cap n : Nat} {xs : List Value} (h : w.ownsRow base 22 1 (.slice (some ⟨blk, 0, none⟩) n cap) n xs) (d : Array Int) (hd : d.size = n) (q : Nat) (os : Array Obj) :
    (sortWorld encU w blk 0 q d os).ownsRow base 22 1 (.slice (some ⟨blk, 0, none⟩) n cap) n (d.toList.map encU) := by
  refine ⟨by simp [hd], ?_⟩
  rcases h.2 with ⟨h1, _⟩ | ⟨g, cap', cur, h1, hg, hh, hn, hm, hs, ht⟩
  · simp at h1
  · obtain ⟨rfl, rfl⟩ : blk = g ∧ cap = cap' := by simpa using h1
    have hlt := (Array.getElem?_eq_some_iff.1 hh).1
    refine .inr ⟨blk, cap, putCells encU 0 d cur, rfl, hg, ?_, hn, hm, by simpa [putCells] using hs, ?_⟩
    · unfold sortWorld
      rw [heap_grow_old _ _ (by simpa [putRow, mapBlock, Sort.ahead] using hlt)]
      simp [putRow, mapBlock, Sort.ahead, Array.getElem?_modify, hh, onCells]
    · apply List.ext_getElem?
      intro k
      rw [List.getElem?_take]
      have hcs : cur.size = cap := by simpa using hs
      split
      · rename_i hk
        have hkn : k < n := by simpa using hk
        simp [putCells, hd, hkn, show k < cur.size by omega, show k < d.size by omega]
      · rename_i hk
        rw [List.getElem?_eq_none (by simp [hd]; omega)]
theorem holds_own {w : World} {base blk cap : Nat} {xs : List Int} (h : w.ownsRow base 22 1 (.slice (some ⟨blk, 0, none⟩) xs.length cap) xs.length (xs.map encU)) : Holds encU w blk 0 xs.toArray ∧ blk < w.heap.size ∧ base ≤ blk := by
  rcases h.2 with ⟨h1, _⟩ | ⟨g, cap', cur, h1, hg, hh, hn, hm, hs, ht⟩
  · simp at h1
  · obtain ⟨rfl, rfl⟩ : blk = g ∧ cap = cap' := by simpa using h1
    refine ⟨fun j hj => ⟨?_, by simp [World.frozen?, hh]⟩, (Array.getElem?_eq_some_iff.1 hh).1, hg⟩
    have hj' : j < xs.length := by simpa using hj
    have h2 : (cur.toList.take (xs.length * 1))[j]? = (xs.map encU)[j]? := by rw [ht]
    rw [List.getElem?_take, if_pos (by omega)] at h2
    simp only [World.cell?, hh]
    simpa [hj'] using h2
theorem below_sort {B : Nat} {a w : World} (h : Below B a w) (hB : B ≤ w.heap.size) {g : Nat} (hg : B ≤ g) (n : Nat) (d : Array Int) (os : Array Obj) : Below B a (sortWorld encU w g 0 n d os) :=
  ⟨h.os, h.tape, h.output, by have := h.size; simp [sortWorld, putRow, mapBlock, Sort.ahead]; omega, fun k hk => by
    rw [← h.block k hk]
    unfold sortWorld
    rw [heap_grow_old _ _ (by simp [putRow, mapBlock, Sort.ahead]; omega)]
    simp only [putRow, mapBlock, Array.getElem?_modify]
    rw [if_neg (by omega)]
    rfl⟩
/-- Numbers in the order of how far they stand behind the base. -/
def SortedB (base : Int) (ys : List Int) : Prop := ys.Pairwise (fun a b => ltB base b a = false)
set_option maxHeartbeats 1000000 in
theorem sort64_row (w : World) (v : Value) (B0 g b : Nat) (base : Int) (xs : List Int) (h : w.ownsRow B0 22 1 v xs.length (xs.map encU)) (hB0 : B0 ≤ w.heap.size) (hn : xs.length ≤ 1000) (hg : w.cell? ⟨g, 0, none⟩ = some (.pointer (some ⟨b, 0, none⟩))) (hb : w.cell? ⟨b, 324, none⟩ = some (.int .u64 base)) (g1 : g < B0) (b1 : b < B0) :
    Calls Try.prog 47 #[v, .func (.func 39) #[] #[.pointer (some ⟨g, 0, none⟩)]] w fun e w' =>
      e = .returned (.tuple #[]) ∧ ∃ ys : List Int, ys.Perm xs ∧ SortedB base ys ∧ w'.ownsRow B0 22 1 v ys.length (ys.map encU) ∧ ∀ W, Below B0 W w → Below B0 W w' := by
  rcases h.2 with ⟨rfl, h0⟩ | ⟨blk, cap, cur, rfl, hbl, hh, hcap, hm, hs, ht⟩
  · obtain rfl : xs = [] := List.eq_nil_of_length_eq_zero h0
    refine (show Calls Try.prog 47 #[.slice none 0 0, .func (.func 39) #[] #[.pointer (some ⟨g, 0, none⟩)]] w _ from AnyF.slices_SortFunc_none Try.sortL0 none 0 _ w).mono ?_
    rintro e w' ⟨rfl, rfl⟩
    exact ⟨rfl, [], List.Perm.refl _, List.Pairwise.nil, h, fun W hW => hW⟩
  · obtain ⟨hH, hlt, hge⟩ := holds_own h
    refine (sort64 w blk cap g b base xs hH hlt hn hg hb (by omega) (by omega)).mono ?_
    rintro e w' ⟨rfl, d', n, os, hp, hsd, rfl⟩
    have hl : d'.size = xs.length := by have := hp.length_eq; simpa using this
    have hl2 : d'.toList.length = xs.length := by simpa using hl
    refine ⟨rfl, d'.toList, hp, ?_, by rw [hl2]; exact own_sort h d' hl n os, fun W hW => below_sort hW hB0 hge n d' os⟩
    refine List.pairwise_iff_getElem.2 fun i j hi hj hij => ?_
    have := hsd i j (Nat.zero_le _) hij (by simp at hj; omega)
    rw [getElem!_pos d' i (by simpa using hi), getElem!_pos d' j (by simpa using hj)] at this
    simpa using this
set_option maxHeartbeats 1000000 in
theorem sortedFunc_calls (Bm m g b : Nat) (base : Int) (M : Pasts) (w : World) (hM0 : M.length ≤ 1000) (hBm : Bm < w.heap.size) (hm : w.cell? ⟨Bm, 0, none⟩ = some (.map (some m))) (hM : IsMap w m M) (hg : w.cell? ⟨g, 0, none⟩ = some (.pointer (some ⟨b, 0, none⟩))) (hb : w.cell? ⟨b, 324, none⟩ = some (.int .u64 base)) :
    Calls Try.prog 37 #[.func (.func 48) #[] #[.pointer (some ⟨Bm, 0, none⟩)], .func (.func 39) #[] #[.pointer (some ⟨g, 0, none⟩)]] w fun e w' =>
      ∃ (v : Value) (ys : List Int), e = .returned v ∧ ys.Perm (M.map (·.1)) ∧ SortedB base ys ∧ w'.ownsRow w.heap.size 22 1 v ys.length (ys.map encU) ∧ Below w.heap.size w w' := by
  have HC := Aside0.mk (collect_calls Bm m M w hM0 hBm hm hM)
  have HG := Aside0.mk (And.intro hg hb)
  clear hBm hm hM hg hb
  go_enter Try.func37, Try.ntmps37
  go_wp2_with (first
    | (go_at_call 46; refine HC.out.mono ?_; rintro e w1 ⟨v, xs, rfl, h1, h2, h3⟩; have H1 := Aside0.mk h1; have H2 := Aside0.mk h2; have H3 := Aside0.mk h3; clear h1 h2 h3)
    | (go_at_call 47; refine (sort64_row w1 v w.heap.size g b base xs H2.out H3.out.size (by have := H1.out.length_eq; simp at this; omega) (pw_cell_below H3.out HG.out.1) (pw_cell_below H3.out HG.out.2) (World.block_lt_of_cell? w _ HG.out.1) (World.block_lt_of_cell? w _ HG.out.2)).mono ?_; rintro e w2 ⟨rfl, ys, h4, h5, h6, h7⟩; have H4 := Aside0.mk h4; have H5 := Aside0.mk h5; have H6 := Aside0.mk h6; have H7 := Aside0.mk (h7 w H3.out); clear h4 h5 h6 h7))
  go_ret
  exact ⟨v, ys, rfl, H4.out.trans H1.out, H5.out, H6.out, H7.out⟩
end Go.Proofs.Ytekjhfhlbkcklaa.L

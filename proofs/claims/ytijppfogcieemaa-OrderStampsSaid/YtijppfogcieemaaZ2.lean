import Derived.Test.YtijppfogcieemaaZc
namespace Go.Proofs.Ytijppfogcieemaa.Z
open Go.RowKit Go.Shelf Go.Lib Go.Sort
open Go.Proofs.YtijppfogcieemaaW.PrintWords Go.Proofs.YtijppfogcieemaaW.PrintLast Go.Proofs.YtijppfogcieemaaW.PrintMore
open Go.Proofs.Ytijppfogcieemaa.PA
attribute [local go_sem high] eqA24 eqA31

theorem info31 : (Try.prog.info? 31).map (fun i => (i.zero, i.size, i.bytes)) = some (some (.agg #[(.int .i64 0), (.int .i64 0)]), 2, 16) := by kernel_rfl


theorem row_cases {w : World} {base : Nat} {ok : Nat → Prop} {v : Value} {xs : List S24} (h : Kd.R k24 31 w base ok v xs) :
    (v = .slice none 0 0 ∧ xs = []) ∨ ∃ g cap, v = .slice (some ⟨g, 0, none⟩) xs.length cap ∧ base ≤ g ∧ g < w.heap.size ∧ xs.length ≤ cap ∧ HoldsK enc2 2 w g 0 xs.toArray := by
  obtain ⟨A, c, hv, hc, hC⟩ := Kd.R_reads h
  obtain ⟨inner, ho, hr⟩ := h.2
  rcases ho.2 with ⟨h1, h2⟩ | ⟨g, cap, cur, h1, hg, hh, hn, _, hs, _⟩
  · exact .inl ⟨h1, by simpa using h2⟩
  · rw [hv] at h1
    obtain ⟨rfl, -, rfl⟩ : A = some ⟨g, 0, none⟩ ∧ xs.length = xs.length ∧ c = cap := by simpa using h1
    refine .inr ⟨g, c, hv, hg, (Array.getElem?_eq_some_iff.1 hh).1, hn, fun j hj => ?_⟩
    have hj' : j < xs.length * 2 := by simpa using hj
    have hi : j / 2 < xs.length := by omega
    obtain ⟨ad, ea, hcell⟩ := hC.2.2 (by omega)
    obtain rfl : ⟨g, 0, none⟩ = ad := by simpa using ea
    obtain ⟨cs, hl, hk, hcc⟩ := hcell (j / 2) _ (List.getElem?_eq_getElem hi)
    obtain rfl := k24_open hk
    rw [get_flatK _ _ _ _ (by simpa using hj')]
    have e : xs.toArray[j / 2]! = xs[j / 2] := by simp [hi]
    rw [e]
    refine ⟨?_, by simp [World.frozen?, hh]⟩
    have h3 := hcc (j % 2) (enc2 xs[j / 2])[j % 2]! (by rcases Nat.mod_two_eq_zero_or_one j with h | h <;> simp [h, enc2])
    have h4 : (0 : Nat) + (j / 2 * 2 + j % 2) = 0 + j := by omega
    have ha : ∀ k, Addr.add ⟨g, 0, none⟩ k = ⟨g, k, none⟩ := fun k => by unfold Addr.add; split <;> simp_all
    rw [ha, show j / 2 * k24.sz + j % 2 = 0 + j by show j / 2 * 2 + j % 2 = 0 + j; omega] at h3
    exact h3
theorem compact_none (w : World) : Calls Try.prog 12 #[.slice none 0 0] w fun e w' => e = .returned (.slice none 0 0) ∧ w' = w := by
  go_enter Try.func12, Try.ntmps12
  go_wp2
  go_ret
  exact ⟨rfl, rfl⟩
def sortedL (xs : List S24) : List S24 := let d := (xs.mergeSort fun x y => !(ltS) y x).toArray; compactUpTo d d.size

theorem info24 : (Try.prog.info? 24).map (fun i => (i.zero, i.size, i.bytes)) = some (some (.agg #[(.int .i64 0), (.int .i64 0)]), 2, 16) := by kernel_rfl
/-- Sort, then compact: from a row of the call's own to a row that is read. -/
theorem sort_compact_R (v : Value) (xs : List S24) (W : World) (w : World) (h : Kd.R k24 31 W w.heap.size (fun _ => True) v xs) (hB : Bel w.heap.size w W) (hn : xs.length ≤ 1000) :
    Calls Try.prog 11 #[v, .func (.func 10) #[] #[]] W fun e w' => e = .returned (.tuple #[]) ∧ Calls Try.prog 12 #[v] w' fun e2 w2 => ∃ A c, e2 = .returned (.slice A (sortedL xs).length c) ∧ (sortedL xs).length ≤ xs.length ∧ Bel w.heap.size w w2 ∧ Kd.C k24 w2 A (sortedL xs).length (sortedL xs) := by
  rcases row_cases h with ⟨rfl, rfl⟩ | ⟨g, cap, rfl, hg, hlt, hcap, hH⟩
  · refine (show Calls Try.prog 11 #[.slice none 0 0, .func (.func 10) #[] #[]] W _ from AnyF.slices_SortFunc_none Try.sortL none 0 _ W).mono ?_
    rintro e w' ⟨rfl, rfl⟩
    refine ⟨rfl, (compact_none w').mono ?_⟩
    rintro e w2 ⟨rfl, rfl⟩
    exact ⟨none, 0, by simp [sortedL, compactUpTo], by simp [sortedL, compactUpTo], hB, by simp [sortedL, compactUpTo], by simp [sortedL, compactUpTo], fun h => by simp [sortedL, compactUpTo] at h⟩
  · refine (sort_calls g cap xs W hH hlt hn).mono ?_
    rintro e w' ⟨rfl, hH', hsz, hb⟩
    refine ⟨rfl, ?_⟩
    have hB' := hb _ _ hB hB.size hg
    have el : (xs.mergeSort fun x y => !(ltS) y x).toArray.size = xs.length := by simp
    have hc := compact_calls g cap _ w' hH' (by rw [el]; exact hcap) (by rw [el]; exact hn)
    rw [el] at hc
    refine hc.mono ?_
    rintro e w2 ⟨rfl, hs, hcell⟩
    have e2 : compactUpTo (xs.mergeSort fun x y => !(ltS) y x).toArray xs.length = sortedL xs := by unfold sortedL; simp only [el]
    rw [e2] at hcell ⊢
    have hle : (sortedL xs).length ≤ xs.length := by
      rw [← e2]; unfold compactUpTo
      rw [List.length_map]
      exact Nat.le_trans (List.length_filter_le _ _) (by simp)
    refine ⟨_, _, rfl, hle, hs.2 _ _ hB' hB'.size hg, rfl, by omega, fun _ => ⟨⟨g, 0, none⟩, rfl, fun j p hp => ⟨enc2 p, rfl, k24_mk w2 p, fun i u hu => ?_⟩⟩⟩
    have ha : ∀ k, Addr.add ⟨g, 0, none⟩ k = ⟨g, k, none⟩ := fun k => by unfold Addr.add; split <;> simp_all
    rw [ha]
    obtain ⟨c0, c1⟩ := hcell j p hp
    match i, hu with
    | 0, hu => rw [← (show _ = u by simpa [enc2] using hu)]; exact c0
    | 1, hu => rw [← (show _ = u by simpa [enc2] using hu)]; exact c1
    | i + 2, hu => simp [enc2] at hu
set_option maxHeartbeats 1000000 in
set_option maxRecDepth 100000 in
theorem order_sorted (A : Option Addr) (c : Nat) (xs : List S24) (w : World) (hr : Kd.C k24 w A xs.length xs) (hc : xs.length ≤ c) (hn : xs.length ≤ 1000) :
    Calls Try.prog 7 #[.slice A xs.length c] w fun e w' => ∃ v, e = .returned v ∧ Kd.R k24 24 w' w.heap.size (fun _ => True) v (sortedL xs) ∧ Below w.heap.size w w' := by
  have HR := Aside0.mk hr
  have HB := Aside0.mk (Below.refl w.heap.size w)
  clear hr
  go_enter Try.func7, Try.ntmps7
  go_wp2
  go_loopw [3, 11] (fun v i wr => ∃ k : Nat, k ≤ xs.length ∧ i = .int .i64 k ∧ Aside0 (Kd.R k24 31 wr w.heap.size (fun _ => True) v (xs.take k)) ∧ Aside0 (Below w.heap.size w wr)) (fun _ i _ => xs.length - (intOf i).toNat)
  case atStart => exact ⟨0, Nat.zero_le _, rfl, ⟨Kd.R_nil _ _ _ _ _⟩, HB⟩
  case round =>
    obtain ⟨k, hk, rfl, HO, HB'⟩ := hrel
    by_cases hlt : k < xs.length
    · have hlt' : (k : Int) < (xs.length : Int) := by omega
      obtain ⟨ad, e, x0, x1⟩ := at_T24 HR.out (k : Int) (by omega) (by omega)
      cases e
      replace x0 := (HB'.out.cell (World.block_lt_of_cell? w _ x0)).trans x0
      replace x1 := (HB'.out.cell (World.block_lt_of_cell? w _ x1)).trans x1
      obtain ⟨p, hp⟩ : ∃ p : S24, rd_T24 xs (k : Int) = p := ⟨_, rfl⟩
      have hsnoc : xs.take (k + 1) = xs.take k ++ [p] := by
        rw [← hp, rd_T24, Int.toNat_natCast, List.take_succ_eq_append_getElem hlt, List.getD_eq_getElem?_getD, List.getElem?_eq_getElem hlt]; rfl
      rw [hp] at x0 x1
      simp only [Int.toNat_natCast] at x0 x1
      have HS := Aside0.mk hsnoc
      clear hsnoc hp
      have hkl : (xs.take k).length ≤ k := List.length_take_le _ _
      go_wp2_with ((with_reducible refine gate_builtin (b := .append) (xs := #[.tmp 15, .tmp 17]) rfl ?_); at_builtin; refine Kd.R_append k24 (w0 := w) w.heap.size rfl (.tmp 15) (.tmp 17) 33 31 (.agg #[(.int .i64 0), (.int .i64 0)]) 16 rfl Try.underlying33 info31 rfl (by decide) (by omega) u3 (xs.take k) p [.int .i64 p.f0, .int .i64 p.f1] (fun _ => True) (fun _ => False) rfl ?aX (k24_mkM _ _ _ p) (fun _ hk => hk.elim) (fun _ _ => trivial) ?aO ?aB ?aS ?aL ?_)
      case aX => simp [Act.eval]
      case aO => exact (by (with_reducible repeat (first | apply Kd.R_alloc | apply Kd.R_drewN | apply Kd.R_drew)); exact HO.out)
      case aB => exact (by repeat (first | (with_reducible first | exact HB'.out | apply below_alloc) | exact HB'.out))
      case aS => exact (below_size (by repeat (first | (with_reducible first | exact HB'.out | apply below_alloc) | exact HB'.out)))
      case aL => omega
      intro v1 w1 ho hb hg hat
      rw [← HS.out] at ho
      have n1 := Aside0.mk ho
      have n2 := Aside0.mk hb
      clear ho hb hg hat
      go_wp2
      go_roundw
      case rel => exact ⟨k + 1, by omega, by go_num, n1, n2⟩
      case measure => simp [intOf]; omega
    · have hge : k = xs.length := by omega
      subst hge
      rw [List.take_length] at HO
      have HSC := Aside0.mk (sort_compact_R u3 xs wr w HO.out HB'.out hn)
      clear HO
      go_wp2_with (first | (go_at_call 11; refine HSC.out.mono ?_; clear HSC; rintro e w' ⟨rfl, HC⟩; replace HC := Aside0.mk HC) | (go_at_call 12; refine HC.out.mono ?_; clear HC; rintro e w2 ⟨A2, c2, rfl, hle2, HB2, HC2⟩; replace HB2 := Aside0.mk HB2; replace HC2 := Aside0.mk HC2))
      generalize hys : sortedL xs = ys at HB2 HC2 hle2
      go_loopw [6, 25] (fun v i wq => ∃ k : Nat, k ≤ ys.length ∧ i = .int .i64 k ∧ Aside0 (Kd.R k24 24 wq w2.heap.size (fun _ => True) v (ys.take k)) ∧ Aside0 (Go.RowKit.Below w2.heap.size w2 wq)) (fun _ i _ => ys.length - (intOf i).toNat)
      case atStart => exact ⟨0, Nat.zero_le _, rfl, ⟨Kd.R_nil _ _ _ _ _⟩, ⟨Go.RowKit.Below.refl _ _⟩⟩
      case round =>
        obtain ⟨k, hk, rfl, HO, HB''⟩ := hrel
        by_cases hlt : k < ys.length
        · have hlt' : (k : Int) < (ys.length : Int) := by omega
          obtain ⟨ad, e, x0, x1⟩ := at_T24 HC2.out (k : Int) (by omega) (by omega)
          cases e
          replace x0 := (HB''.out.cell (World.block_lt_of_cell? w2 _ x0)).trans x0
          replace x1 := (HB''.out.cell (World.block_lt_of_cell? w2 _ x1)).trans x1
          obtain ⟨p, hp⟩ : ∃ p : S24, rd_T24 ys (k : Int) = p := ⟨_, rfl⟩
          have hsnoc : ys.take (k + 1) = ys.take k ++ [p] := by
            rw [← hp, rd_T24, Int.toNat_natCast, List.take_succ_eq_append_getElem hlt, List.getD_eq_getElem?_getD, List.getElem?_eq_getElem hlt]; rfl
          rw [hp] at x0 x1
          simp only [Int.toNat_natCast] at x0 x1
          have HS := Aside0.mk hsnoc
          clear hsnoc hp
          have hkl : (ys.take k).length ≤ k := List.length_take_le _ _
          go_wp2_with ((with_reducible refine gate_builtin (b := .append) (xs := #[.tmp 29, .tmp 31]) rfl ?_); at_builtin; refine Kd.R_append k24 (w0 := w2) w2.heap.size rfl (.tmp 29) (.tmp 31) 22 24 (.agg #[(.int .i64 0), (.int .i64 0)]) 16 rfl Try.underlying22 info24 rfl (by decide) (by omega) u6 (ys.take k) p [.int .i64 p.f0, .int .i64 p.f1] (fun _ => True) (fun _ => False) rfl ?aX (k24_mkM _ _ _ p) (fun _ hk => hk.elim) (fun _ _ => trivial) ?aO ?aB ?aS ?aL ?_)
          case aX => simp [Act.eval]
          case aO => exact (by (with_reducible repeat (first | apply Kd.R_alloc | apply Kd.R_drewN | apply Kd.R_drew)); exact HO.out)
          case aB => exact (by repeat (first | (with_reducible first | exact HB''.out | apply below_alloc) | exact HB''.out))
          case aS => exact (below_size (by repeat (first | (with_reducible first | exact HB''.out | apply below_alloc) | exact HB''.out)))
          case aL => omega
          intro v1 w1 ho hb hg hat
          rw [← HS.out] at ho
          have n1 := Aside0.mk ho
          have n2 := Aside0.mk hb
          clear ho hb hg hat
          go_wp2
          go_roundw
          case rel => exact ⟨k + 1, by omega, by go_num, n1, n2⟩
          case measure => simp [intOf]; omega
        · have hge : k = ys.length := by omega
          subst hge
          rw [List.take_length] at HO
          go_wp2
          go_ret
          exact ⟨_, rfl, by rw [hys]; exact Kd.R_lower HO.out HB2.out.size, HB2.out.trans (HB''.out.mono HB2.out.size)⟩
end Go.Proofs.Ytijppfogcieemaa.Z

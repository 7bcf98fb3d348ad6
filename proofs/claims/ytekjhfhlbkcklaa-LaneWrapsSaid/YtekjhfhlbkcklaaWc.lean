/-
  LaneWraps, walked.
-/
import Derived.Test.YtekjhfhlbkcklaaWb
set_option linter.unusedVariables false
set_option linter.unusedSimpArgs false
namespace Go.Proofs.Ytekjhfhlbkcklaa.L
open Go.RowKit Go.Proofs.Ytekjhfhlbkcklaa.K Go.Proofs.Ytekjhfhlbkcklaa.PA Go.Proofs.YtekjhfhlbkcklaaW.PrintWords
attribute [local go_sem ↓] Go.wp_at_zero Go.wp_at_succ
set_option maxHeartbeats 4000000 in
set_option maxRecDepth 100000 in
theorem wraps_calls (w : World) (cr s : Int) (two : Bool) (hcr0 : 0 ≤ cr) (hcr1 : cr ≤ 255) (s0 : 0 ≤ s) (s1 : s < 18446744073709551616) (A0 : Option Addr) (cap : Nat) (xs : List OpT) (hxs : Kd.C kOp w A0 xs.length xs) (hok : ∀ o ∈ xs, okOp o) :
    Calls Try.prog 7 #[.int .u8 cr, .bool two, .int .u64 s, .slice A0 xs.length cap] w fun e_ w' => e_ = .returned (.bool true) ∧ Below w.heap.size w w' := by
  obtain ⟨n, hn⟩ : ∃ n : Nat, cr % 64 + 1 = n := ⟨(cr % 64 + 1).toNat, by omega⟩
  have hn1 : 1 ≤ n := by omega
  have hn2 : n ≤ 64 := by omega
  have hu := Try.underlying34
  have hu4 := Try.underlying42
  have hu5 := Try.underlying40
  have HX := Aside0.mk hxs
  have HOK := Aside0.mk hok
  have HS := Aside0.mk (And.intro s0 s1)
  clear hxs hok s0 s1
  go_enter Try.func7, Try.ntmps7
  go_upto_region 5 with (first
    | (go_at_call 9; refine (awake_calls _).mono ?_; rintro e_ w0 ⟨rfl, hb0⟩; have HB0 := Aside0.mk hb0; clear hb0)
    | (go_at_call 10; refine (new_ls _ n two 0 hn1 hn2 (by omega) (by omega)).mono ?_; rintro e_ w1 ⟨ba, ma, rfl, h1, h2, h3, h4⟩; have L1 := Aside0.mk h1; have N1 := Aside0.mk (And.intro h2 h3); have HB1 := Aside0.mk h4; clear h1 h2 h3 h4))
  go_upto_region 6 with (first
    | (go_at_call 10; refine (new_ls _ n two s hn1 hn2 HS.out.1 HS.out.2).mono ?_; rintro e_ w2 ⟨bb, mb, rfl, h1, h2, h3, h4⟩; have L2 := Aside0.mk h1; have N2 := Aside0.mk (And.intro h2 h3); have HB2 := Aside0.mk h4; clear h1 h2 h3 h4))
  have HD2 : Aside0 (Duo2 0 s w2 ba ma bb mb ⟨n, two, 0, 0, 0, 0, 0, [], []⟩) := by
    have h1 := L1.out.lt; have h2 := L1.out.mlt; have h3 := N2.out
    exact ⟨L1.out.below HB2.out, L2.out, by omega, by omega, by omega, by omega⟩
  have HBw := Aside0.mk (below_then (below_then HB0.out HB0.out.size HB1.out) (by have := HB0.out.size; have := HB1.out.size; omega) HB2.out)
  have HN : Aside0 (∀ k, In4 ba ma bb mb k → w.heap.size ≤ k) := by
    refine ⟨fun k hk => ?_⟩
    have h1 := N1.out; have h2 := N2.out; have h3 := HB0.out.size; have h4 := HB1.out.size
    rcases hk with (e | e) | (e | e) <;> omega
  clear L1 L2 N1 N2 HB0 HB1 HB2 hn hn1 hn2 hcr0 hcr1
  go_wp2
  go_loopw [14] (fun v14 wr => ∃ (k : Nat) (A : AL), v14 = .int .i64 k ∧ k ≤ 60 ∧ k ≤ xs.length ∧ A.t ≤ k ∧ Aside0 (Duo2 0 s wr ba ma bb mb A) ∧ Aside0 (Below w.heap.size w wr)) (fun v14 _ => 60 - (intOf v14).toNat)
  case atStart => exact ⟨0, _, rfl, Nat.zero_le _, Nat.zero_le _, Nat.le_refl _, HD2, HBw⟩
  case round =>
    obtain ⟨k, A, rfl, hk60, hkx, hkt, HD, HB⟩ := hrel
    by_cases h60 : k < 60
    · by_cases hlt : k < xs.length
      · obtain ⟨ad, o, hA0, hxk, c0, c1, c2, c3, c4, c5, c6⟩ := op_at (Kd.C_below HX.out HB.out) hlt
        subst hA0
        have hoo := HOK.out o (List.mem_of_getElem? hxk)
        obtain ⟨ok, ⟨tq, te⟩, ⟨sn, sg⟩, ⟨at1, at2⟩⟩ := o
        dsimp only at c0 c1 c2 c3 c4 c5 c6
        have HTQ := Aside0.mk (show 0 ≤ tq ∧ tq < 18446744073709551616 by have h_ : 0 ≤ tq ∧ tq ≤ 18446744073709551615 := bounds_u64 hoo.2.1.1; omega)
        clear hxk hoo
        obtain ⟨tp, hp⟩ : ∃ tp, IntKind.u64.wrap (tq + s) = tp := ⟨_, rfl⟩
        go_upto_region 14 with fail
        have HDx := (HD.out.alloc (.cells (opCells (ok, (tq, te), (sn, sg), (at1, at2))).toArray 40)).alloc (.cells (opCells (ok, (tp, te), (sn, sg), (at1, at2))).toArray 40)
        have HBx := (HB.out.alloc HB.out.size (.cells (opCells (ok, (tq, te), (sn, sg), (at1, at2))).toArray 40)).alloc (by have := HB.out.size; simp; omega) (.cells (opCells (ok, (tp, te), (sn, sg), (at1, at2))).toArray 40)
        have HG0x := (blk_new wr (opCells (ok, (tq, te), (sn, sg), (at1, at2))) 40).alloc (.cells (opCells (ok, (tp, te), (sn, sg), (at1, at2))).toArray 40)
        have HG1x := blk_new1 wr (.cells (opCells (ok, (tq, te), (sn, sg), (at1, at2))).toArray 40) (opCells (ok, (tp, te), (sn, sg), (at1, at2))) 40
        change Code.wp _ _ _ _ ((wr.alloc (.cells (opCells (ok, (tq, te), (sn, sg), (at1, at2))).toArray 40)).alloc (.cells (opCells (ok, (tp, te), (sn, sg), (at1, at2))).toArray 40))
        generalize hW : (wr.alloc (.cells (opCells (ok, (tq, te), (sn, sg), (at1, at2))).toArray 40)).alloc (.cells (opCells (ok, (tp, te), (sn, sg), (at1, at2))).toArray 40) = W at HDx HBx HG0x HG1x ⊢
        have HDW := Aside0.mk HDx
        have HBW := Aside0.mk HBx
        have HPE := Aside0.mk hp
        clear hW HDx HBx HD HB c0 c1 c2 c3 c4 c5 c6 hp
        have d0 : W.cell? ⟨wr.heap.size, 0, none⟩ = some (.int .i64 ok) := HG0x.cell rfl
        have d1 : W.cell? ⟨wr.heap.size, 1, none⟩ = some (.int .u64 tq) := HG0x.cell rfl
        have d2 : W.cell? ⟨wr.heap.size, 2, none⟩ = some (.int .u64 te) := HG0x.cell rfl
        have d3 : W.cell? ⟨wr.heap.size, 3, none⟩ = some (.int .i64 sn) := HG0x.cell rfl
        have d4 : W.cell? ⟨wr.heap.size, 4, none⟩ = some (.int .u64 sg) := HG0x.cell rfl
        have d5 : W.cell? ⟨wr.heap.size, 5, none⟩ = some (.int .i64 at1) := HG0x.cell rfl
        have d6 : W.cell? ⟨wr.heap.size, 6, none⟩ = some (.int .i64 at2) := HG0x.cell rfl
        have g0 : W.cell? ⟨wr.heap.size + 1, 0, none⟩ = some (.int .i64 ok) := HG1x.cell rfl
        have g1 : W.cell? ⟨wr.heap.size + 1, 1, none⟩ = some (.int .u64 tp) := HG1x.cell rfl
        have g2 : W.cell? ⟨wr.heap.size + 1, 2, none⟩ = some (.int .u64 te) := HG1x.cell rfl
        have g3 : W.cell? ⟨wr.heap.size + 1, 3, none⟩ = some (.int .i64 sn) := HG1x.cell rfl
        have g4 : W.cell? ⟨wr.heap.size + 1, 4, none⟩ = some (.int .u64 sg) := HG1x.cell rfl
        have g5 : W.cell? ⟨wr.heap.size + 1, 5, none⟩ = some (.int .i64 at1) := HG1x.cell rfl
        have g6 : W.cell? ⟨wr.heap.size + 1, 6, none⟩ = some (.int .i64 at2) := HG1x.cell rfl
        clear HG0x HG1x
        have hmv := fun W h => moved_calls W s ba ma bb mb A h (by omega) ok tq te sn sg at1 at2 tp HTQ.out.1 HTQ.out.2 HPE.out
        unfold opCells at hmv
        have HMV := Aside0.mk hmv
        have HSA := Aside0.mk (fun W A h => by have h_ := state_ls 0 W ba ma A h; unfold stateA at h_; exact h_)
        have HSB := Aside0.mk (fun W A h => by have h_ := state_ls s W bb mb A h; unfold stateA at h_; exact h_)
        clear hmv
        go_wp2_with (first
          | (go_at_call 22; (with_reducible refine (HMV.out _ HDW.out).mono ?_); rintro e_ w3 ⟨rfl, A1, hd, ht1, hc⟩; have HD3 := Aside0.mk hd; have HB3 := Aside0.mk (below_chg HBW.out hc HN.out); have HT1 := Aside0.mk ht1; clear hd ht1 hc)
          | (go_at_call 13; (with_reducible refine (HSA.out _ A1 HD3.out.la).mono ?_); rintro e_ w4 ⟨rfl, hs, hb⟩; have HD4 := Aside0.mk (HD3.out.below hb); have HB4 := Aside0.mk (below_step HB3.out hb); clear hs hb)
          | (go_at_call 13; (with_reducible refine (HSB.out _ A1 HD4.out.lb).mono ?_); rintro e_ w5 ⟨rfl, hs, hb⟩; have HD5 := Aside0.mk (HD4.out.below hb); have HB5 := Aside0.mk (below_step HB4.out hb); clear hs hb))
        go_roundw
        case rel => exact ⟨k + 1, A1, by go_num, by omega, by omega, by have := HT1.out; omega, ⟨HD5.out⟩, ⟨HB5.out⟩⟩
        case measure => simp [intOf]; omega
      · go_wp2
        go_ret
        exact ⟨rfl, HB.out⟩
    · by_cases hlt : k < xs.length
      · go_wp2
        go_ret
        exact ⟨rfl, HB.out⟩
      · go_wp2
        go_ret
        exact ⟨rfl, HB.out⟩
end Go.Proofs.Ytekjhfhlbkcklaa.L

/-
  LaneWraps: a call of two lanes whose numbers are moved.
-/
import Derived.Test.YtekjhfhlbkcklaaWa
set_option linter.unusedVariables false
set_option linter.unusedSimpArgs false
namespace Go.Proofs.Ytekjhfhlbkcklaa.L
open Go.RowKit Go.Proofs.Ytekjhfhlbkcklaa.K Go.Proofs.Ytekjhfhlbkcklaa.PA Go.Proofs.YtekjhfhlbkcklaaW.PrintWords
attribute [local go_sem ↓] Go.wp_at_zero Go.wp_at_succ

set_option maxHeartbeats 8000000 in
set_option maxRecDepth 100000 in
theorem moved_calls (w : World) (s : Int) (ba ma bb mb : Nat) (A : AL) (hD : Duo2 0 s w ba ma bb mb A) (ht : A.t < 1000) (ok tq te sn sg at1 at2 tp : Int) (h0 : 0 ≤ tq) (h1 : tq < 18446744073709551616) (hp : IntKind.u64.wrap (tq + s) = tp) :
    Calls Try.prog 22 #[.pointer (some ⟨ba, 0, none⟩), .pointer (some ⟨bb, 0, none⟩), .agg (opCells (ok, (tq, te), (sn, sg), (at1, at2))).toArray, .agg (opCells (ok, (tp, te), (sn, sg), (at1, at2))).toArray, .int .u64 s] w fun e_ w' =>
      e_ = .returned (.bool true) ∧ ∃ A', Duo2 0 s w' ba ma bb mb A' ∧ A'.t ≤ A.t + 1 ∧ Chg (In4 ba ma bb mb) w w' := by
  have hu := Try.underlying34
  have hu2 := Try.underlying36
  have hu3 := Try.underlying38
  have hu5 := Try.underlying40
  have l1 := hD.la.lt
  have l2 := hD.la.mlt
  have l3 := hD.lb.lt
  have l4 := hD.lb.mlt
  have HN0 : Aside0 (¬ In4 ba ma bb mb w.heap.size) := ⟨by rintro ((e | e) | (e | e)) <;> omega⟩
  have HN1 : Aside0 (¬ In4 ba ma bb mb (w.heap.size + 1)) := ⟨by rintro ((e | e) | (e | e)) <;> omega⟩
  have HTQ := Aside0.mk (And.intro h0 h1)
  have HTP := Aside0.mk hp
  have htp := u64_in (tq + s)
  rw [hp] at htp
  have HTR := Aside0.mk htp
  have HD := Aside0.mk hD
  clear hD l1 l2 l3 l4 h0 h1 hp htp
  unfold opCells
  go_enter Try.func22, Try.ntmps22
  go_upto_region 1 with fail
  have HDx := (HD.out.alloc (.cells (opCells (ok, (tq, te), (sn, sg), (at1, at2))).toArray 40)).alloc (.cells (opCells (ok, (tp, te), (sn, sg), (at1, at2))).toArray 40)
  have HCx := ((Chg.refl (In4 ba ma bb mb) w).alloc (.cells (opCells (ok, (tq, te), (sn, sg), (at1, at2))).toArray 40)).alloc (.cells (opCells (ok, (tp, te), (sn, sg), (at1, at2))).toArray 40)
  have HG0x := (blk_new w (opCells (ok, (tq, te), (sn, sg), (at1, at2))) 40).alloc (.cells (opCells (ok, (tp, te), (sn, sg), (at1, at2))).toArray 40)
  have HG1x := blk_new1 w (.cells (opCells (ok, (tq, te), (sn, sg), (at1, at2))).toArray 40) (opCells (ok, (tp, te), (sn, sg), (at1, at2))) 40
  change Code.wp _ _ _ _ ((w.alloc (.cells (opCells (ok, (tq, te), (sn, sg), (at1, at2))).toArray 40)).alloc (.cells (opCells (ok, (tp, te), (sn, sg), (at1, at2))).toArray 40))
  generalize hW : (w.alloc (.cells (opCells (ok, (tq, te), (sn, sg), (at1, at2))).toArray 40)).alloc (.cells (opCells (ok, (tp, te), (sn, sg), (at1, at2))).toArray 40) = W at HDx HCx HG0x HG1x ⊢
  have HDW := Aside0.mk HDx
  have HCW := Aside0.mk HCx
  have HG0 := Aside0.mk HG0x
  have HG1 := Aside0.mk HG1x
  clear hW HDx HCx HG0x HG1x HD
  have a0 : W.cell? ⟨w.heap.size, 0, none⟩ = some (.int .i64 ok) := HG0.out.cell rfl
  by_cases k1 : ok = 1
  · subst k1
    by_cases hf : A.c ≤ A.q.length + A.old.length
    · have hE0 : claimA 0 A = ((0, 0, 81), A) := by unfold claimA; rw [if_pos hf]
      have hE1 : claimA s A = ((0, 0, 81), A) := by unfold claimA; rw [if_pos hf]
      have hca := fun W h => claim_ls 0 W ba ma A h ht
      have hcb := fun W h => claim_ls s W bb mb A h ht
      rw [hE0] at hca
      rw [hE1] at hcb
      dsimp only at hca hcb
      have HCA := Aside0.mk hca
      have HCB := Aside0.mk hcb
      clear hca hcb hE0 hE1
      go_wp2_with (first
        | (go_at_call 15; (with_reducible refine (HCA.out _ ?side).mono ?_); (case side => exact (by repeat (first | with_reducible exact HDW.out.la | apply LS.drewN | apply LS.drew | apply LS.alloc))); rintro e_ w3 ⟨rfl, hs, hc0⟩; have hc : TwoB ba ma W w3 := (by first | exact hc0 | exact Chg.of_drew hc0 | exact Chg.of_drewN hc0); clear hc0; have HD3 := Aside0.mk (HDW.out.turnA hs hc); have HC3 := Aside0.mk (HCW.out.trans (chgA (bb := bb) (mb := mb) hc)); have HG03 := Aside0.mk (HG0.out.chg (chgA (bb := bb) (mb := mb) hc) HN0.out); have HG13 := Aside0.mk (HG1.out.chg (chgA (bb := bb) (mb := mb) hc) HN1.out); have z_w3 := hc.size; clear hs hc)
        | (go_at_call 15; (with_reducible refine (HCB.out _ ?side).mono ?_); (case side => exact (by repeat (first | with_reducible exact (HD3.out.alloc _).lb | apply LS.drewN | apply LS.drew | apply LS.alloc))); rintro e_ w4 ⟨rfl, hs, hc0⟩; have hc : TwoB bb mb (w3.alloc (.cells #[.int .u64 0, .int .u64 0] 34)) w4 := (by first | exact hc0 | exact Chg.of_drew hc0 | exact Chg.of_drewN hc0); clear hc0; have HD4 := Aside0.mk ((HD3.out.alloc _).turnB hs hc); have HC4 := Aside0.mk ((HC3.out.alloc _).trans (chgB (ba := ba) (ma := ma) hc)); have HG04 := Aside0.mk ((HG03.out.alloc _).chg (chgB (ba := ba) (ma := ma) hc) HN0.out); have HG14 := Aside0.mk ((HG13.out.alloc _).chg (chgB (ba := ba) (ma := ma) hc) HN1.out); have z_w4 := hc.size; simp only [World.size_alloc] at z_w4; have u0 := HD3.out.lb.lt; have u1 := HD3.out.lb.mlt;  have t00 : w4.cell? ⟨w3.heap.size, 0, none⟩ = some (.int .u64 0) := hc.cell (by go_simp) (not_two (by simp; omega) (by simp; omega)); have t01 : w4.cell? ⟨w3.heap.size, 1, none⟩ = some (.int .u64 0) := hc.cell (by go_simp) (not_two (by simp; omega) (by simp; omega)); have y0 : w3.heap.size < w4.heap.size := (by omega); have y0b : w3.heap.size ≠ w4.heap.size := (by omega); have y0c : w3.heap.size < w4.heap.size + 1 := (by omega); have y0d : w3.heap.size ≠ w4.heap.size + 1 := (by omega); clear hs hc u0 u1))
      go_ret
      exact ⟨rfl, A, (HD4.out.alloc _), by omega, (HC4.out.alloc _)⟩
    · have hXY := wr_num s A.t
      obtain ⟨X, hX⟩ : ∃ X, sq 0 A.t = X := ⟨_, rfl⟩
      obtain ⟨Y, hY⟩ : ∃ Y, sq s A.t = Y := ⟨_, rfl⟩
      obtain ⟨A1, hA1⟩ : ∃ A1 : AL, { A with q := A.q ++ [⟨1, 0, 0, 0, 0⟩], t := A.t + 1 } = A1 := ⟨_, rfl⟩
      have ht1 : A1.t = A.t + 1 := by rw [← hA1]
      rw [hX, hY] at hXY
      have hE0 : claimA 0 A = ((X, A.epoch, 0), A1) := by unfold claimA; rw [if_neg hf, hX, hA1]
      have hE1 : claimA s A = ((Y, A.epoch, 0), A1) := by unfold claimA; rw [if_neg hf, hY, hA1]
      have hca := fun W h => claim_ls 0 W ba ma A h ht
      have hcb := fun W h => claim_ls s W bb mb A h ht
      rw [hE0] at hca
      rw [hE1] at hcb
      dsimp only at hca hcb
      have HT1 := Aside0.mk ht1
      have HCA := Aside0.mk hca
      have HCB := Aside0.mk hcb
      clear hca hcb hE0 hE1
      clear hX hY hA1 ht1
      go_wp2_with (first
        | (go_at_call 15; (with_reducible refine (HCA.out _ ?side).mono ?_); (case side => exact (by repeat (first | with_reducible exact HDW.out.la | apply LS.drewN | apply LS.drew | apply LS.alloc))); rintro e_ w3 ⟨rfl, hs, hc0⟩; have hc : TwoB ba ma W w3 := (by first | exact hc0 | exact Chg.of_drew hc0 | exact Chg.of_drewN hc0); clear hc0; have HD3 := Aside0.mk (HDW.out.turnA hs hc); have HC3 := Aside0.mk (HCW.out.trans (chgA (bb := bb) (mb := mb) hc)); have HG03 := Aside0.mk (HG0.out.chg (chgA (bb := bb) (mb := mb) hc) HN0.out); have HG13 := Aside0.mk (HG1.out.chg (chgA (bb := bb) (mb := mb) hc) HN1.out); have z_w3 := hc.size; clear hs hc)
        | (go_at_call 15; (with_reducible refine (HCB.out _ ?side).mono ?_); (case side => exact (by repeat (first | with_reducible exact (HD3.out.alloc _).lb | apply LS.drewN | apply LS.drew | apply LS.alloc))); rintro e_ w4 ⟨rfl, hs, hc0⟩; have hc : TwoB bb mb (w3.alloc (.cells #[.int .u64 X, .int .u64 A.epoch] 34)) w4 := (by first | exact hc0 | exact Chg.of_drew hc0 | exact Chg.of_drewN hc0); clear hc0; have HD4 := Aside0.mk ((HD3.out.alloc _).turnB hs hc); have HC4 := Aside0.mk ((HC3.out.alloc _).trans (chgB (ba := ba) (ma := ma) hc)); have HG04 := Aside0.mk ((HG03.out.alloc _).chg (chgB (ba := ba) (ma := ma) hc) HN0.out); have HG14 := Aside0.mk ((HG13.out.alloc _).chg (chgB (ba := ba) (ma := ma) hc) HN1.out); have z_w4 := hc.size; simp only [World.size_alloc] at z_w4; have u0 := HD3.out.lb.lt; have u1 := HD3.out.lb.mlt;  have t00 : w4.cell? ⟨w3.heap.size, 0, none⟩ = some (.int .u64 X) := hc.cell (by go_simp) (not_two (by simp; omega) (by simp; omega)); have t01 : w4.cell? ⟨w3.heap.size, 1, none⟩ = some (.int .u64 A.epoch) := hc.cell (by go_simp) (not_two (by simp; omega) (by simp; omega)); have y0 : w3.heap.size < w4.heap.size := (by omega); have y0b : w3.heap.size ≠ w4.heap.size := (by omega); have y0c : w3.heap.size < w4.heap.size + 1 := (by omega); have y0d : w3.heap.size ≠ w4.heap.size + 1 := (by omega); clear hs hc u0 u1))
      go_ret
      exact ⟨rfl, A1, (HD4.out.alloc _), by have := HT1.out; omega, (HC4.out.alloc _)⟩
  · skip
    by_cases k2 : ok = 2
    · subst k2
      have a1 : W.cell? ⟨w.heap.size, 1, none⟩ = some (.int .u64 tq) := HG0.out.cell rfl
      have a2 : W.cell? ⟨w.heap.size, 2, none⟩ = some (.int .u64 te) := HG0.out.cell rfl
      have a3 : W.cell? ⟨w.heap.size, 3, none⟩ = some (.int .i64 sn) := HG0.out.cell rfl
      have a4 : W.cell? ⟨w.heap.size, 4, none⟩ = some (.int .u64 sg) := HG0.out.cell rfl
      have b1 : W.cell? ⟨w.heap.size + 1, 1, none⟩ = some (.int .u64 tp) := HG1.out.cell rfl
      have b2 : W.cell? ⟨w.heap.size + 1, 2, none⟩ = some (.int .u64 te) := HG1.out.cell rfl
      have hE1 := wr_lay s A tq te sn sg
      rw [HTP.out] at hE1
      have hca := fun W h => lay_ls 0 W ba ma A h tq te sn sg HTQ.out.1 HTQ.out.2
      have hcb := fun W h => lay_ls s W bb mb A h tp te sn sg HTR.out.1 HTR.out.2
      rw [hE1] at hcb
      have ht' := lay_t 0 A tq te sn sg
      obtain ⟨⟨A1, x⟩, hx⟩ : ∃ x, layA 0 A tq te sn sg = x := ⟨_, rfl⟩
      rw [hx] at hca hcb ht'
      dsimp only at hca hcb ht'
      have HCA := Aside0.mk hca
      have HCB := Aside0.mk hcb
      have HT1 := Aside0.mk ht'
      clear hca hcb hx hE1 ht'
      go_wp2
      go_region_held3 (fun w' => w'.cell? ⟨w.heap.size, 1, none⟩ = some (.int .u64 tq) ∧ w'.cell? ⟨w.heap.size, 2, none⟩ = some (.int .u64 te) ∧ w'.cell? ⟨w.heap.size, 3, none⟩ = some (.int .i64 sn) ∧ w'.cell? ⟨w.heap.size, 4, none⟩ = some (.int .u64 sg) ∧ w'.cell? ⟨w.heap.size + 1, 1, none⟩ = some (.int .u64 tp) ∧ w'.cell? ⟨w.heap.size + 1, 2, none⟩ = some (.int .u64 te))
        (first
        | exact ⟨a1, a2, a3, a4, b1, b2⟩
        | exact ⟨HG03.out.cell rfl, HG03.out.cell rfl, HG03.out.cell rfl, HG03.out.cell rfl, HG13.out.cell rfl, HG13.out.cell rfl⟩
        | exact ⟨HG04.out.cell rfl, HG04.out.cell rfl, HG04.out.cell rfl, HG04.out.cell rfl, HG14.out.cell rfl, HG14.out.cell rfl⟩)
        (first
          | (go_at_call 16; (with_reducible refine (HCB.out _ ?side).mono ?_); (case side => exact (by repeat (first | with_reducible exact HD3.out.lb | apply LS.drewN | apply LS.drew | apply LS.alloc))); rintro e_ w4 ⟨rfl, hs, hc0⟩; have hc : TwoB bb mb w3 w4 := (by first | exact hc0 | exact Chg.of_drew hc0 | exact Chg.of_drewN hc0); clear hc0; have HD4 := Aside0.mk (HD3.out.turnB hs hc); have HC4 := Aside0.mk (HC3.out.trans (chgB (ba := ba) (ma := ma) hc)); have HG04 := Aside0.mk (HG03.out.chg (chgB (ba := ba) (ma := ma) hc) HN0.out); have HG14 := Aside0.mk (HG13.out.chg (chgB (ba := ba) (ma := ma) hc) HN1.out); have z_w4 := hc.size; clear hs hc)
          | (go_at_call 16; (with_reducible refine (HCA.out _ ?side).mono ?_); (case side => exact (by repeat (first | with_reducible exact HDW.out.la | apply LS.drewN | apply LS.drew | apply LS.alloc))); rintro e_ w3 ⟨rfl, hs, hc0⟩; have hc : TwoB ba ma W w3 := (by first | exact hc0 | exact Chg.of_drew hc0 | exact Chg.of_drewN hc0); clear hc0; have HD3 := Aside0.mk (HDW.out.turnA hs hc); have HC3 := Aside0.mk (HCW.out.trans (chgA (bb := bb) (mb := mb) hc)); have HG03 := Aside0.mk (HG0.out.chg (chgA (bb := bb) (mb := mb) hc) HN0.out); have HG13 := Aside0.mk (HG1.out.chg (chgA (bb := bb) (mb := mb) hc) HN1.out); have z_w3 := hc.size; clear hs hc))
      go_wp2
      go_ret
      exact ⟨rfl, A1, HD4.out, by have := HT1.out; omega, HC4.out⟩
    · skip
      by_cases k3 : ok = 3
      · subst k3
        have a1 : W.cell? ⟨w.heap.size, 1, none⟩ = some (.int .u64 tq) := HG0.out.cell rfl
        have a2 : W.cell? ⟨w.heap.size, 2, none⟩ = some (.int .u64 te) := HG0.out.cell rfl
        have b1 : W.cell? ⟨w.heap.size + 1, 1, none⟩ = some (.int .u64 tp) := HG1.out.cell rfl
        have b2 : W.cell? ⟨w.heap.size + 1, 2, none⟩ = some (.int .u64 te) := HG1.out.cell rfl
        have hE1 := wr_ready s A tq te
        rw [HTP.out] at hE1
        have hca := fun W h => ready_ls 0 W ba ma A h tq te HTQ.out.1 HTQ.out.2
        have hcb := fun W h => ready_ls s W bb mb A h tp te HTR.out.1 HTR.out.2
        rw [hE1] at hcb
        obtain ⟨x, hx⟩ : ∃ x, readyA 0 A tq te = x := ⟨_, rfl⟩
        rw [hx] at hca hcb
        have HCA := Aside0.mk hca
        have HCB := Aside0.mk hcb
        clear hca hcb hx hE1
        go_wp2
        go_region_held3 (fun w' => w'.cell? ⟨w.heap.size, 1, none⟩ = some (.int .u64 tq) ∧ w'.cell? ⟨w.heap.size, 2, none⟩ = some (.int .u64 te) ∧ w'.cell? ⟨w.heap.size + 1, 1, none⟩ = some (.int .u64 tp) ∧ w'.cell? ⟨w.heap.size + 1, 2, none⟩ = some (.int .u64 te))
          (first
          | exact ⟨a1, a2, b1, b2⟩
          | exact ⟨HG03.out.cell rfl, HG03.out.cell rfl, HG13.out.cell rfl, HG13.out.cell rfl⟩
          | exact ⟨HG04.out.cell rfl, HG04.out.cell rfl, HG14.out.cell rfl, HG14.out.cell rfl⟩)
          (first
            | (go_at_call 21; (with_reducible refine (HCB.out _ ?side).mono ?_); (case side => exact (by repeat (first | with_reducible exact HD3.out.lb | apply LS.drewN | apply LS.drew | apply LS.alloc))); rintro e_ w4 ⟨rfl, hs, hc0⟩; have hc : TwoB bb mb w3 w4 := (by first | exact Chg.below hc0 _ | exact Chg.below (below_of_drew hc0) _ | exact Chg.below (below_of_drewN hc0) _); clear hc0; have HD4 := Aside0.mk (HD3.out.turnB hs hc); have HC4 := Aside0.mk (HC3.out.trans (chgB (ba := ba) (ma := ma) hc)); have HG04 := Aside0.mk (HG03.out.chg (chgB (ba := ba) (ma := ma) hc) HN0.out); have HG14 := Aside0.mk (HG13.out.chg (chgB (ba := ba) (ma := ma) hc) HN1.out); have z_w4 := hc.size; clear hs hc)
            | (go_at_call 21; (with_reducible refine (HCA.out _ ?side).mono ?_); (case side => exact (by repeat (first | with_reducible exact HDW.out.la | apply LS.drewN | apply LS.drew | apply LS.alloc))); rintro e_ w3 ⟨rfl, hs, hc0⟩; have hc : TwoB ba ma W w3 := (by first | exact Chg.below hc0 _ | exact Chg.below (below_of_drew hc0) _ | exact Chg.below (below_of_drewN hc0) _); clear hc0; have HD3 := Aside0.mk (HDW.out.turnA hs hc); have HC3 := Aside0.mk (HCW.out.trans (chgA (bb := bb) (mb := mb) hc)); have HG03 := Aside0.mk (HG0.out.chg (chgA (bb := bb) (mb := mb) hc) HN0.out); have HG13 := Aside0.mk (HG1.out.chg (chgA (bb := bb) (mb := mb) hc) HN1.out); have z_w3 := hc.size; clear hs hc))
        go_wp2
        go_ret
        exact ⟨rfl, A, HD4.out, by omega, HC4.out⟩
      · skip
        by_cases k4 : ok = 4
        · subst k4
          have a1 : W.cell? ⟨w.heap.size, 1, none⟩ = some (.int .u64 tq) := HG0.out.cell rfl
          have a2 : W.cell? ⟨w.heap.size, 2, none⟩ = some (.int .u64 te) := HG0.out.cell rfl
          have a5 : W.cell? ⟨w.heap.size, 5, none⟩ = some (.int .i64 at1) := HG0.out.cell rfl
          have a6 : W.cell? ⟨w.heap.size, 6, none⟩ = some (.int .i64 at2) := HG0.out.cell rfl
          have b1 : W.cell? ⟨w.heap.size + 1, 1, none⟩ = some (.int .u64 tp) := HG1.out.cell rfl
          have b2 : W.cell? ⟨w.heap.size + 1, 2, none⟩ = some (.int .u64 te) := HG1.out.cell rfl
          have hE1 := wr_pub s A tq te at1 at2
          rw [HTP.out] at hE1
          have hca := fun W h => publish_ls 0 W ba ma A h tq te at1 at2 HTQ.out.1 HTQ.out.2
          have hcb := fun W h => publish_ls s W bb mb A h tp te at1 at2 HTR.out.1 HTR.out.2
          rw [hE1] at hcb
          have ht' := pub_t 0 A tq te at1 at2
          obtain ⟨⟨A1, x⟩, hx⟩ : ∃ x, pubA 0 A tq te at1 at2 = x := ⟨_, rfl⟩
          rw [hx] at hca hcb ht'
          dsimp only at hca hcb ht'
          have HCA := Aside0.mk hca
          have HCB := Aside0.mk hcb
          have HT1 := Aside0.mk ht'
          clear hca hcb hx hE1 ht'
          go_wp2
          go_region_held3 (fun w' => w'.cell? ⟨w.heap.size, 1, none⟩ = some (.int .u64 tq) ∧ w'.cell? ⟨w.heap.size, 2, none⟩ = some (.int .u64 te) ∧ w'.cell? ⟨w.heap.size, 5, none⟩ = some (.int .i64 at1) ∧ w'.cell? ⟨w.heap.size, 6, none⟩ = some (.int .i64 at2) ∧ w'.cell? ⟨w.heap.size + 1, 1, none⟩ = some (.int .u64 tp) ∧ w'.cell? ⟨w.heap.size + 1, 2, none⟩ = some (.int .u64 te))
            (first
            | exact ⟨a1, a2, a5, a6, b1, b2⟩
            | exact ⟨HG03.out.cell rfl, HG03.out.cell rfl, HG03.out.cell rfl, HG03.out.cell rfl, HG13.out.cell rfl, HG13.out.cell rfl⟩
            | exact ⟨HG04.out.cell rfl, HG04.out.cell rfl, HG04.out.cell rfl, HG04.out.cell rfl, HG14.out.cell rfl, HG14.out.cell rfl⟩)
            (first
              | (go_at_call 20; (with_reducible refine (HCB.out _ ?side).mono ?_); (case side => exact (by repeat (first | with_reducible exact HD3.out.lb | apply LS.drewN | apply LS.drew | apply LS.alloc))); rintro e_ w4 ⟨rfl, hs, hc0⟩; have hc : TwoB bb mb w3 w4 := (by first | exact hc0 | exact Chg.of_drew hc0 | exact Chg.of_drewN hc0); clear hc0; have HD4 := Aside0.mk (HD3.out.turnB hs hc); have HC4 := Aside0.mk (HC3.out.trans (chgB (ba := ba) (ma := ma) hc)); have HG04 := Aside0.mk (HG03.out.chg (chgB (ba := ba) (ma := ma) hc) HN0.out); have HG14 := Aside0.mk (HG13.out.chg (chgB (ba := ba) (ma := ma) hc) HN1.out); have z_w4 := hc.size; clear hs hc)
              | (go_at_call 20; (with_reducible refine (HCA.out _ ?side).mono ?_); (case side => exact (by repeat (first | with_reducible exact HDW.out.la | apply LS.drewN | apply LS.drew | apply LS.alloc))); rintro e_ w3 ⟨rfl, hs, hc0⟩; have hc : TwoB ba ma W w3 := (by first | exact hc0 | exact Chg.of_drew hc0 | exact Chg.of_drewN hc0); clear hc0; have HD3 := Aside0.mk (HDW.out.turnA hs hc); have HC3 := Aside0.mk (HCW.out.trans (chgA (bb := bb) (mb := mb) hc)); have HG03 := Aside0.mk (HG0.out.chg (chgA (bb := bb) (mb := mb) hc) HN0.out); have HG13 := Aside0.mk (HG1.out.chg (chgA (bb := bb) (mb := mb) hc) HN1.out); have z_w3 := hc.size; clear hs hc))
          go_wp2
          go_ret
          exact ⟨rfl, A1, HD4.out, by have := HT1.out; omega, HC4.out⟩
        · skip
          by_cases k6 : ok = 6
          · subst k6
            by_cases hf : A.h = A.r
            · have hE0 : takeA 0 A = ((0, 0, 0, 0, 82), A) := by unfold takeA; rw [if_pos hf]
              have hE1 : takeA s A = ((0, 0, 0, 0, 82), A) := by unfold takeA; rw [if_pos hf]
              have hca := fun W h => take_ls 0 W ba ma A h
              have hcb := fun W h => take_ls s W bb mb A h
              rw [hE0] at hca
              rw [hE1] at hcb
              dsimp only at hca hcb
              have HCA := Aside0.mk hca
              have HCB := Aside0.mk hcb
              clear hca hcb hE0 hE1
              go_wp2_with (first
                | (go_at_call 17; (with_reducible refine (HCA.out _ ?side).mono ?_); (case side => exact (by repeat (first | with_reducible exact HDW.out.la | apply LS.drewN | apply LS.drew | apply LS.alloc))); rintro e_ w3 ⟨rfl, hs, hc0⟩; have hc : TwoB ba ma W w3 := (by first | exact hc0 | exact Chg.of_drew hc0 | exact Chg.of_drewN hc0); clear hc0; have HD3 := Aside0.mk (HDW.out.turnA hs hc); have HC3 := Aside0.mk (HCW.out.trans (chgA (bb := bb) (mb := mb) hc)); have HG03 := Aside0.mk (HG0.out.chg (chgA (bb := bb) (mb := mb) hc) HN0.out); have HG13 := Aside0.mk (HG1.out.chg (chgA (bb := bb) (mb := mb) hc) HN1.out); have z_w3 := hc.size; clear hs hc)
                | (go_at_call 17; (with_reducible refine (HCB.out _ ?side).mono ?_); (case side => exact (by repeat (first | with_reducible exact ((HD3.out.alloc _).alloc _).lb | apply LS.drewN | apply LS.drew | apply LS.alloc))); rintro e_ w4 ⟨rfl, hs, hc0⟩; have hc : TwoB bb mb ((w3.alloc (.cells #[.int .i64 0, .int .u64 0] 36)).alloc (.cells #[.int .u64 0, .int .u64 0] 34)) w4 := (by first | exact hc0 | exact Chg.of_drew hc0 | exact Chg.of_drewN hc0); clear hc0; have HD4 := Aside0.mk (((HD3.out.alloc _).alloc _).turnB hs hc); have HC4 := Aside0.mk (((HC3.out.alloc _).alloc _).trans (chgB (ba := ba) (ma := ma) hc)); have HG04 := Aside0.mk (((HG03.out.alloc _).alloc _).chg (chgB (ba := ba) (ma := ma) hc) HN0.out); have HG14 := Aside0.mk (((HG13.out.alloc _).alloc _).chg (chgB (ba := ba) (ma := ma) hc) HN1.out); have z_w4 := hc.size; simp only [World.size_alloc] at z_w4; have u0 := HD3.out.lb.lt; have u1 := HD3.out.lb.mlt;  have t00 : w4.cell? ⟨w3.heap.size, 0, none⟩ = some (.int .i64 0) := hc.cell (by go_simp) (not_two (by simp; omega) (by simp; omega)); have t01 : w4.cell? ⟨w3.heap.size, 1, none⟩ = some (.int .u64 0) := hc.cell (by go_simp) (not_two (by simp; omega) (by simp; omega)); have y0 : w3.heap.size < w4.heap.size := (by omega); have y0b : w3.heap.size ≠ w4.heap.size := (by omega); have y0c : w3.heap.size < w4.heap.size + 1 := (by omega); have y0d : w3.heap.size ≠ w4.heap.size + 1 := (by omega); have t10 : w4.cell? ⟨w3.heap.size + 1, 0, none⟩ = some (.int .u64 0) := hc.cell (by go_simp) (not_two (by simp; omega) (by simp; omega)); have t11 : w4.cell? ⟨w3.heap.size + 1, 1, none⟩ = some (.int .u64 0) := hc.cell (by go_simp) (not_two (by simp; omega) (by simp; omega)); have y1 : w3.heap.size + 1 < w4.heap.size := (by omega); have y1b : w3.heap.size + 1 ≠ w4.heap.size := (by omega); have y1c : w3.heap.size + 1 < w4.heap.size + 1 := (by omega); have y1d : w3.heap.size + 1 ≠ w4.heap.size + 1 := (by omega); clear hs hc u0 u1))
              go_ret
              exact ⟨rfl, A, ((HD4.out.alloc _).alloc _), by omega, ((HC4.out.alloc _).alloc _)⟩
            · have hXY := wr_num s A.h
              obtain ⟨X, hX⟩ : ∃ X, sq 0 A.h = X := ⟨_, rfl⟩
              obtain ⟨Y, hY⟩ : ∃ Y, sq s A.h = Y := ⟨_, rfl⟩
              obtain ⟨e0, he0⟩ : ∃ e0, (A.q[0]?).getD ent0 = e0 := ⟨_, rfl⟩
              obtain ⟨A1, hA1⟩ : ∃ A1 : AL, { A with q := A.q.tail, h := A.h + 1, old := A.old ++ [(A.h, ⟨e0.n, e0.gen, false⟩)] } = A1 := ⟨_, rfl⟩
              have ht1 : A1.t = A.t := by rw [← hA1]
              rw [hX, hY] at hXY
              have hE0 : takeA 0 A = ((e0.n, e0.gen, X, A.epoch, 0), A1) := by unfold takeA; rw [if_neg hf, hX, he0, hA1]
              have hE1 : takeA s A = ((e0.n, e0.gen, Y, A.epoch, 0), A1) := by unfold takeA; rw [if_neg hf, hY, he0, hA1]
              have hca := fun W h => take_ls 0 W ba ma A h
              have hcb := fun W h => take_ls s W bb mb A h
              rw [hE0] at hca
              rw [hE1] at hcb
              dsimp only at hca hcb
              have HT1 := Aside0.mk ht1
              have HCA := Aside0.mk hca
              have HCB := Aside0.mk hcb
              clear hca hcb hE0 hE1
              clear hX hY hA1 ht1 he0
              go_wp2_with (first
                | (go_at_call 17; (with_reducible refine (HCA.out _ ?side).mono ?_); (case side => exact (by repeat (first | with_reducible exact HDW.out.la | apply LS.drewN | apply LS.drew | apply LS.alloc))); rintro e_ w3 ⟨rfl, hs, hc0⟩; have hc : TwoB ba ma W w3 := (by first | exact hc0 | exact Chg.of_drew hc0 | exact Chg.of_drewN hc0); clear hc0; have HD3 := Aside0.mk (HDW.out.turnA hs hc); have HC3 := Aside0.mk (HCW.out.trans (chgA (bb := bb) (mb := mb) hc)); have HG03 := Aside0.mk (HG0.out.chg (chgA (bb := bb) (mb := mb) hc) HN0.out); have HG13 := Aside0.mk (HG1.out.chg (chgA (bb := bb) (mb := mb) hc) HN1.out); have z_w3 := hc.size; clear hs hc)
                | (go_at_call 17; (with_reducible refine (HCB.out _ ?side).mono ?_); (case side => exact (by repeat (first | with_reducible exact ((HD3.out.alloc _).alloc _).lb | apply LS.drewN | apply LS.drew | apply LS.alloc))); rintro e_ w4 ⟨rfl, hs, hc0⟩; have hc : TwoB bb mb ((w3.alloc (.cells #[.int .i64 e0.n, .int .u64 e0.gen] 36)).alloc (.cells #[.int .u64 X, .int .u64 A.epoch] 34)) w4 := (by first | exact hc0 | exact Chg.of_drew hc0 | exact Chg.of_drewN hc0); clear hc0; have HD4 := Aside0.mk (((HD3.out.alloc _).alloc _).turnB hs hc); have HC4 := Aside0.mk (((HC3.out.alloc _).alloc _).trans (chgB (ba := ba) (ma := ma) hc)); have HG04 := Aside0.mk (((HG03.out.alloc _).alloc _).chg (chgB (ba := ba) (ma := ma) hc) HN0.out); have HG14 := Aside0.mk (((HG13.out.alloc _).alloc _).chg (chgB (ba := ba) (ma := ma) hc) HN1.out); have z_w4 := hc.size; simp only [World.size_alloc] at z_w4; have u0 := HD3.out.lb.lt; have u1 := HD3.out.lb.mlt;  have t00 : w4.cell? ⟨w3.heap.size, 0, none⟩ = some (.int .i64 e0.n) := hc.cell (by go_simp) (not_two (by simp; omega) (by simp; omega)); have t01 : w4.cell? ⟨w3.heap.size, 1, none⟩ = some (.int .u64 e0.gen) := hc.cell (by go_simp) (not_two (by simp; omega) (by simp; omega)); have y0 : w3.heap.size < w4.heap.size := (by omega); have y0b : w3.heap.size ≠ w4.heap.size := (by omega); have y0c : w3.heap.size < w4.heap.size + 1 := (by omega); have y0d : w3.heap.size ≠ w4.heap.size + 1 := (by omega); have t10 : w4.cell? ⟨w3.heap.size + 1, 0, none⟩ = some (.int .u64 X) := hc.cell (by go_simp) (not_two (by simp; omega) (by simp; omega)); have t11 : w4.cell? ⟨w3.heap.size + 1, 1, none⟩ = some (.int .u64 A.epoch) := hc.cell (by go_simp) (not_two (by simp; omega) (by simp; omega)); have y1 : w3.heap.size + 1 < w4.heap.size := (by omega); have y1b : w3.heap.size + 1 ≠ w4.heap.size := (by omega); have y1c : w3.heap.size + 1 < w4.heap.size + 1 := (by omega); have y1d : w3.heap.size + 1 ≠ w4.heap.size + 1 := (by omega); clear hs hc u0 u1))
              go_ret
              exact ⟨rfl, A1, ((HD4.out.alloc _).alloc _), by have := HT1.out; omega, ((HC4.out.alloc _).alloc _)⟩
          · skip
            by_cases k7 : ok = 7
            · subst k7
              have a1 : W.cell? ⟨w.heap.size, 1, none⟩ = some (.int .u64 tq) := HG0.out.cell rfl
              have a2 : W.cell? ⟨w.heap.size, 2, none⟩ = some (.int .u64 te) := HG0.out.cell rfl
              have b1 : W.cell? ⟨w.heap.size + 1, 1, none⟩ = some (.int .u64 tp) := HG1.out.cell rfl
              have b2 : W.cell? ⟨w.heap.size + 1, 2, none⟩ = some (.int .u64 te) := HG1.out.cell rfl
              have hE1 := wr_retire s A tq te HTQ.out.1 HTQ.out.2
              rw [HTP.out] at hE1
              have hca := fun W h => retire_ls 0 W ba ma A h tq te
              have hcb := fun W h => retire_ls s W bb mb A h tp te
              rw [hE1] at hcb
              have ht' := retire_t 0 A tq te
              obtain ⟨⟨⟨x1, x2, x3, x4⟩, A1⟩, hx⟩ : ∃ x, retireA 0 A tq te = x := ⟨_, rfl⟩
              rw [hx] at hca hcb ht'
              dsimp only at hca hcb ht'
              have HCA := Aside0.mk hca
              have HCB := Aside0.mk hcb
              have HT1 := Aside0.mk ht'
              clear hca hcb hx hE1 ht'
              go_wp2_with (first
                | (go_at_call 19; (with_reducible refine (HCA.out _ ?side).mono ?_); (case side => exact (by repeat (first | with_reducible exact HDW.out.la | apply LS.drewN | apply LS.drew | apply LS.alloc))); rintro e_ w3 ⟨rfl, hs, hc0⟩; have hc : TwoB ba ma W w3 := (by first | exact hc0 | exact Chg.of_drew hc0 | exact Chg.of_drewN hc0); clear hc0; have HD3 := Aside0.mk (HDW.out.turnA hs hc); have HC3 := Aside0.mk (HCW.out.trans (chgA (bb := bb) (mb := mb) hc)); have HG03 := Aside0.mk (HG0.out.chg (chgA (bb := bb) (mb := mb) hc) HN0.out); have HG13 := Aside0.mk (HG1.out.chg (chgA (bb := bb) (mb := mb) hc) HN1.out); have z_w3 := hc.size; have b13 : w3.cell? ⟨w.heap.size + 1, 1, none⟩ = some (.int .u64 tp) := HG13.out.cell rfl; have b23 : w3.cell? ⟨w.heap.size + 1, 2, none⟩ = some (.int .u64 te) := HG13.out.cell rfl; have v3 : w.heap.size + 1 < w3.heap.size := HG13.out.lt; have v3b : w.heap.size + 1 ≠ w3.heap.size := (by omega); clear hs hc)
                | (go_at_call 19; (with_reducible refine (HCB.out _ ?side).mono ?_); (case side => exact (by repeat (first | with_reducible exact (HD3.out.alloc _).lb | apply LS.drewN | apply LS.drew | apply LS.alloc))); rintro e_ w4 ⟨rfl, hs, hc0⟩; have hc : TwoB bb mb (w3.alloc (.cells #[.int .i64 x1, .int .u64 x2] 36)) w4 := (by first | exact hc0 | exact Chg.of_drew hc0 | exact Chg.of_drewN hc0); clear hc0; have HD4 := Aside0.mk ((HD3.out.alloc _).turnB hs hc); have HC4 := Aside0.mk ((HC3.out.alloc _).trans (chgB (ba := ba) (ma := ma) hc)); have HG04 := Aside0.mk ((HG03.out.alloc _).chg (chgB (ba := ba) (ma := ma) hc) HN0.out); have HG14 := Aside0.mk ((HG13.out.alloc _).chg (chgB (ba := ba) (ma := ma) hc) HN1.out); have z_w4 := hc.size; simp only [World.size_alloc] at z_w4; have u0 := HD3.out.lb.lt; have u1 := HD3.out.lb.mlt;  have t00 : w4.cell? ⟨w3.heap.size, 0, none⟩ = some (.int .i64 x1) := hc.cell (by go_simp) (not_two (by simp; omega) (by simp; omega)); have t01 : w4.cell? ⟨w3.heap.size, 1, none⟩ = some (.int .u64 x2) := hc.cell (by go_simp) (not_two (by simp; omega) (by simp; omega)); have y0 : w3.heap.size < w4.heap.size := (by omega); have y0b : w3.heap.size ≠ w4.heap.size := (by omega); have y0c : w3.heap.size < w4.heap.size + 1 := (by omega); have y0d : w3.heap.size ≠ w4.heap.size + 1 := (by omega); clear hs hc u0 u1))
              go_ret
              exact ⟨rfl, A1, (HD4.out.alloc _), by have := HT1.out; omega, (HC4.out.alloc _)⟩
            · skip
              by_cases k8 : ok = 8
              · subst k8
                by_cases hr : A.r = A.t
                · have HCA := Aside0.mk (fun W h => reset_yes_ls 0 W ba ma A h hr)
                  have HCB := Aside0.mk (fun W h => reset_yes_ls s W bb mb A h hr)
                  have hrl : (resetRows A).length ≤ 1000 := by
                    have h_ := HDW.out.la.bounds; unfold resetRows; rw [List.length_append, List.length_map, List.length_map]; omega
                  obtain ⟨rs, hrs⟩ : ∃ rs, resetRows A = rs := ⟨_, rfl⟩
                  rw [hrs] at HCA HCB hrl
                  clear hrs
                  have HRL := Aside0.mk hrl
                  have hlr : (rs.map s36).length = rs.length := by simp
                  have HLR := Aside0.mk hlr
                  clear hrl hlr hr
                  go_wp2_with (first
                    | (go_at_call 18; (with_reducible refine (HCA.out _ ?side).mono ?_); (case side => exact (by repeat (first | with_reducible exact HDW.out.la | apply LS.drewN | apply LS.drew | apply LS.alloc))); rintro e_ w3 ⟨g3, rfl, hb, hg, hs, hc0⟩; have hc : TwoB ba ma W w3 := (by first | exact hc0 | exact Chg.of_drew hc0 | exact Chg.of_drewN hc0); clear hc0; have HD3 := Aside0.mk (HDW.out.turnA hs hc); have HC3 := Aside0.mk (HCW.out.trans (chgA (bb := bb) (mb := mb) hc)); have HG03 := Aside0.mk (HG0.out.chg (chgA (bb := bb) (mb := mb) hc) HN0.out); have HG13 := Aside0.mk (HG1.out.chg (chgA (bb := bb) (mb := mb) hc) HN1.out); have z_w3 := hc.size; have HR3 := Aside0.mk hb; have HGe := Aside0.mk hg; clear hs hc hb hg)
                    | (go_at_call 18; (with_reducible refine (HCB.out _ ?side).mono ?_); (case side => exact (by repeat (first | with_reducible exact HD3.out.lb | apply LS.drewN | apply LS.drew | apply LS.alloc))); rintro e_ w4 ⟨g4, rfl, hb, hg, hs, hc0⟩; have hc : TwoB bb mb w3 w4 := (by first | exact hc0 | exact Chg.of_drew hc0 | exact Chg.of_drewN hc0); clear hc0; have HD4 := Aside0.mk (HD3.out.turnB hs hc); have HC4 := Aside0.mk (HC3.out.trans (chgB (ba := ba) (ma := ma) hc)); have HG04 := Aside0.mk (HG03.out.chg (chgB (ba := ba) (ma := ma) hc) HN0.out); have HG14 := Aside0.mk (HG13.out.chg (chgB (ba := ba) (ma := ma) hc) HN1.out); have z_w4 := hc.size; have HQ4 := Aside0.mk hb; have HR4 := Aside0.mk (HR3.out.chg hc (not_two (by have := HD3.out.lb.lt; have := HDW.out.lb.lt; have := HGe.out; omega) (by have := HDW.out.lb.mlt; have := HGe.out; omega))); clear hs hc hb hg)
                    | (go_at_call 33; (have hC0 := slots_C HR4.out HRL.out); (have hC1 := slots_C HQ4.out HRL.out); rw [← HLR.out] at hC0 hC1; (have h_ := rampartref08_SameSlots.calls ((rs.map s36).length + 1) (some ⟨g3, 0, none⟩) rs.length (rs.map s36) (some ⟨g4, 0, none⟩) rs.length (rs.map s36) true w4 hC0 (by simp) hC1 (by simp) (sameSlots_refl _ (by rw [HLR.out]; exact HRL.out))); rw [HLR.out] at h_; refine h_.mono ?_; rintro e_ w5 ⟨rfl, hd⟩; have HD5 := Aside0.mk (HD4.out.below hd.below); have HC5 := Aside0.mk (HC4.out.then_below hd.below); clear hd h_ hC0 hC1))
                  go_ret
                  exact ⟨rfl, resetA A, HD5.out, by show A.t ≤ A.t + 1; omega, HC5.out⟩
                · have HCA := Aside0.mk (fun W h => reset_no_ls 0 W ba ma A h hr)
                  have HCB := Aside0.mk (fun W h => reset_no_ls s W bb mb A h hr)
                  clear hr
                  go_wp2_with (first
                    | (go_at_call 18; (with_reducible refine (HCA.out _ ?side).mono ?_); (case side => exact (by repeat (first | with_reducible exact HDW.out.la | apply LS.drewN | apply LS.drew | apply LS.alloc))); rintro e_ w3 ⟨rfl, hs, hc0⟩; have hc : TwoB ba ma W w3 := (by first | exact hc0 | exact Chg.of_drew hc0 | exact Chg.of_drewN hc0); clear hc0; have HD3 := Aside0.mk (HDW.out.turnA hs hc); have HC3 := Aside0.mk (HCW.out.trans (chgA (bb := bb) (mb := mb) hc)); have HG03 := Aside0.mk (HG0.out.chg (chgA (bb := bb) (mb := mb) hc) HN0.out); have HG13 := Aside0.mk (HG1.out.chg (chgA (bb := bb) (mb := mb) hc) HN1.out); have z_w3 := hc.size; clear hs hc)
                    | (go_at_call 18; (with_reducible refine (HCB.out _ ?side).mono ?_); (case side => exact (by repeat (first | with_reducible exact HD3.out.lb | apply LS.drewN | apply LS.drew | apply LS.alloc))); rintro e_ w4 ⟨rfl, hs, hc0⟩; have hc : TwoB bb mb w3 w4 := (by first | exact hc0 | exact Chg.of_drew hc0 | exact Chg.of_drewN hc0); clear hc0; have HD4 := Aside0.mk (HD3.out.turnB hs hc); have HC4 := Aside0.mk (HC3.out.trans (chgB (ba := ba) (ma := ma) hc)); have HG04 := Aside0.mk (HG03.out.chg (chgB (ba := ba) (ma := ma) hc) HN0.out); have HG14 := Aside0.mk (HG13.out.chg (chgB (ba := ba) (ma := ma) hc) HN1.out); have z_w4 := hc.size; clear hs hc)
                    | (go_at_call 33; refine (rampartref08_SameSlots.calls 1 none 0 [] none 0 [] true w4 (nil_C _) (by simp) (nil_C _) (by simp) (sameSlots_refl [] (by simp))).mono ?_; rintro e_ w5 ⟨rfl, hd⟩; have HD5 := Aside0.mk (HD4.out.below hd.below); have HC5 := Aside0.mk (HC4.out.then_below hd.below); clear hd))
                  go_ret
                  exact ⟨rfl, A, HD5.out, by omega, HC5.out⟩
              · skip
                by_cases hf : A.h = A.r
                · have hE0 : firstA 0 A = (0, 0, 0, 0, false) := by unfold firstA; rw [if_pos hf]
                  have hE1 : firstA s A = (0, 0, 0, 0, false) := by unfold firstA; rw [if_pos hf]
                  have hca := fun W h => first_ls 0 W ba ma A h
                  have hcb := fun W h => first_ls s W bb mb A h
                  rw [hE0] at hca
                  rw [hE1] at hcb
                  dsimp only at hca hcb
                  have HCA := Aside0.mk hca
                  have HCB := Aside0.mk hcb
                  clear hca hcb hE0 hE1
                  go_wp2_with (first
                    | (go_at_call 23; (with_reducible refine (HCA.out _ ?side).mono ?_); (case side => exact (by repeat (first | with_reducible exact HDW.out.la | apply LS.drewN | apply LS.drew | apply LS.alloc))); rintro e_ w3 ⟨rfl, hs, hc0⟩; have hc : TwoB ba ma W w3 := (by first | exact Chg.below hc0 _ | exact Chg.below (below_of_drew hc0) _ | exact Chg.below (below_of_drewN hc0) _); clear hc0; have HD3 := Aside0.mk (HDW.out.turnA hs hc); have HC3 := Aside0.mk (HCW.out.trans (chgA (bb := bb) (mb := mb) hc)); have HG03 := Aside0.mk (HG0.out.chg (chgA (bb := bb) (mb := mb) hc) HN0.out); have HG13 := Aside0.mk (HG1.out.chg (chgA (bb := bb) (mb := mb) hc) HN1.out); have z_w3 := hc.size; clear hs hc)
                    | (go_at_call 23; (with_reducible refine (HCB.out _ ?side).mono ?_); (case side => exact (by repeat (first | with_reducible exact ((HD3.out.alloc _).alloc _).lb | apply LS.drewN | apply LS.drew | apply LS.alloc))); rintro e_ w4 ⟨rfl, hs, hc0⟩; have hc : TwoB bb mb ((w3.alloc (.cells #[.int .i64 0, .int .i64 0] 38)).alloc (.cells #[.int .u64 0, .int .u64 0] 34)) w4 := (by first | exact Chg.below hc0 _ | exact Chg.below (below_of_drew hc0) _ | exact Chg.below (below_of_drewN hc0) _); clear hc0; have HD4 := Aside0.mk (((HD3.out.alloc _).alloc _).turnB hs hc); have HC4 := Aside0.mk (((HC3.out.alloc _).alloc _).trans (chgB (ba := ba) (ma := ma) hc)); have HG04 := Aside0.mk (((HG03.out.alloc _).alloc _).chg (chgB (ba := ba) (ma := ma) hc) HN0.out); have HG14 := Aside0.mk (((HG13.out.alloc _).alloc _).chg (chgB (ba := ba) (ma := ma) hc) HN1.out); have z_w4 := hc.size; simp only [World.size_alloc] at z_w4; have u0 := HD3.out.lb.lt; have u1 := HD3.out.lb.mlt;  have t00 : w4.cell? ⟨w3.heap.size, 0, none⟩ = some (.int .i64 0) := hc.cell (by go_simp) (not_two (by simp; omega) (by simp; omega)); have t01 : w4.cell? ⟨w3.heap.size, 1, none⟩ = some (.int .i64 0) := hc.cell (by go_simp) (not_two (by simp; omega) (by simp; omega)); have y0 : w3.heap.size < w4.heap.size := (by omega); have y0b : w3.heap.size ≠ w4.heap.size := (by omega); have y0c : w3.heap.size < w4.heap.size + 1 := (by omega); have y0d : w3.heap.size ≠ w4.heap.size + 1 := (by omega); have t10 : w4.cell? ⟨w3.heap.size + 1, 0, none⟩ = some (.int .u64 0) := hc.cell (by go_simp) (not_two (by simp; omega) (by simp; omega)); have t11 : w4.cell? ⟨w3.heap.size + 1, 1, none⟩ = some (.int .u64 0) := hc.cell (by go_simp) (not_two (by simp; omega) (by simp; omega)); have y1 : w3.heap.size + 1 < w4.heap.size := (by omega); have y1b : w3.heap.size + 1 ≠ w4.heap.size := (by omega); have y1c : w3.heap.size + 1 < w4.heap.size + 1 := (by omega); have y1d : w3.heap.size + 1 ≠ w4.heap.size + 1 := (by omega); clear hs hc u0 u1))
                  go_ret
                  exact ⟨rfl, A, ((HD4.out.alloc _).alloc _), by omega, ((HC4.out.alloc _).alloc _)⟩
                · obtain ⟨X, hX⟩ : ∃ X, sq 0 A.h = X := ⟨_, rfl⟩
                  obtain ⟨Y, hY⟩ : ∃ Y, sq s A.h = Y := ⟨_, rfl⟩
                  obtain ⟨e0, he0⟩ : ∃ e0, (A.q[0]?).getD ent0 = e0 := ⟨_, rfl⟩
                  have hE0 : firstA 0 A = (e0.tick, e0.step, X, A.epoch, true) := by unfold firstA; rw [if_neg hf, hX, he0]
                  have hE1 : firstA s A = (e0.tick, e0.step, Y, A.epoch, true) := by unfold firstA; rw [if_neg hf, hY, he0]
                  have hca := fun W h => first_ls 0 W ba ma A h
                  have hcb := fun W h => first_ls s W bb mb A h
                  rw [hE0] at hca
                  rw [hE1] at hcb
                  dsimp only at hca hcb
                  have HCA := Aside0.mk hca
                  have HCB := Aside0.mk hcb
                  clear hca hcb hE0 hE1
                  clear hX hY he0
                  go_wp2_with (first
                    | (go_at_call 23; (with_reducible refine (HCA.out _ ?side).mono ?_); (case side => exact (by repeat (first | with_reducible exact HDW.out.la | apply LS.drewN | apply LS.drew | apply LS.alloc))); rintro e_ w3 ⟨rfl, hs, hc0⟩; have hc : TwoB ba ma W w3 := (by first | exact Chg.below hc0 _ | exact Chg.below (below_of_drew hc0) _ | exact Chg.below (below_of_drewN hc0) _); clear hc0; have HD3 := Aside0.mk (HDW.out.turnA hs hc); have HC3 := Aside0.mk (HCW.out.trans (chgA (bb := bb) (mb := mb) hc)); have HG03 := Aside0.mk (HG0.out.chg (chgA (bb := bb) (mb := mb) hc) HN0.out); have HG13 := Aside0.mk (HG1.out.chg (chgA (bb := bb) (mb := mb) hc) HN1.out); have z_w3 := hc.size; clear hs hc)
                    | (go_at_call 23; (with_reducible refine (HCB.out _ ?side).mono ?_); (case side => exact (by repeat (first | with_reducible exact ((HD3.out.alloc _).alloc _).lb | apply LS.drewN | apply LS.drew | apply LS.alloc))); rintro e_ w4 ⟨rfl, hs, hc0⟩; have hc : TwoB bb mb ((w3.alloc (.cells #[.int .i64 e0.tick, .int .i64 e0.step] 38)).alloc (.cells #[.int .u64 X, .int .u64 A.epoch] 34)) w4 := (by first | exact Chg.below hc0 _ | exact Chg.below (below_of_drew hc0) _ | exact Chg.below (below_of_drewN hc0) _); clear hc0; have HD4 := Aside0.mk (((HD3.out.alloc _).alloc _).turnB hs hc); have HC4 := Aside0.mk (((HC3.out.alloc _).alloc _).trans (chgB (ba := ba) (ma := ma) hc)); have HG04 := Aside0.mk (((HG03.out.alloc _).alloc _).chg (chgB (ba := ba) (ma := ma) hc) HN0.out); have HG14 := Aside0.mk (((HG13.out.alloc _).alloc _).chg (chgB (ba := ba) (ma := ma) hc) HN1.out); have z_w4 := hc.size; simp only [World.size_alloc] at z_w4; have u0 := HD3.out.lb.lt; have u1 := HD3.out.lb.mlt;  have t00 : w4.cell? ⟨w3.heap.size, 0, none⟩ = some (.int .i64 e0.tick) := hc.cell (by go_simp) (not_two (by simp; omega) (by simp; omega)); have t01 : w4.cell? ⟨w3.heap.size, 1, none⟩ = some (.int .i64 e0.step) := hc.cell (by go_simp) (not_two (by simp; omega) (by simp; omega)); have y0 : w3.heap.size < w4.heap.size := (by omega); have y0b : w3.heap.size ≠ w4.heap.size := (by omega); have y0c : w3.heap.size < w4.heap.size + 1 := (by omega); have y0d : w3.heap.size ≠ w4.heap.size + 1 := (by omega); have t10 : w4.cell? ⟨w3.heap.size + 1, 0, none⟩ = some (.int .u64 X) := hc.cell (by go_simp) (not_two (by simp; omega) (by simp; omega)); have t11 : w4.cell? ⟨w3.heap.size + 1, 1, none⟩ = some (.int .u64 A.epoch) := hc.cell (by go_simp) (not_two (by simp; omega) (by simp; omega)); have y1 : w3.heap.size + 1 < w4.heap.size := (by omega); have y1b : w3.heap.size + 1 ≠ w4.heap.size := (by omega); have y1c : w3.heap.size + 1 < w4.heap.size + 1 := (by omega); have y1d : w3.heap.size + 1 ≠ w4.heap.size + 1 := (by omega); clear hs hc u0 u1))
                  go_ret
                  exact ⟨rfl, A, ((HD4.out.alloc _).alloc _), by omega, ((HC4.out.alloc _).alloc _)⟩
end Go.Proofs.Ytekjhfhlbkcklaa.L

/-
  The law LaneNobody, walked.
-/
import Derived.Test.YtekjhfhlbkcklaaLn
namespace Go.Proofs.Ytekjhfhlbkcklaa.L
open Go.RowKit Go.Proofs.Ytekjhfhlbkcklaa.K Go.Proofs.Ytekjhfhlbkcklaa.PA Go.Proofs.YtekjhfhlbkcklaaW.PrintWords
open Go.ChangeMaps (setBlock)
attribute [local go_sem ↓] Go.wp_at_zero Go.wp_at_succ

theorem blk_below {w w1 : World} {b : Nat} {cs : List Value} {t : TypeId} (h : Blk w b cs t) (hb : Below w.heap.size w w1) : Blk w1 b cs t := h.chg (Chg.below hb (fun _ => False)) (fun f => f)
theorem below_then {w W W' : World} (h : Below w.heap.size w W) (k : Below W.heap.size W W') : Below w.heap.size w W' := h.trans (k.mono h.size)
set_option maxHeartbeats 4000000 in
set_option maxRecDepth 100000 in
theorem nobody_calls (w : World) (kd sq ep sn sg tk sp : Int) : Calls Try.prog 8 #[.agg #[.int .i64 kd, .int .u64 sq, .int .u64 ep, .int .i64 sn, .int .u64 sg, .int .i64 tk, .int .i64 sp]] w fun e_ w' => e_ = .returned (.bool true) ∧ Below w.heap.size w w' := by
  have hu := Try.underlying34
  have hu2 := Try.underlying36
  have hu3 := Try.underlying38
  have hu4 := Try.underlying42
  have hu5 := Try.underlying40
  go_enter Try.func8, Try.ntmps8
  go_upto_block 0 with fail
  have BO := ((blk_new w [.int .i64 kd, .int .u64 sq, .int .u64 ep, .int .i64 sn, .int .u64 sg, .int .i64 tk, .int .i64 sp] 40).alloc (.cells Try.zeroCells67 67)).alloc (.cells #[.pointer none, .pointer (some ⟨w.heap.size + 1, 0, none⟩)] 25)
  have BZ := (blk_new1 w (.cells #[.int .i64 kd, .int .u64 sq, .int .u64 ep, .int .i64 sn, .int .u64 sg, .int .i64 tk, .int .i64 sp] 40) Try.zeroCells67.toList 67).alloc (.cells #[.pointer none, .pointer (some ⟨w.heap.size + 1, 0, none⟩)] 25)
  have BR := blk_new1 (w.alloc (.cells #[.int .i64 kd, .int .u64 sq, .int .u64 ep, .int .i64 sn, .int .u64 sg, .int .i64 tk, .int .i64 sp] 40)) (.cells Try.zeroCells67 67) [.pointer none, .pointer (some ⟨w.heap.size + 1, 0, none⟩)] 25
  have HB0 := below_alloc (below_alloc (below_alloc (Below.refl w.heap.size w) (.cells #[.int .i64 kd, .int .u64 sq, .int .u64 ep, .int .i64 sn, .int .u64 sg, .int .i64 tk, .int .i64 sp] 40)) (.cells Try.zeroCells67 67)) (.cells #[.pointer none, .pointer (some ⟨w.heap.size + 1, 0, none⟩)] 25)
  rw [show (w.alloc (.cells #[.int .i64 kd, .int .u64 sq, .int .u64 ep, .int .i64 sn, .int .u64 sg, .int .i64 tk, .int .i64 sp] 40)).heap.size = w.heap.size + 1 by simp] at BR
  rw [Array.toArray_toList] at BZ
  generalize hW : ((w.alloc (.cells #[.int .i64 kd, .int .u64 sq, .int .u64 ep, .int .i64 sn, .int .u64 sg, .int .i64 tk, .int .i64 sp] 40)).alloc (.cells Try.zeroCells67 67)).alloc (.cells #[.pointer none, .pointer (some ⟨w.heap.size + 1, 0, none⟩)] 25) = w3 at BO BZ BR HB0 ⊢
  have T1 := Aside0.mk BO
  have TZ := Aside0.mk BZ
  have TR := Aside0.mk BR
  have HB := Aside0.mk HB0
  clear hW BO BZ BR HB0
  go_wp2_with fail
  go_loopg [24] 2 (fun gg v24 wr => ∃ i : Nat, i ≤ 2 ∧ 2 - i ≤ gg ∧ v24 = .int .i64 i ∧ Aside0 (Below w3.heap.size w3 wr))
  case atStart => exact ⟨0, by omega, by omega, rfl, ⟨Below.refl _ _⟩⟩
  case round =>
    obtain ⟨i, hi, hg, rfl, HR⟩ := hrel
    by_cases hlt : i < 2
    · obtain ⟨v, hbad, hv⟩ : ∃ v, Bad wr v ∧ wr.cell? ⟨w.heap.size + 1 + 1, i, none⟩ = some v := by
        match i, hlt with
        | 0, _ => exact ⟨_, .inl rfl, (blk_below TR.out HR.out).cell rfl⟩
        | 1, _ => exact ⟨_, .inr ⟨_, rfl, (blk_below TZ.out HR.out).cell (by kernel_rfl)⟩, (blk_below TR.out HR.out).cell rfl⟩
      have HV := Aside0.mk hbad
      have hi0 : (0 : Int) ≤ (i : Int) := by omega
      have hi2 : (i : Int) < 2 := by omega
      have Q1 := Aside0.mk (blk_below T1.out HR.out)
      have HRw := Aside0.mk (below_then HB.out HR.out)
      clear hbad
      go_upto_region 5 with fail
      go_upto_region 6 with (first | (go_at_call 15; refine (claimm_bad _ v HV.out).mono ?_; rintro e_ w10 ⟨rfl, hb⟩; have HC := Aside0.mk hb; clear hb))
      have HVn := HV.out.below HC.out
      have HRn := below_then HR.out HC.out
      have Q1n := blk_below Q1.out HC.out
      replace HVn := HVn.alloc (.cells #[.int .u64 0, .int .u64 0] 34)
      replace HRn := below_alloc HRn (.cells #[.int .u64 0, .int .u64 0] 34)
      replace Q1n := Q1n.alloc (.cells #[.int .u64 0, .int .u64 0] 34)
      have Q6n := blk_new w10 [.int .u64 0, .int .u64 0] 34
      generalize hW : (w10.alloc (.cells #[.int .u64 0, .int .u64 0] 34)) = W10 at HVn HRn Q1n Q6n ⊢
      replace HV := Aside0.mk HVn
      replace HR := Aside0.mk HRn
      replace Q1 := Aside0.mk Q1n
      have Q6 := Aside0.mk Q6n
      clear hW HVn HRn HC Q1n Q6n
      go_upto_region 7 with (first | (go_at_call 17; refine (take_bad _ v HV.out).mono ?_; rintro e_ w11 ⟨rfl, hb⟩; have HC := Aside0.mk hb; clear hb))
      have HVn := HV.out.below HC.out
      have HRn := below_then HR.out HC.out
      have Q1n := blk_below Q1.out HC.out
      have Q6n := blk_below Q6.out HC.out
      replace HVn := HVn.alloc (.cells #[.int .i64 0, .int .u64 0] 36)
      replace HRn := below_alloc HRn (.cells #[.int .i64 0, .int .u64 0] 36)
      replace Q1n := Q1n.alloc (.cells #[.int .i64 0, .int .u64 0] 36)
      replace Q6n := Q6n.alloc (.cells #[.int .i64 0, .int .u64 0] 36)
      replace HVn := HVn.alloc (.cells #[.int .u64 0, .int .u64 0] 34)
      replace HRn := below_alloc HRn (.cells #[.int .u64 0, .int .u64 0] 34)
      replace Q1n := Q1n.alloc (.cells #[.int .u64 0, .int .u64 0] 34)
      replace Q6n := Q6n.alloc (.cells #[.int .u64 0, .int .u64 0] 34)
      have Q8n := blk_new w11 [.int .i64 0, .int .u64 0] 36
      replace Q8n := Q8n.alloc (.cells #[.int .u64 0, .int .u64 0] 34)
      have Q9n := blk_new1 w11 (.cells #[.int .i64 0, .int .u64 0] 36) [.int .u64 0, .int .u64 0] 34
      generalize hW : ((w11.alloc (.cells #[.int .i64 0, .int .u64 0] 36)).alloc (.cells #[.int .u64 0, .int .u64 0] 34)) = W11 at HVn HRn Q1n Q6n Q8n Q9n ⊢
      replace HV := Aside0.mk HVn
      replace HR := Aside0.mk HRn
      replace Q1 := Aside0.mk Q1n
      replace Q6 := Aside0.mk Q6n
      have Q8 := Aside0.mk Q8n
      have Q9 := Aside0.mk Q9n
      clear hW HVn HRn HC Q1n Q6n Q8n Q9n
      have Q1c0 : W11.cell? ⟨w.heap.size, 0, none⟩ = some (.int .i64 kd) := Q1.out.cell rfl
      have Q1c1 : W11.cell? ⟨w.heap.size, 1, none⟩ = some (.int .u64 sq) := Q1.out.cell rfl
      have Q1c2 : W11.cell? ⟨w.heap.size, 2, none⟩ = some (.int .u64 ep) := Q1.out.cell rfl
      have Q1c3 : W11.cell? ⟨w.heap.size, 3, none⟩ = some (.int .i64 sn) := Q1.out.cell rfl
      have Q1c4 : W11.cell? ⟨w.heap.size, 4, none⟩ = some (.int .u64 sg) := Q1.out.cell rfl
      have Q1c5 : W11.cell? ⟨w.heap.size, 5, none⟩ = some (.int .i64 tk) := Q1.out.cell rfl
      have Q1c6 : W11.cell? ⟨w.heap.size, 6, none⟩ = some (.int .i64 sp) := Q1.out.cell rfl
      go_upto_region 8 with (first | (go_at_call 19; refine (retire_bad _ v sq ep HV.out).mono ?_; rintro e_ w12 ⟨rfl, hb⟩; have HC := Aside0.mk hb; clear hb))
      have HVn := HV.out.below HC.out
      have HRn := below_then HR.out HC.out
      have Q1n := blk_below Q1.out HC.out
      have Q6n := blk_below Q6.out HC.out
      have Q8n := blk_below Q8.out HC.out
      have Q9n := blk_below Q9.out HC.out
      replace HVn := HVn.alloc (.cells #[.int .i64 0, .int .u64 0] 36)
      replace HRn := below_alloc HRn (.cells #[.int .i64 0, .int .u64 0] 36)
      replace Q1n := Q1n.alloc (.cells #[.int .i64 0, .int .u64 0] 36)
      replace Q6n := Q6n.alloc (.cells #[.int .i64 0, .int .u64 0] 36)
      replace Q8n := Q8n.alloc (.cells #[.int .i64 0, .int .u64 0] 36)
      replace Q9n := Q9n.alloc (.cells #[.int .i64 0, .int .u64 0] 36)
      have Q11n := blk_new w12 [.int .i64 0, .int .u64 0] 36
      generalize hW : (w12.alloc (.cells #[.int .i64 0, .int .u64 0] 36)) = W12 at HVn HRn Q1n Q6n Q8n Q9n Q11n ⊢
      replace HV := Aside0.mk HVn
      replace HR := Aside0.mk HRn
      replace Q1 := Aside0.mk Q1n
      replace Q6 := Aside0.mk Q6n
      replace Q8 := Aside0.mk Q8n
      replace Q9 := Aside0.mk Q9n
      have Q11 := Aside0.mk Q11n
      clear hW HVn HRn HC Q1n Q6n Q8n Q9n Q11n
      clear Q1c0 Q1c1 Q1c2 Q1c3 Q1c4 Q1c5 Q1c6
      go_upto_region 9 with (first | (go_at_call 18; refine (reset_bad _ v HV.out).mono ?_; rintro e_ w13 ⟨rfl, hb⟩; have HC := Aside0.mk hb; clear hb))
      have HVn := HV.out.below HC.out
      have HRn := below_then HR.out HC.out
      have Q1n := blk_below Q1.out HC.out
      have Q6n := blk_below Q6.out HC.out
      have Q8n := blk_below Q8.out HC.out
      have Q9n := blk_below Q9.out HC.out
      have Q11n := blk_below Q11.out HC.out
      replace HV := Aside0.mk HVn
      replace HR := Aside0.mk HRn
      replace Q1 := Aside0.mk Q1n
      replace Q6 := Aside0.mk Q6n
      replace Q8 := Aside0.mk Q8n
      replace Q9 := Aside0.mk Q9n
      replace Q11 := Aside0.mk Q11n
      clear HVn HRn HC Q1n Q6n Q8n Q9n Q11n
      go_upto_region 10 with (first | (go_at_call 23; refine (first_bad _ v HV.out).mono ?_; rintro e_ w14 ⟨rfl, hb⟩; have HC := Aside0.mk hb; clear hb))
      have HVn := HV.out.below HC.out
      have HRn := below_then HR.out HC.out
      have Q1n := blk_below Q1.out HC.out
      have Q6n := blk_below Q6.out HC.out
      have Q8n := blk_below Q8.out HC.out
      have Q9n := blk_below Q9.out HC.out
      have Q11n := blk_below Q11.out HC.out
      replace HVn := HVn.alloc (.cells #[.int .i64 0, .int .i64 0] 38)
      replace HRn := below_alloc HRn (.cells #[.int .i64 0, .int .i64 0] 38)
      replace Q1n := Q1n.alloc (.cells #[.int .i64 0, .int .i64 0] 38)
      replace Q6n := Q6n.alloc (.cells #[.int .i64 0, .int .i64 0] 38)
      replace Q8n := Q8n.alloc (.cells #[.int .i64 0, .int .i64 0] 38)
      replace Q9n := Q9n.alloc (.cells #[.int .i64 0, .int .i64 0] 38)
      replace Q11n := Q11n.alloc (.cells #[.int .i64 0, .int .i64 0] 38)
      replace HVn := HVn.alloc (.cells #[.int .u64 0, .int .u64 0] 34)
      replace HRn := below_alloc HRn (.cells #[.int .u64 0, .int .u64 0] 34)
      replace Q1n := Q1n.alloc (.cells #[.int .u64 0, .int .u64 0] 34)
      replace Q6n := Q6n.alloc (.cells #[.int .u64 0, .int .u64 0] 34)
      replace Q8n := Q8n.alloc (.cells #[.int .u64 0, .int .u64 0] 34)
      replace Q9n := Q9n.alloc (.cells #[.int .u64 0, .int .u64 0] 34)
      replace Q11n := Q11n.alloc (.cells #[.int .u64 0, .int .u64 0] 34)
      have Q16n := blk_new w14 [.int .i64 0, .int .i64 0] 38
      replace Q16n := Q16n.alloc (.cells #[.int .u64 0, .int .u64 0] 34)
      have Q17n := blk_new1 w14 (.cells #[.int .i64 0, .int .i64 0] 38) [.int .u64 0, .int .u64 0] 34
      generalize hW : ((w14.alloc (.cells #[.int .i64 0, .int .i64 0] 38)).alloc (.cells #[.int .u64 0, .int .u64 0] 34)) = W14 at HVn HRn Q1n Q6n Q8n Q9n Q11n Q16n Q17n ⊢
      replace HV := Aside0.mk HVn
      replace HR := Aside0.mk HRn
      replace Q1 := Aside0.mk Q1n
      replace Q6 := Aside0.mk Q6n
      replace Q8 := Aside0.mk Q8n
      replace Q9 := Aside0.mk Q9n
      replace Q11 := Aside0.mk Q11n
      have Q16 := Aside0.mk Q16n
      have Q17 := Aside0.mk Q17n
      clear hW HVn HRn HC Q1n Q6n Q8n Q9n Q11n Q16n Q17n
      have Q1c0 : W14.cell? ⟨w.heap.size, 0, none⟩ = some (.int .i64 kd) := Q1.out.cell rfl
      have Q1c1 : W14.cell? ⟨w.heap.size, 1, none⟩ = some (.int .u64 sq) := Q1.out.cell rfl
      have Q1c2 : W14.cell? ⟨w.heap.size, 2, none⟩ = some (.int .u64 ep) := Q1.out.cell rfl
      have Q1c3 : W14.cell? ⟨w.heap.size, 3, none⟩ = some (.int .i64 sn) := Q1.out.cell rfl
      have Q1c4 : W14.cell? ⟨w.heap.size, 4, none⟩ = some (.int .u64 sg) := Q1.out.cell rfl
      have Q1c5 : W14.cell? ⟨w.heap.size, 5, none⟩ = some (.int .i64 tk) := Q1.out.cell rfl
      have Q1c6 : W14.cell? ⟨w.heap.size, 6, none⟩ = some (.int .i64 sp) := Q1.out.cell rfl
      have Q6c0 : W14.cell? ⟨w10.heap.size, 0, none⟩ = some (.int .u64 0) := Q6.out.cell rfl
      have Q6c1 : W14.cell? ⟨w10.heap.size, 1, none⟩ = some (.int .u64 0) := Q6.out.cell rfl
      have Q8c0 : W14.cell? ⟨w11.heap.size, 0, none⟩ = some (.int .i64 0) := Q8.out.cell rfl
      have Q8c1 : W14.cell? ⟨w11.heap.size, 1, none⟩ = some (.int .u64 0) := Q8.out.cell rfl
      have Q9c0 : W14.cell? ⟨w11.heap.size + 1, 0, none⟩ = some (.int .u64 0) := Q9.out.cell rfl
      have Q9c1 : W14.cell? ⟨w11.heap.size + 1, 1, none⟩ = some (.int .u64 0) := Q9.out.cell rfl
      have Q11c0 : W14.cell? ⟨w12.heap.size, 0, none⟩ = some (.int .i64 0) := Q11.out.cell rfl
      have Q11c1 : W14.cell? ⟨w12.heap.size, 1, none⟩ = some (.int .u64 0) := Q11.out.cell rfl
      have HV0 := HV
      go_wp2_with (first
        | (go_at_call 16; refine (lay_bad _ v sq ep sn sg HV.out).mono ?_; rintro e_ x1 ⟨rfl, hb⟩; have HV1 := Aside0.mk (HV.out.below hb); have HR1 := Aside0.mk (below_then HR.out hb); have Q1a0 := pw_cell_below hb Q1c0; have Q1a1 := pw_cell_below hb Q1c1; have Q1a2 := pw_cell_below hb Q1c2; have Q1a3 := pw_cell_below hb Q1c3; have Q1a4 := pw_cell_below hb Q1c4; have Q1a5 := pw_cell_below hb Q1c5; have Q1a6 := pw_cell_below hb Q1c6; have Q6a0 := pw_cell_below hb Q6c0; have Q6a1 := pw_cell_below hb Q6c1; have Q8a0 := pw_cell_below hb Q8c0; have Q8a1 := pw_cell_below hb Q8c1; have Q9a0 := pw_cell_below hb Q9c0; have Q9a1 := pw_cell_below hb Q9c1; have Q11a0 := pw_cell_below hb Q11c0; have Q11a1 := pw_cell_below hb Q11c1; clear hb)
        | (go_at_call 20; refine (publish_bad _ v sq ep tk sp HV1.out).mono ?_; rintro e_ x2 ⟨rfl, hb⟩; have HV2 := Aside0.mk (HV1.out.below hb); have HR2 := Aside0.mk (below_then HR1.out hb); have Q1b0 := pw_cell_below hb Q1a0; have Q1b1 := pw_cell_below hb Q1a1; have Q1b2 := pw_cell_below hb Q1a2; have Q1b3 := pw_cell_below hb Q1a3; have Q1b4 := pw_cell_below hb Q1a4; have Q1b5 := pw_cell_below hb Q1a5; have Q1b6 := pw_cell_below hb Q1a6; have Q6b0 := pw_cell_below hb Q6a0; have Q6b1 := pw_cell_below hb Q6a1; have Q8b0 := pw_cell_below hb Q8a0; have Q8b1 := pw_cell_below hb Q8a1; have Q9b0 := pw_cell_below hb Q9a0; have Q9b1 := pw_cell_below hb Q9a1; have Q11b0 := pw_cell_below hb Q11a0; have Q11b1 := pw_cell_below hb Q11a1; clear hb)
        | (go_at_call 21; refine (ready_bad _ v sq ep HV2.out).mono ?_; rintro e_ x3 ⟨rfl, hb⟩; have HV3 := Aside0.mk (HV2.out.below hb); have HR3 := Aside0.mk (below_then HR2.out hb); clear hb)
        | (go_at_call 13; refine (state_bad _ v HV3.out).mono ?_; rintro e_ x4 ⟨rfl, hb⟩; have HR4 := Aside0.mk (below_then HR3.out hb); clear hb))
      go_roundg (2 - (i + 1))
      case measure => omega
      case rel => exact ⟨i + 1, by omega, Nat.le_refl _, by go_num, HR4⟩
    · obtain rfl : i = 2 := by omega
      have HR1 := Aside0.mk (below_then HB.out HR.out)
      go_wp2_with (first | (go_at_call 9; refine (awake_calls _).mono ?_; rintro e_ x1 ⟨rfl, hb⟩; have HR2 := Aside0.mk (below_then HR1.out hb); clear hb))
      go_ret
      exact ⟨rfl, HR2.out⟩
end Go.Proofs.Ytekjhfhlbkcklaa.L

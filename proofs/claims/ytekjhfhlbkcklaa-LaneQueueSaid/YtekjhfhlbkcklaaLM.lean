/-
  The law's example: two claims whose numbers wrap. · The law's example, walked.
-/
import Derived.Test.YtekjhfhlbkcklaaLI
set_option linter.unusedVariables false
set_option linter.unusedSimpArgs false
namespace Go.Proofs.Ytekjhfhlbkcklaa.L
open Go.RowKit Go.Proofs.Ytekjhfhlbkcklaa.K Go.Proofs.Ytekjhfhlbkcklaa.PA Go.Proofs.YtekjhfhlbkcklaaW.PrintWords
open Go.ChangeMaps (setBlock)
attribute [local go_sem ↓] Go.wp_at_zero Go.wp_at_succ

def A0 (m : Nat) : Lane := newL 2 true 18446744073709551615 m
def A1 (m : Nat) : Lane := (claimS (A0 m)).2
def A2 (m : Nat) : Lane := (claimS (A1 m)).2
def A3 (m : Nat) : Lane := (layL (A2 m) 18446744073709551615 0 7 0).1
def A4 (m : Nat) : Lane := (layL (A3 m) 0 0 8 0).1
def A5 (m : Nat) : Lane := (pubL (A4 m) 18446744073709551615 0 2 0).1
def A6 (m : Nat) : Lane := (takeS (A5 m) []).2.1
def M6 : Pasts := [(18446744073709551615, ⟨7, 0, false⟩)]
def A7 (m : Nat) : Lane := (retireL (A6 m) M6 18446744073709551615 0).2.1
theorem v0 (m : Nat) : (claimS (A0 m)).1 = (18446744073709551615, 0, 0) := by kernel_rfl
theorem v1 (m : Nat) : (claimS (A1 m)).1 = (0, 0, 0) := by kernel_rfl
theorem v2 (m : Nat) : claimS (A2 m) = ((0, 0, 81), A2 m) := by kernel_rfl
theorem v3 (m : Nat) : (layL (A2 m) 18446744073709551615 0 7 0).2 = 0 := by kernel_rfl
theorem v4 (m : Nat) : (layL (A3 m) 0 0 8 0).2 = 0 := by kernel_rfl
theorem v5 (m : Nat) : pubL (A4 m) 0 0 1 0 = (A4 m, 83) := by kernel_rfl
theorem v6 (m : Nat) : (pubL (A4 m) 18446744073709551615 0 2 0).2 = 0 := by kernel_rfl
theorem v7 (m : Nat) : (takeS (A5 m) []).1 = (7, 0, 18446744073709551615, 0, 0) := by kernel_rfl
theorem v7b (m : Nat) : (takeS (A5 m) []).2.2 = M6 := by kernel_rfl
theorem v8 (m : Nat) : (retireL (A6 m) M6 18446744073709551615 0).1 = (7, 0, true, 0) := by kernel_rfl
theorem v8b (m : Nat) : (retireL (A6 m) M6 18446744073709551615 0).2.2 = [] := by kernel_rfl
theorem v9 (m : Nat) : stateV (A7 m) [] = .agg #[.int .i64 1, .int .i64 1, .int .i64 0, .int .i64 0, .int .i64 0, .int .u64 0] := by kernel_rfl
theorem v10 (m : Nat) : readyL (A7 m) 0 0 = true := by kernel_rfl
abbrev TwoM (b m : Nat) (w w' : World) : Prop := Chg (fun k => k = b ∨ k = m) w w'
theorem mA0 (m : Nat) : (A0 m).m = m := by kernel_rfl
theorem mA1 (m : Nat) : (A1 m).m = m := by kernel_rfl
theorem mA2 (m : Nat) : (A2 m).m = m := by kernel_rfl
theorem mA3 (m : Nat) : (A3 m).m = m := by kernel_rfl
theorem mA4 (m : Nat) : (A4 m).m = m := by kernel_rfl
theorem mA5 (m : Nat) : (A5 m).m = m := by kernel_rfl
theorem mA6 (m : Nat) : (A6 m).m = m := by kernel_rfl
theorem mA7 (m : Nat) : (A7 m).m = m := by kernel_rfl
theorem two_of {b m : Nat} {L : Lane} {w w' : World} (h : L.m = m) (hc : Two b L w w') : TwoM b m w w' := by subst h; exact hc
section
variable (w : World) (b m : Nat)
theorem aw0 (h : St w b (A0 m) []) : Calls Try.prog 15 #[.pointer (some ⟨b, 0, none⟩)] w fun e_ w' => e_ = .returned (.tuple #[.agg #[.int .u64 18446744073709551615, .int .u64 0], .int .i64 0]) ∧ St w' b (A1 m) [] ∧ TwoM b m w w' :=
  (claim_st w b _ _ h).mono fun e w' ⟨he, hs, hc⟩ => ⟨by rw [he, v0], hs, two_of (mA0 m) hc⟩
theorem aw1 (h : St w b (A1 m) []) : Calls Try.prog 15 #[.pointer (some ⟨b, 0, none⟩)] w fun e_ w' => e_ = .returned (.tuple #[.agg #[.int .u64 0, .int .u64 0], .int .i64 0]) ∧ St w' b (A2 m) [] ∧ TwoM b m w w' :=
  (claim_st w b _ _ h).mono fun e w' ⟨he, hs, hc⟩ => ⟨by rw [he, v1], hs, two_of (mA1 m) hc⟩
theorem aw2 (h : St w b (A2 m) []) : Calls Try.prog 15 #[.pointer (some ⟨b, 0, none⟩)] w fun e_ w' => e_ = .returned (.tuple #[.agg #[.int .u64 0, .int .u64 0], .int .i64 81]) ∧ St w' b (A2 m) [] ∧ TwoM b m w w' :=
  (claim_st w b _ _ h).mono fun e w' ⟨he, hs, hc⟩ => ⟨by rw [he, v2], by rw [v2] at hs; exact hs, two_of (mA2 m) hc⟩
theorem aw3 (h : St w b (A2 m) []) : Calls Try.prog 16 #[.pointer (some ⟨b, 0, none⟩), .agg #[.int .u64 18446744073709551615, .int .u64 0], .agg #[.int .i64 7, .int .u64 0]] w fun e_ w' => e_ = .returned (.int .i64 0) ∧ St w' b (A3 m) [] ∧ TwoM b m w w' :=
  (lay_st w b _ _ h _ _ _ _ (by omega) (by omega)).mono fun e w' ⟨he, hs, hc⟩ => ⟨by rw [he, v3], hs, two_of (mA2 m) hc⟩
theorem aw4 (h : St w b (A3 m) []) : Calls Try.prog 16 #[.pointer (some ⟨b, 0, none⟩), .agg #[.int .u64 0, .int .u64 0], .agg #[.int .i64 8, .int .u64 0]] w fun e_ w' => e_ = .returned (.int .i64 0) ∧ St w' b (A4 m) [] ∧ TwoM b m w w' :=
  (lay_st w b _ _ h _ _ _ _ (by omega) (by omega)).mono fun e w' ⟨he, hs, hc⟩ => ⟨by rw [he, v4], hs, two_of (mA3 m) hc⟩
theorem aw5 (h : St w b (A4 m) []) : Calls Try.prog 20 #[.pointer (some ⟨b, 0, none⟩), .agg #[.int .u64 0, .int .u64 0], .agg #[.int .i64 1, .int .i64 0]] w fun e_ w' => e_ = .returned (.int .i64 83) ∧ St w' b (A4 m) [] ∧ TwoM b m w w' :=
  (publish_st w b _ _ h _ _ _ _ (by omega) (by omega)).mono fun e w' ⟨he, hs, hc⟩ => ⟨by rw [he, v5], by rw [v5] at hs; exact hs, two_of (mA4 m) hc⟩
theorem aw6 (h : St w b (A4 m) []) : Calls Try.prog 20 #[.pointer (some ⟨b, 0, none⟩), .agg #[.int .u64 18446744073709551615, .int .u64 0], .agg #[.int .i64 2, .int .i64 0]] w fun e_ w' => e_ = .returned (.int .i64 0) ∧ St w' b (A5 m) [] ∧ TwoM b m w w' :=
  (publish_st w b _ _ h _ _ _ _ (by omega) (by omega)).mono fun e w' ⟨he, hs, hc⟩ => ⟨by rw [he, v6], hs, two_of (mA4 m) hc⟩
theorem aw7 (h : St w b (A5 m) []) : Calls Try.prog 17 #[.pointer (some ⟨b, 0, none⟩)] w fun e_ w' => e_ = .returned (.tuple #[.agg #[.int .i64 7, .int .u64 0], .agg #[.int .u64 18446744073709551615, .int .u64 0], .int .i64 0]) ∧ St w' b (A6 m) M6 ∧ TwoM b m w w' :=
  (take_st w b _ _ h).mono fun e w' ⟨he, hs, hc⟩ => ⟨by rw [he, v7], by rw [v7b] at hs; exact hs, two_of (mA5 m) hc⟩
theorem aw8 (h : St w b (A6 m) M6) : Calls Try.prog 19 #[.pointer (some ⟨b, 0, none⟩), .agg #[.int .u64 18446744073709551615, .int .u64 0]] w fun e_ w' => e_ = .returned (.tuple #[.agg #[.int .i64 7, .int .u64 0], .bool true, .int .i64 0]) ∧ St w' b (A7 m) [] ∧ TwoM b m w w' :=
  (retire_st w b _ _ h _ _).mono fun e w' ⟨he, hs, hc⟩ => ⟨by rw [he, v8]; rfl, by rw [v8b] at hs; exact hs, two_of (mA6 m) hc⟩
theorem aw9 (h : St w b (A7 m) []) : Calls Try.prog 13 #[.pointer (some ⟨b, 0, none⟩)] w fun e_ w' => e_ = .returned (.agg #[.int .i64 1, .int .i64 1, .int .i64 0, .int .i64 0, .int .i64 0, .int .u64 0]) ∧ St w' b (A7 m) [] ∧ TwoM b m w w' :=
  (state_st w b _ _ h (by simp)).mono fun e w' ⟨he, hs, hc⟩ => ⟨by rw [he, v9], hs, Chg.below hc _⟩
theorem aw10 (h : St w b (A7 m) []) : Calls Try.prog 21 #[.pointer (some ⟨b, 0, none⟩), .agg #[.int .u64 0, .int .u64 0]] w fun e_ w' => e_ = .returned (.bool true) ∧ St w' b (A7 m) [] ∧ TwoM b m w w' :=
  (ready_st w b _ _ h _ _ (by omega) (by omega)).mono fun e w' ⟨he, hs, hc⟩ => ⟨by rw [he, v10], hs, Chg.below hc _⟩
end
end Go.Proofs.Ytekjhfhlbkcklaa.L
namespace Go.Proofs.Ytekjhfhlbkcklaa.L
open Go.RowKit Go.Proofs.Ytekjhfhlbkcklaa.K Go.Proofs.Ytekjhfhlbkcklaa.PA Go.Proofs.YtekjhfhlbkcklaaW.PrintWords
open Go.ChangeMaps (setBlock)
attribute [local go_sem ↓] Go.wp_at_zero Go.wp_at_succ

theorem below_two {w W W' : World} {b m : Nat} (h : Below w.heap.size w W) (hc : TwoM b m W W') (hb : w.heap.size ≤ b) (hm : w.heap.size ≤ m) : Below w.heap.size w W' :=
  ⟨hc.os.trans h.os, hc.tape.trans h.tape, hc.output.trans h.output, Nat.le_trans h.size hc.size, fun k hk => (hc.block k (Nat.lt_of_lt_of_le hk h.size) (by omega)).trans (h.block k hk)⟩
theorem not_two {b m g : Nat} (h1 : g ≠ b) (h2 : g ≠ m) : ¬ (g = b ∨ g = m) := by rintro (h | h); exact h1 h; exact h2 h
set_option maxHeartbeats 2000000 in
set_option maxRecDepth 100000 in
theorem awake_calls (w : World) : Calls Try.prog 9 #[] w fun e_ w' => e_ = .returned (.bool true) ∧ Below w.heap.size w w' := by
  have hu := Try.underlying34
  have hu2 := Try.underlying36
  have hu3 := Try.underlying38
  have hu4 := Try.underlying42
  go_enter Try.func9, Try.ntmps9
  go_upto_region 4 with (first | (go_at_call 10; refine (new_st _ 2 true 18446744073709551615 (by omega) (by omega) (by omega) (by omega)).mono ?_; rintro e_ w0 ⟨b, m, rfl, hs, hb, hm, hbel⟩; have HS := Aside0.mk (show St w0 b (A0 m) [] from hs); have HB := Aside0.mk hbel; clear hs hbel))
  have Hbm := Aside0.mk (And.intro hb hm)
  clear hb hm
  go_upto_region 5 with (first | (go_at_call 15; refine (aw0 _ b m HS.out).mono ?_; rintro e_ w1 ⟨rfl, hs, hc⟩; have HS1 := Aside0.mk hs; have HC1 := Aside0.mk hc; clear hs hc))
  have z1 := HC1.out.size
  have HSn := HS1.out
  replace HSn := HSn.alloc (.cells #[.int .u64 18446744073709551615, .int .u64 0] 34)
  have HBn := below_two HB.out HC1.out Hbm.out.1 Hbm.out.2
  replace HBn := below_alloc HBn (.cells #[.int .u64 18446744073709551615, .int .u64 0] 34)
  have T3n := blk_new w1 [.int .u64 18446744073709551615, .int .u64 0] 34
  have T3b : w1.heap.size ≠ b := by have := HS1.out.lt; omega
  have T3m : w1.heap.size ≠ m := by have h_ := HS1.out.mlt; rw [mA1] at h_; omega
  generalize hW : (w1.alloc (.cells #[.int .u64 18446744073709551615, .int .u64 0] 34)) = W1 at HSn HBn T3n ⊢
  replace HS := Aside0.mk HSn
  replace HB := Aside0.mk HBn
  have T3 := Aside0.mk T3n
  clear hW HSn HBn HS1 HC1 T3n
  go_upto_region 6 with (first | (go_at_call 15; refine (aw1 _ b m HS.out).mono ?_; rintro e_ w2 ⟨rfl, hs, hc⟩; have HS2 := Aside0.mk hs; have HC2 := Aside0.mk hc; clear hs hc))
  have z2 := HC2.out.size
  have HSn := HS2.out
  replace HSn := HSn.alloc (.cells #[.int .u64 0, .int .u64 0] 34)
  have HBn := below_two HB.out HC2.out Hbm.out.1 Hbm.out.2
  replace HBn := below_alloc HBn (.cells #[.int .u64 0, .int .u64 0] 34)
  have T3n := T3.out.chg HC2.out (not_two T3b T3m)
  replace T3n := T3n.alloc (.cells #[.int .u64 0, .int .u64 0] 34)
  have T5n := blk_new w2 [.int .u64 0, .int .u64 0] 34
  have T5b : w2.heap.size ≠ b := by have := HS2.out.lt; omega
  have T5m : w2.heap.size ≠ m := by have h_ := HS2.out.mlt; rw [mA2] at h_; omega
  generalize hW : (w2.alloc (.cells #[.int .u64 0, .int .u64 0] 34)) = W2 at HSn HBn T3n T5n ⊢
  replace HS := Aside0.mk HSn
  replace HB := Aside0.mk HBn
  replace T3 := Aside0.mk T3n
  have T5 := Aside0.mk T5n
  clear hW HSn HBn HS2 HC2 T3n T5n
  go_upto_region 7 with (first | (go_at_call 15; refine (aw2 _ b m HS.out).mono ?_; rintro e_ w3 ⟨rfl, hs, hc⟩; have HS3 := Aside0.mk hs; have HC3 := Aside0.mk hc; clear hs hc))
  have z3 := HC3.out.size
  have HSn := HS3.out
  replace HSn := HSn.alloc (.cells #[.int .u64 0, .int .u64 0] 34)
  have HBn := below_two HB.out HC3.out Hbm.out.1 Hbm.out.2
  replace HBn := below_alloc HBn (.cells #[.int .u64 0, .int .u64 0] 34)
  have T3n := T3.out.chg HC3.out (not_two T3b T3m)
  replace T3n := T3n.alloc (.cells #[.int .u64 0, .int .u64 0] 34)
  have T5n := T5.out.chg HC3.out (not_two T5b T5m)
  replace T5n := T5n.alloc (.cells #[.int .u64 0, .int .u64 0] 34)
  have T7n := blk_new w3 [.int .u64 0, .int .u64 0] 34
  have T7b : w3.heap.size ≠ b := by have := HS3.out.lt; omega
  have T7m : w3.heap.size ≠ m := by have h_ := HS3.out.mlt; rw [mA2] at h_; omega
  generalize hW : (w3.alloc (.cells #[.int .u64 0, .int .u64 0] 34)) = W3 at HSn HBn T3n T5n T7n ⊢
  replace HS := Aside0.mk HSn
  replace HB := Aside0.mk HBn
  replace T3 := Aside0.mk T3n
  replace T5 := Aside0.mk T5n
  have T7 := Aside0.mk T7n
  clear hW HSn HBn HS3 HC3 T3n T5n T7n
  have T3c0 : W3.cell? ⟨w1.heap.size, 0, none⟩ = some (.int .u64 18446744073709551615) := T3.out.cell rfl
  have T3c1 : W3.cell? ⟨w1.heap.size, 1, none⟩ = some (.int .u64 0) := T3.out.cell rfl
  have T5c0 : W3.cell? ⟨w2.heap.size, 0, none⟩ = some (.int .u64 0) := T5.out.cell rfl
  have T5c1 : W3.cell? ⟨w2.heap.size, 1, none⟩ = some (.int .u64 0) := T5.out.cell rfl
  have HSD := Aside0.mk HS.out.drew
  go_region_held3 (fun w' => w'.cell? ⟨w1.heap.size, 0, none⟩ = some (.int .u64 18446744073709551615) ∧ w'.cell? ⟨w1.heap.size, 1, none⟩ = some (.int .u64 0) ∧ w'.cell? ⟨w2.heap.size, 0, none⟩ = some (.int .u64 0) ∧ w'.cell? ⟨w2.heap.size, 1, none⟩ = some (.int .u64 0))
    (first
      | (try go_split_ands
         refine ⟨?_, ?_, ?_, ?_⟩ <;> (first | assumption | exact Chg.cell hc2 (by assumption) (not_two (by assumption) (by assumption)) | exact Chg.cell hc1 (by assumption) (not_two (by assumption) (by assumption)) | (go_simp; done))))
    (first
      | (go_at_call 16; refine (aw4 _ b m hs1.out).mono ?_; rintro e_ wb3 ⟨rfl, hs2, hc2⟩; replace hs2 := Aside0.mk hs2)
      | (go_at_call 16; refine (aw3 _ b m HSD.out).mono ?_; rintro e_ wa3 ⟨rfl, hs1, hc1⟩; replace hs1 := Aside0.mk hs1))
  have HBn := below_two (below_two HB.out.drew hc1 Hbm.out.1 Hbm.out.2) hc2 Hbm.out.1 Hbm.out.2
  have T3n := ((blk_drew T3.out).chg hc1 (not_two T3b T3m)).chg hc2 (not_two T3b T3m)
  have T5n := ((blk_drew T5.out).chg hc1 (not_two T5b T5m)).chg hc2 (not_two T5b T5m)
  have T7n := ((blk_drew T7.out).chg hc1 (not_two T7b T7m)).chg hc2 (not_two T7b T7m)
  replace HS := hs2
  replace HB := Aside0.mk HBn
  replace T3 := Aside0.mk T3n
  replace T5 := Aside0.mk T5n
  replace T7 := Aside0.mk T7n
  have zb := hc2.size
  have za := hc1.size
  clear HBn hs1 hs2 hc1 hc2 HSD T3n T5n T7n T3c0 T3c1 T5c0 T5c1
  go_upto_region 8 with fail
  have T3c0 : wb3.cell? ⟨w1.heap.size, 0, none⟩ = some (.int .u64 18446744073709551615) := T3.out.cell rfl
  have T3c1 : wb3.cell? ⟨w1.heap.size, 1, none⟩ = some (.int .u64 0) := T3.out.cell rfl
  have T5c0 : wb3.cell? ⟨w2.heap.size, 0, none⟩ = some (.int .u64 0) := T5.out.cell rfl
  have T5c1 : wb3.cell? ⟨w2.heap.size, 1, none⟩ = some (.int .u64 0) := T5.out.cell rfl
  have HSD := Aside0.mk HS.out.drew
  go_region_held3 (fun w' => w'.cell? ⟨w1.heap.size, 0, none⟩ = some (.int .u64 18446744073709551615) ∧ w'.cell? ⟨w1.heap.size, 1, none⟩ = some (.int .u64 0) ∧ w'.cell? ⟨w2.heap.size, 0, none⟩ = some (.int .u64 0) ∧ w'.cell? ⟨w2.heap.size, 1, none⟩ = some (.int .u64 0))
    (first
      | (try go_split_ands
         refine ⟨?_, ?_, ?_, ?_⟩ <;> (first | assumption | exact Chg.cell hc2 (by assumption) (not_two (by assumption) (by assumption)) | exact Chg.cell hc1 (by assumption) (not_two (by assumption) (by assumption)) | (go_simp; done))))
    (first
      | (go_at_call 20; refine (aw6 _ b m hs1.out).mono ?_; rintro e_ wb4 ⟨rfl, hs2, hc2⟩; replace hs2 := Aside0.mk hs2)
      | (go_at_call 20; refine (aw5 _ b m HSD.out).mono ?_; rintro e_ wa4 ⟨rfl, hs1, hc1⟩; replace hs1 := Aside0.mk hs1))
  have HBn := below_two (below_two HB.out.drew hc1 Hbm.out.1 Hbm.out.2) hc2 Hbm.out.1 Hbm.out.2
  have T3n := ((blk_drew T3.out).chg hc1 (not_two T3b T3m)).chg hc2 (not_two T3b T3m)
  have T5n := ((blk_drew T5.out).chg hc1 (not_two T5b T5m)).chg hc2 (not_two T5b T5m)
  have T7n := ((blk_drew T7.out).chg hc1 (not_two T7b T7m)).chg hc2 (not_two T7b T7m)
  replace HS := hs2
  replace HB := Aside0.mk HBn
  replace T3 := Aside0.mk T3n
  replace T5 := Aside0.mk T5n
  replace T7 := Aside0.mk T7n
  have zb := hc2.size
  have za := hc1.size
  clear HBn hs1 hs2 hc1 hc2 HSD T3n T5n T7n T3c0 T3c1 T5c0 T5c1
  go_upto_region 10 with (first | (go_at_call 17; refine (aw7 _ b m HS.out).mono ?_; rintro e_ w6 ⟨rfl, hs, hc⟩; have HS6 := Aside0.mk hs; have HC6 := Aside0.mk hc; clear hs hc))
  have z6 := HC6.out.size
  have HSn := HS6.out
  replace HSn := HSn.alloc (.cells #[.int .i64 7, .int .u64 0] 36)
  replace HSn := HSn.alloc (.cells #[.int .u64 18446744073709551615, .int .u64 0] 34)
  have HBn := below_two HB.out HC6.out Hbm.out.1 Hbm.out.2
  replace HBn := below_alloc HBn (.cells #[.int .i64 7, .int .u64 0] 36)
  replace HBn := below_alloc HBn (.cells #[.int .u64 18446744073709551615, .int .u64 0] 34)
  have T3n := T3.out.chg HC6.out (not_two T3b T3m)
  replace T3n := T3n.alloc (.cells #[.int .i64 7, .int .u64 0] 36)
  replace T3n := T3n.alloc (.cells #[.int .u64 18446744073709551615, .int .u64 0] 34)
  have T5n := T5.out.chg HC6.out (not_two T5b T5m)
  replace T5n := T5n.alloc (.cells #[.int .i64 7, .int .u64 0] 36)
  replace T5n := T5n.alloc (.cells #[.int .u64 18446744073709551615, .int .u64 0] 34)
  have T7n := T7.out.chg HC6.out (not_two T7b T7m)
  replace T7n := T7n.alloc (.cells #[.int .i64 7, .int .u64 0] 36)
  replace T7n := T7n.alloc (.cells #[.int .u64 18446744073709551615, .int .u64 0] 34)
  have T13n := blk_new w6 [.int .i64 7, .int .u64 0] 36
  replace T13n := T13n.alloc (.cells #[.int .u64 18446744073709551615, .int .u64 0] 34)
  have T14n := blk_new1 w6 (.cells #[.int .i64 7, .int .u64 0] 36) [.int .u64 18446744073709551615, .int .u64 0] 34
  have T13b : w6.heap.size ≠ b := by have := HS6.out.lt; omega
  have T13m : w6.heap.size ≠ m := by have h_ := HS6.out.mlt; rw [mA6] at h_; omega
  have T14b : w6.heap.size + 1 ≠ b := by have := HS6.out.lt; omega
  have T14m : w6.heap.size + 1 ≠ m := by have h_ := HS6.out.mlt; rw [mA6] at h_; omega
  generalize hW : ((w6.alloc (.cells #[.int .i64 7, .int .u64 0] 36)).alloc (.cells #[.int .u64 18446744073709551615, .int .u64 0] 34)) = W6 at HSn HBn T3n T5n T7n T13n T14n ⊢
  replace HS := Aside0.mk HSn
  replace HB := Aside0.mk HBn
  replace T3 := Aside0.mk T3n
  replace T5 := Aside0.mk T5n
  replace T7 := Aside0.mk T7n
  have T13 := Aside0.mk T13n
  have T14 := Aside0.mk T14n
  clear hW HSn HBn HS6 HC6 T3n T5n T7n T13n T14n
  have T14c0 : W6.cell? ⟨w6.heap.size + 1, 0, none⟩ = some (.int .u64 18446744073709551615) := T14.out.cell rfl
  have T14c1 : W6.cell? ⟨w6.heap.size + 1, 1, none⟩ = some (.int .u64 0) := T14.out.cell rfl
  go_upto_region 11 with (first | (go_at_call 19; refine (aw8 _ b m HS.out).mono ?_; rintro e_ w7 ⟨rfl, hs, hc⟩; have HS7 := Aside0.mk hs; have HC7 := Aside0.mk hc; clear hs hc))
  have z7 := HC7.out.size
  have HSn := HS7.out
  replace HSn := HSn.alloc (.cells #[.int .i64 7, .int .u64 0] 36)
  have HBn := below_two HB.out HC7.out Hbm.out.1 Hbm.out.2
  replace HBn := below_alloc HBn (.cells #[.int .i64 7, .int .u64 0] 36)
  have T3n := T3.out.chg HC7.out (not_two T3b T3m)
  replace T3n := T3n.alloc (.cells #[.int .i64 7, .int .u64 0] 36)
  have T5n := T5.out.chg HC7.out (not_two T5b T5m)
  replace T5n := T5n.alloc (.cells #[.int .i64 7, .int .u64 0] 36)
  have T7n := T7.out.chg HC7.out (not_two T7b T7m)
  replace T7n := T7n.alloc (.cells #[.int .i64 7, .int .u64 0] 36)
  have T13n := T13.out.chg HC7.out (not_two T13b T13m)
  replace T13n := T13n.alloc (.cells #[.int .i64 7, .int .u64 0] 36)
  have T14n := T14.out.chg HC7.out (not_two T14b T14m)
  replace T14n := T14n.alloc (.cells #[.int .i64 7, .int .u64 0] 36)
  have T16n := blk_new w7 [.int .i64 7, .int .u64 0] 36
  have T16b : w7.heap.size ≠ b := by have := HS7.out.lt; omega
  have T16m : w7.heap.size ≠ m := by have h_ := HS7.out.mlt; rw [mA7] at h_; omega
  generalize hW : (w7.alloc (.cells #[.int .i64 7, .int .u64 0] 36)) = W7 at HSn HBn T3n T5n T7n T13n T14n T16n ⊢
  replace HS := Aside0.mk HSn
  replace HB := Aside0.mk HBn
  replace T3 := Aside0.mk T3n
  replace T5 := Aside0.mk T5n
  replace T7 := Aside0.mk T7n
  replace T13 := Aside0.mk T13n
  replace T14 := Aside0.mk T14n
  have T16 := Aside0.mk T16n
  clear hW HSn HBn HS7 HC7 T3n T5n T7n T13n T14n T16n
  have T3c0 : W7.cell? ⟨w1.heap.size, 0, none⟩ = some (.int .u64 18446744073709551615) := T3.out.cell rfl
  have T3c1 : W7.cell? ⟨w1.heap.size, 1, none⟩ = some (.int .u64 0) := T3.out.cell rfl
  have T5c0 : W7.cell? ⟨w2.heap.size, 0, none⟩ = some (.int .u64 0) := T5.out.cell rfl
  have T5c1 : W7.cell? ⟨w2.heap.size, 1, none⟩ = some (.int .u64 0) := T5.out.cell rfl
  have T13c0 : W7.cell? ⟨w6.heap.size, 0, none⟩ = some (.int .i64 7) := T13.out.cell rfl
  have T13c1 : W7.cell? ⟨w6.heap.size, 1, none⟩ = some (.int .u64 0) := T13.out.cell rfl
  have T14c0 : W7.cell? ⟨w6.heap.size + 1, 0, none⟩ = some (.int .u64 18446744073709551615) := T14.out.cell rfl
  have T14c1 : W7.cell? ⟨w6.heap.size + 1, 1, none⟩ = some (.int .u64 0) := T14.out.cell rfl
  have T16c0 : W7.cell? ⟨w7.heap.size, 0, none⟩ = some (.int .i64 7) := T16.out.cell rfl
  have T16c1 : W7.cell? ⟨w7.heap.size, 1, none⟩ = some (.int .u64 0) := T16.out.cell rfl
  go_wp2_with (first
    | (go_at_call 13; refine (aw9 _ b m HS.out).mono ?_; rintro e_ ws ⟨rfl, hs, hc⟩; have HSs := Aside0.mk hs; have HBs := Aside0.mk (below_two HB.out hc Hbm.out.1 Hbm.out.2); have q0 := Chg.cell hc T5c0 (not_two T5b T5m); have q1 := Chg.cell hc T5c1 (not_two T5b T5m); clear hs hc)
    | (go_at_call 21; refine (aw10 _ b m HSs.out).mono ?_; rintro e_ wr ⟨rfl, hs, hc⟩; have HBr := Aside0.mk (below_two HBs.out hc Hbm.out.1 Hbm.out.2); clear hs hc))
  go_ret
  exact ⟨rfl, HBr.out⟩
end Go.Proofs.Ytekjhfhlbkcklaa.L

/-
  The law's example: two claims whose numbers wrap.
-/
import Derived.Test.YtekjhfhlbkcklaaLl
namespace Go.Proofs.Ytekjhfhlbkcklaa.L
open Go.RowKit Go.Proofs.Ytekjhfhlbkcklaa.K Go.Proofs.Ytekjhfhlbkcklaa.PA Go.Proofs.YtekjhfhlbkcklaaW.PrintWords
open Go.ChangeMaps (setBlock)
attribute [local go_sem ↓] Go.wp_at_zero Go.wp_at_succ

def A0 (m : Nat) : Lane := newL 2 true 18446744073709551615 m
def A1 (m : Nat) : Lane := (claimS (A0 m)).2
def A2 (m : Nat) : Lane := (claimS (A1 m)).2
def A3 (m : Nat) : Lane := (layL (A2 m) 18446744073709551615 0 7 0).1
def A4 (m : Nat) : Lane := (layL (A3 m) 0 0 8 0).1
def A5 (m : Nat) : Lane := (pubL (A4 m) 18446744073709551615 0 2 0).1
def A6 (m : Nat) : Lane := (takeS (A5 m) []).2.1
def M6 : Pasts := [(18446744073709551615, ⟨7, 0, false⟩)]
def A7 (m : Nat) : Lane := (retireL (A6 m) M6 18446744073709551615 0).2.1
theorem v0 (m : Nat) : (claimS (A0 m)).1 = (18446744073709551615, 0, 0) := by kernel_rfl
theorem v1 (m : Nat) : (claimS (A1 m)).1 = (0, 0, 0) := by kernel_rfl
theorem v2 (m : Nat) : claimS (A2 m) = ((0, 0, 81), A2 m) := by kernel_rfl
theorem v3 (m : Nat) : (layL (A2 m) 18446744073709551615 0 7 0).2 = 0 := by kernel_rfl
theorem v4 (m : Nat) : (layL (A3 m) 0 0 8 0).2 = 0 := by kernel_rfl
theorem v5 (m : Nat) : pubL (A4 m) 0 0 1 0 = (A4 m, 83) := by kernel_rfl
theorem v6 (m : Nat) : (pubL (A4 m) 18446744073709551615 0 2 0).2 = 0 := by kernel_rfl
theorem v7 (m : Nat) : (takeS (A5 m) []).1 = (7, 0, 18446744073709551615, 0, 0) := by kernel_rfl
theorem v7b (m : Nat) : (takeS (A5 m) []).2.2 = M6 := by kernel_rfl
theorem v8 (m : Nat) : (retireL (A6 m) M6 18446744073709551615 0).1 = (7, 0, true, 0) := by kernel_rfl
theorem v8b (m : Nat) : (retireL (A6 m) M6 18446744073709551615 0).2.2 = [] := by kernel_rfl
theorem v9 (m : Nat) : stateV (A7 m) [] = .agg #[.int .i64 1, .int .i64 1, .int .i64 0, .int .i64 0, .int .i64 0, .int .u64 0] := by kernel_rfl
theorem v10 (m : Nat) : readyL (A7 m) 0 0 = true := by kernel_rfl
abbrev TwoM (b m : Nat) (w w' : World) : Prop := Chg (fun k => k = b ∨ k = m) w w'
theorem mA0 (m : Nat) : (A0 m).m = m := by kernel_rfl
theorem mA1 (m : Nat) : (A1 m).m = m := by kernel_rfl
theorem mA2 (m : Nat) : (A2 m).m = m := by kernel_rfl
theorem mA3 (m : Nat) : (A3 m).m = m := by kernel_rfl
theorem mA4 (m : Nat) : (A4 m).m = m := by kernel_rfl
theorem mA5 (m : Nat) : (A5 m).m = m := by kernel_rfl
theorem mA6 (m : Nat) : (A6 m).m = m := by kernel_rfl
theorem mA7 (m : Nat) : (A7 m).m = m := by kernel_rfl
theorem two_of {b m : Nat} {L : Lane} {w w' : World} (h : L.m = m) (hc : Two b L w w') : TwoM b m w w' := by subst h; exact hc
section
variable (w : World) (b m : Nat)
theorem aw0 (h : St w b (A0 m) []) : Calls Try.prog 15 #[.pointer (some ⟨b, 0, none⟩)] w fun e_ w' => e_ = .returned (.tuple #[.agg #[.int .u64 18446744073709551615, .int .u64 0], .int .i64 0]) ∧ St w' b (A1 m) [] ∧ TwoM b m w w' :=
  (claim_st w b _ _ h).mono fun e w' ⟨he, hs, hc⟩ => ⟨by rw [he, v0], hs, two_of (mA0 m) hc⟩
theorem aw1 (h : St w b (A1 m) []) : Calls Try.prog 15 #[.pointer (some ⟨b, 0, none⟩)] w fun e_ w' => e_ = .returned (.tuple #[.agg #[.int .u64 0, .int .u64 0], .int .i64 0]) ∧ St w' b (A2 m) [] ∧ TwoM b m w w' :=
  (claim_st w b _ _ h).mono fun e w' ⟨he, hs, hc⟩ => ⟨by rw [he, v1], hs, two_of (mA1 m) hc⟩
theorem aw2 (h : St w b (A2 m) []) : Calls Try.prog 15 #[.pointer (some ⟨b, 0, none⟩)] w fun e_ w' => e_ = .returned (.tuple #[.agg #[.int .u64 0, .int .u64 0], .int .i64 81]) ∧ St w' b (A2 m) [] ∧ TwoM b m w w' :=
  (claim_st w b _ _ h).mono fun e w' ⟨he, hs, hc⟩ => ⟨by rw [he, v2], by rw [v2] at hs; exact hs, two_of (mA2 m) hc⟩
theorem aw3 (h : St w b (A2 m) []) : Calls Try.prog 16 #[.pointer (some ⟨b, 0, none⟩), .agg #[.int .u64 18446744073709551615, .int .u64 0], .agg #[.int .i64 7, .int .u64 0]] w fun e_ w' => e_ = .returned (.int .i64 0) ∧ St w' b (A3 m) [] ∧ TwoM b m w w' :=
  (lay_st w b _ _ h _ _ _ _ (by omega) (by omega)).mono fun e w' ⟨he, hs, hc⟩ => ⟨by rw [he, v3], hs, two_of (mA2 m) hc⟩
theorem aw4 (h : St w b (A3 m) []) : Calls Try.prog 16 #[.pointer (some ⟨b, 0, none⟩), .agg #[.int .u64 0, .int .u64 0], .agg #[.int .i64 8, .int .u64 0]] w fun e_ w' => e_ = .returned (.int .i64 0) ∧ St w' b (A4 m) [] ∧ TwoM b m w w' :=
  (lay_st w b _ _ h _ _ _ _ (by omega) (by omega)).mono fun e w' ⟨he, hs, hc⟩ => ⟨by rw [he, v4], hs, two_of (mA3 m) hc⟩
theorem aw5 (h : St w b (A4 m) []) : Calls Try.prog 20 #[.pointer (some ⟨b, 0, none⟩), .agg #[.int .u64 0, .int .u64 0], .agg #[.int .i64 1, .int .i64 0]] w fun e_ w' => e_ = .returned (.int .i64 83) ∧ St w' b (A4 m) [] ∧ TwoM b m w w' :=
  (publish_st w b _ _ h _ _ _ _ (by omega) (by omega)).mono fun e w' ⟨he, hs, hc⟩ => ⟨by rw [he, v5], by rw [v5] at hs; exact hs, two_of (mA4 m) hc⟩
theorem aw6 (h : St w b (A4 m) []) : Calls Try.prog 20 #[.pointer (some ⟨b, 0, none⟩), .agg #[.int .u64 18446744073709551615, .int .u64 0], .agg #[.int .i64 2, .int .i64 0]] w fun e_ w' => e_ = .returned (.int .i64 0) ∧ St w' b (A5 m) [] ∧ TwoM b m w w' :=
  (publish_st w b _ _ h _ _ _ _ (by omega) (by omega)).mono fun e w' ⟨he, hs, hc⟩ => ⟨by rw [he, v6], hs, two_of (mA4 m) hc⟩
theorem aw7 (h : St w b (A5 m) []) : Calls Try.prog 17 #[.pointer (some ⟨b, 0, none⟩)] w fun e_ w' => e_ = .returned (.tuple #[.agg #[.int .i64 7, .int .u64 0], .agg #[.int .u64 18446744073709551615, .int .u64 0], .int .i64 0]) ∧ St w' b (A6 m) M6 ∧ TwoM b m w w' :=
  (take_st w b _ _ h).mono fun e w' ⟨he, hs, hc⟩ => ⟨by rw [he, v7], by rw [v7b] at hs; exact hs, two_of (mA5 m) hc⟩
theorem aw8 (h : St w b (A6 m) M6) : Calls Try.prog 19 #[.pointer (some ⟨b, 0, none⟩), .agg #[.int .u64 18446744073709551615, .int .u64 0]] w fun e_ w' => e_ = .returned (.tuple #[.agg #[.int .i64 7, .int .u64 0], .bool true, .int .i64 0]) ∧ St w' b (A7 m) [] ∧ TwoM b m w w' :=
  (retire_st w b _ _ h _ _).mono fun e w' ⟨he, hs, hc⟩ => ⟨by rw [he, v8]; rfl, by rw [v8b] at hs; exact hs, two_of (mA6 m) hc⟩
theorem aw9 (h : St w b (A7 m) []) : Calls Try.prog 13 #[.pointer (some ⟨b, 0, none⟩)] w fun e_ w' => e_ = .returned (.agg #[.int .i64 1, .int .i64 1, .int .i64 0, .int .i64 0, .int .i64 0, .int .u64 0]) ∧ St w' b (A7 m) [] ∧ TwoM b m w w' :=
  (state_st w b _ _ h (by simp)).mono fun e w' ⟨he, hs, hc⟩ => ⟨by rw [he, v9], hs, Chg.below hc _⟩
theorem aw10 (h : St w b (A7 m) []) : Calls Try.prog 21 #[.pointer (some ⟨b, 0, none⟩), .agg #[.int .u64 0, .int .u64 0]] w fun e_ w' => e_ = .returned (.bool true) ∧ St w' b (A7 m) [] ∧ TwoM b m w w' :=
  (ready_st w b _ _ h _ _ (by omega) (by omega)).mono fun e w' ⟨he, hs, hc⟩ => ⟨by rw [he, v10], hs, Chg.below hc _⟩
end
end Go.Proofs.Ytekjhfhlbkcklaa.L

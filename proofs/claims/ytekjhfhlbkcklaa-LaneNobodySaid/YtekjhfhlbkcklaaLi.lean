/-
  The lane's methods: State.
-/
import Derived.Test.YtekjhfhlbkcklaaLh
import Derived.Test.YtekjhfhlbkcklaaKd
import Derived.Deep.LoopGhost
namespace Go.Proofs.Ytekjhfhlbkcklaa.L
open Go.RowKit Go.Proofs.Ytekjhfhlbkcklaa.K Go.Proofs.Ytekjhfhlbkcklaa.PA Go.Proofs.YtekjhfhlbkcklaaW.PrintWords
open Go.ChangeMaps (setBlock)
attribute [local go_sem ↓] Go.wp_at_zero Go.wp_at_succ

def nHeld (M : Pasts) : Nat := (M.filter (fun p => p.2.held)).length
def nTaken (M : Pasts) : Nat := (M.filter (fun p => !p.2.held)).length
theorem nHeld_perm {a b : Pasts} (h : a.Perm b) : nHeld a = nHeld b := (h.filter _).length_eq
theorem nTaken_perm {a b : Pasts} (h : a.Perm b) : nTaken a = nTaken b := (h.filter _).length_eq
def diffL (a b : Int) : Int := IntKind.i64.wrap (IntKind.u64.wrap (a - b))
def stateCells (L : Lane) (T H : Nat) : List Value := [.int .i64 L.left, .int .i64 (diffL L.tail L.ready), .int .i64 (diffL L.ready L.head), .int .i64 T, .int .i64 H, .int .u64 L.epoch]
def stateV (L : Lane) (M : Pasts) : Value := .agg #[.int .i64 L.left, .int .i64 (diffL L.tail L.ready), .int .i64 (diffL L.ready L.head), .int .i64 (nTaken M), .int .i64 (nHeld M), .int .u64 L.epoch]
set_option maxHeartbeats 4000000 in
set_option maxRecDepth 100000 in
theorem state_calls (w : World) (b : Nat) (L : Lane) (M : Pasts) (h : IsLane w b L) (hok : Ok L) (hM : IsMap w L.m M) (hmb : L.m ≠ b) (hlen : M.length ≤ 1000) :
    Calls Try.prog 13 #[.pointer (some ⟨b, 0, none⟩)] w fun e_ w' => e_ = .returned (stateV L M) ∧ Below w.heap.size w w' := by
  have hlt := h.lt
  have n0 : w.heap.size ≠ b := by omega
  have hmlt := hM.lt
  have nm0 : w.heap.size ≠ L.m := by omega
  have HL := Aside0.mk h
  have HM := Aside0.mk hM
  have HIS := Aside0.mk (fun W (hl : IsLane W b L) => is_at W b L hl true (by simp [hok.credit]))
  have c2 := h.c_left
  have c6 := h.c_head
  have c7 := h.c_ready
  have c8 := h.c_tail
  have c9 := h.c_epoch
  clear h hM hok
  go_enter Try.func13, Try.ntmps13
  go_wp2_with (first | (go_at_call 34; refine (HIS.out _ ?side).mono ?_; (case side => exact (by repeat (first | with_reducible exact HL.out | apply IsLane.alloc | apply IsLane.drewN | apply IsLane.drew))); rintro e_ w' ⟨rfl, rfl⟩))
  go_region_held3 (fun w' => w'.cell? ⟨b, 2, none⟩ = some (.int .i64 L.left) ∧ w'.cell? ⟨b, 325, none⟩ = some (.int .u64 L.head) ∧ w'.cell? ⟨b, 326, none⟩ = some (.int .u64 L.ready) ∧ w'.cell? ⟨b, 327, none⟩ = some (.int .u64 L.tail) ∧ w'.cell? ⟨b, 328, none⟩ = some (.int .u64 L.epoch))
    (first
      | go_keep
      | (go_split_ands; refine ⟨?_, ?_, ?_, ?_, ?_⟩ <;> (go_simp; done))) (fail)
  have HLX : IsLane (((w.alloc (.cells #[.int .i64 0, .int .i64 0, .int .i64 0, .int .i64 0, .int .i64 0, .int .u64 0] 42)).alloc (.cells #[.int .i64 L.left, .int .i64 (IntKind.i64.wrap (IntKind.u64.wrap (L.tail - L.ready))), .int .i64 (IntKind.i64.wrap (IntKind.u64.wrap (L.ready - L.head))), .int .i64 0, .int .i64 0, .int .u64 L.epoch] 42)).drew) b L := ((HL.out.alloc _).alloc _).drew
  have HMX : IsMap (((w.alloc (.cells #[.int .i64 0, .int .i64 0, .int .i64 0, .int .i64 0, .int .i64 0, .int .u64 0] 42)).alloc (.cells #[.int .i64 L.left, .int .i64 (IntKind.i64.wrap (IntKind.u64.wrap (L.tail - L.ready))), .int .i64 (IntKind.i64.wrap (IntKind.u64.wrap (L.ready - L.head))), .int .i64 0, .int .i64 0, .int .u64 L.epoch] 42)).drew) L.m M := ((HM.out.alloc _).alloc _).drew
  have B2X := blk_drew ((blk_new w [.int .i64 0, .int .i64 0, .int .i64 0, .int .i64 0, .int .i64 0, .int .u64 0] 42).alloc (.cells #[.int .i64 L.left, .int .i64 (IntKind.i64.wrap (IntKind.u64.wrap (L.tail - L.ready))), .int .i64 (IntKind.i64.wrap (IntKind.u64.wrap (L.ready - L.head))), .int .i64 0, .int .i64 0, .int .u64 L.epoch] 42))
  have B3X : Blk (((w.alloc (.cells #[.int .i64 0, .int .i64 0, .int .i64 0, .int .i64 0, .int .i64 0, .int .u64 0] 42)).alloc (.cells #[.int .i64 L.left, .int .i64 (IntKind.i64.wrap (IntKind.u64.wrap (L.tail - L.ready))), .int .i64 (IntKind.i64.wrap (IntKind.u64.wrap (L.ready - L.head))), .int .i64 0, .int .i64 0, .int .u64 L.epoch] 42)).drew) (w.heap.size + 1) (stateCells L 0 0) 42 := blk_drew (blk_new1 w (.cells #[.int .i64 0, .int .i64 0, .int .i64 0, .int .i64 0, .int .i64 0, .int .u64 0] 42) (stateCells L 0 0) 42)
  have HBX : Below w.heap.size w (((w.alloc (.cells #[.int .i64 0, .int .i64 0, .int .i64 0, .int .i64 0, .int .i64 0, .int .u64 0] 42)).alloc (.cells #[.int .i64 L.left, .int .i64 (IntKind.i64.wrap (IntKind.u64.wrap (L.tail - L.ready))), .int .i64 (IntKind.i64.wrap (IntKind.u64.wrap (L.ready - L.head))), .int .i64 0, .int .i64 0, .int .u64 L.epoch] 42)).drew) := (((Below.refl w.heap.size w).alloc (Nat.le_refl _) _).alloc (by simp) _).drew
  have hsX : (((w.alloc (.cells #[.int .i64 0, .int .i64 0, .int .i64 0, .int .i64 0, .int .i64 0, .int .u64 0] 42)).alloc (.cells #[.int .i64 L.left, .int .i64 (IntKind.i64.wrap (IntKind.u64.wrap (L.tail - L.ready))), .int .i64 (IntKind.i64.wrap (IntKind.u64.wrap (L.ready - L.head))), .int .i64 0, .int .i64 0, .int .u64 L.epoch] 42)).drew).heap.size = w.heap.size + 2 := by simp
  generalize hX : ((w.alloc (.cells #[.int .i64 0, .int .i64 0, .int .i64 0, .int .i64 0, .int .i64 0, .int .u64 0] 42)).alloc (.cells #[.int .i64 L.left, .int .i64 (IntKind.i64.wrap (IntKind.u64.wrap (L.tail - L.ready))), .int .i64 (IntKind.i64.wrap (IntKind.u64.wrap (L.ready - L.head))), .int .i64 0, .int .i64 0, .int .u64 L.epoch] 42)).drew = X at HLX HMX B2X B3X HBX hsX ⊢
  have HLX' := Aside0.mk HLX
  have HMX' := Aside0.mk HMX
  have B2X' := Aside0.mk B2X
  have B3X' := Aside0.mk B3X
  have HBX' := Aside0.mk HBX
  obtain ⟨o, hrg, hit⟩ := Iter.start (P := Try.prog) (T := 65) (K := 22) (E := 79) HMX Try.underlying65
  have hit0 := Aside0.mk hit
  clear hX HLX HMX B2X B3X HBX hit c2 c6 c7 c8 c9 HL HM HIS
  have c10 := HLX'.out.c_m
  go_wp2
  rw [hsX] at hit0
  go_loopg [5] M.length (fun gg v5 wr => ∃ (rest : Pasts) (T H : Nat), rest.length ≤ gg ∧ T + nTaken rest = nTaken M ∧ H + nHeld rest = nHeld M ∧ w.heap.size + 2 < wr.heap.size ∧ Aside0 (Iter .u64 Past.enc wr L.m (w.heap.size + 2) M rest) ∧ Aside0 (Blk wr w.heap.size [.int .i64 0, .int .i64 0, .int .i64 0, .int .i64 0, .int .i64 0, .int .u64 0] 42) ∧ Aside0 (Blk wr (w.heap.size + 1) (stateCells L T H) 42) ∧ Aside0 (Below w.heap.size w wr))
  case atStart =>
    exact ⟨M, 0, 0, Nat.le_refl _, by omega, by omega, by simp [hsX], hit0, ⟨B2X'.out.alloc _⟩, ⟨B3X'.out.alloc _⟩, ⟨HBX'.out.alloc (by omega) _⟩⟩
  case round =>
    obtain ⟨rest, T, H, hg, hT, hH, hsz, HI, H2, H3, HB⟩ := hrel
    have nm2 : w.heap.size + 2 ≠ L.m := by omega
    have k0 : w.heap.size + 2 ≠ w.heap.size + 1 := by omega
    have k1 : w.heap.size + 2 ≠ w.heap.size := by omega
    rcases Iter.next (P := Try.prog) HI.out with ⟨rfl, hnx⟩ | ⟨p, rest', o2, w1, hpM, hperm, hw1, hnx, hI2, hen⟩
    · have d0 : wr.cell? ⟨w.heap.size + 1, 0, none⟩ = some (.int .i64 L.left) := H3.out.cell rfl
      have d1 : wr.cell? ⟨w.heap.size + 1, 1, none⟩ = some (.int .i64 (diffL L.tail L.ready)) := H3.out.cell rfl
      have d2 : wr.cell? ⟨w.heap.size + 1, 2, none⟩ = some (.int .i64 (diffL L.ready L.head)) := H3.out.cell rfl
      have d3 : wr.cell? ⟨w.heap.size + 1, 3, none⟩ = some (.int .i64 T) := H3.out.cell rfl
      have d4 : wr.cell? ⟨w.heap.size + 1, 4, none⟩ = some (.int .i64 H) := H3.out.cell rfl
      have d5 : wr.cell? ⟨w.heap.size + 1, 5, none⟩ = some (.int .u64 L.epoch) := H3.out.cell rfl
      have x0 : wr.cell? ⟨w.heap.size, 0, none⟩ = some (.int .i64 0) := H2.out.cell rfl
      have x1 : wr.cell? ⟨w.heap.size, 1, none⟩ = some (.int .i64 0) := H2.out.cell rfl
      have x2 : wr.cell? ⟨w.heap.size, 2, none⟩ = some (.int .i64 0) := H2.out.cell rfl
      have x3 : wr.cell? ⟨w.heap.size, 3, none⟩ = some (.int .i64 0) := H2.out.cell rfl
      have x4 : wr.cell? ⟨w.heap.size, 4, none⟩ = some (.int .i64 0) := H2.out.cell rfl
      have x5 : wr.cell? ⟨w.heap.size, 5, none⟩ = some (.int .u64 0) := H2.out.cell rfl
      have f2 := H2.out.frozen
      have hT' : T = nTaken M := by rw [← hT]; rfl
      have hH' : H = nHeld M := by rw [← hH]; rfl
      go_wp2
      refine bodyPost_ret (v := stateV L M) (by simp [results, Try.results13, go_sem, stateV, x0, x1, x2, x3, x4, x5, hT', hH']) rfl ⟨rfl, ?_⟩
      exact (by repeat (first | (with_reducible exact HB.out) | refine Below.setCell ?_ (by simp) _ | apply pw_below_drewN | apply below_drew))
    · obtain ⟨X1, hX1⟩ : ∃ X1, setBlock w1 (w.heap.size + 2) o2 = X1 := ⟨_, rfl⟩
      rw [hX1] at hnx hI2 hen
      have hen1 := hen X1 rfl rfl
      have hz1 : X1.heap.size = wr.heap.size := by rw [← hX1, setBlock_size]; rcases hw1 with rfl | rfl <;> rfl
      have H2X : Blk X1 w.heap.size [.int .i64 0, .int .i64 0, .int .i64 0, .int .i64 0, .int .i64 0, .int .u64 0] 42 := by rw [← hX1]; exact Blk.setBlock (by rcases hw1 with rfl | rfl <;> exact H2.out) k1 _
      have H3X : Blk X1 (w.heap.size + 1) (stateCells L T H) 42 := by rw [← hX1]; exact Blk.setBlock (by rcases hw1 with rfl | rfl <;> exact H3.out) k0 _
      have HBX : Below w.heap.size w X1 := by
        have h1 : Below w.heap.size w w1 := by
          rcases hw1 with rfl | rfl
          · exact HB.out
          · exact HB.out.drew
        rw [← hX1]
        exact ⟨h1.os, h1.tape, h1.output, by rw [setBlock_size]; exact h1.size, fun k hk => by simp only [ChangeMaps.setBlock, Array.getElem?_setIfInBounds]; rw [if_neg (by omega)]; exact h1.block k hk⟩
      obtain ⟨pk, pn, pg, ph⟩ := p
      have hcnt : nTaken rest = (if ph then 0 else 1) + nTaken rest' ∧ nHeld rest = (if ph then 1 else 0) + nHeld rest' := by
        rw [nTaken_perm hperm, nHeld_perm hperm]
        cases ph <;> simp [nTaken, nHeld] <;> omega
      have hrl : rest.length = rest'.length + 1 := by have := hperm.length_eq; simpa using this
      have hTM : nTaken M ≤ M.length := List.length_filter_le _ _
      have hHM : nHeld M ≤ M.length := List.length_filter_le _ _
      have HI2 := Aside0.mk hI2
      have H2' := Aside0.mk H2X
      have H3' := Aside0.mk H3X
      have HB' := Aside0.mk HBX
      have hez : Past.enc ⟨pn, pg, ph⟩ = .agg #[.int .i64 pn, .int .u64 pg, .bool ph] := rfl
      rw [hez] at hnx hen1
      clear hI2 H2X H3X HBX hX1 hen hw1 hez HI H2 H3 HB hperm hpM
      have z0 : w.heap.size + 1 < X1.heap.size := by omega
      have z1 : w.heap.size + 1 ≠ X1.heap.size := by omega
      have z2 : X1.heap.size ≠ w.heap.size + 1 := by omega
      have z3 : w.heap.size < X1.heap.size := by omega
      have d3 : X1.cell? ⟨w.heap.size + 1, 3, none⟩ = some (.int .i64 T) := H3'.out.cell rfl
      have d4 : X1.cell? ⟨w.heap.size + 1, 4, none⟩ = some (.int .i64 H) := H3'.out.cell rfl
      have f3 := H3'.out.frozen
      clear hz1
      have eT : (T : Int) + 1 ≤ 2000 := by omega
      have eH : (H : Int) + 1 ≤ 2000 := by omega
      cases ph with
      | true =>
        go_wp2
        go_roundg rest'.length
        case measure => omega
        case rel =>
          refine ⟨rest', T, H + 1, Nat.le_refl _, by simp at hcnt; omega, by simp at hcnt; omega, by simp; omega, ?_, ?_, ?_, ?_⟩
          · exact ⟨(by repeat (first | with_reducible exact HI2.out | apply Iter.setCell | apply Iter.alloc))⟩
          · exact ⟨(H2'.out.other (p := ⟨w.heap.size + 1, 4, none⟩) (by simp) _).alloc _⟩
          · refine ⟨?_⟩
            have h1 := (H3'.out.set 4 (.int .i64 ((H : Nat) + 1 : Int))).alloc (.cells #[.int .i64 pn, .int .u64 pg, .bool true] 79)
            exact h1
          · exact ⟨(HB'.out.setCell (by simp) _).alloc (by simp; omega) _⟩
      | false =>
        go_wp2
        go_roundg rest'.length
        case measure => omega
        case rel =>
          refine ⟨rest', T + 1, H, Nat.le_refl _, by simp at hcnt; omega, by simp at hcnt; omega, by simp; omega, ?_, ?_, ?_, ?_⟩
          · exact ⟨(by repeat (first | with_reducible exact HI2.out | apply Iter.setCell | apply Iter.alloc))⟩
          · exact ⟨(H2'.out.other (p := ⟨w.heap.size + 1, 3, none⟩) (by simp) _).alloc _⟩
          · refine ⟨?_⟩
            have h1 := (H3'.out.set 3 (.int .i64 ((T : Nat) + 1 : Int))).alloc (.cells #[.int .i64 pn, .int .u64 pg, .bool false] 79)
            exact h1
          · exact ⟨(HB'.out.setCell (by simp) _).alloc (by simp; omega) _⟩
end Go.Proofs.Ytekjhfhlbkcklaa.L

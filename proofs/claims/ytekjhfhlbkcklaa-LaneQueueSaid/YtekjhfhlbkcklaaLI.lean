/-
  The lane's methods: State. · New: an empty lane. · A lane that nobody made: nil, or all nought: every method refuses. · The lane's methods, in one form: a lane that was made, its map; what each call makes of both.
-/
import Derived.Test.YtekjhfhlbkcklaaLG
import Derived.Test.YtekjhfhlbkcklaaK
import Derived.Deep.LoopGhost
import Derived.Test.YtekjhfhlbkcklaaPAx2
set_option linter.unusedVariables false
set_option linter.unusedSimpArgs false
namespace Go.Proofs.Ytekjhfhlbkcklaa.L
open Go.RowKit Go.Proofs.Ytekjhfhlbkcklaa.K Go.Proofs.Ytekjhfhlbkcklaa.PA Go.Proofs.YtekjhfhlbkcklaaW.PrintWords
open Go.ChangeMaps (setBlock)
attribute [local go_sem ↓] Go.wp_at_zero Go.wp_at_succ

def nHeld (M : Pasts) : Nat := (M.filter (fun p => p.2.held)).length
def nTaken (M : Pasts) : Nat := (M.filter (fun p => !p.2.held)).length
theorem nHeld_perm {a b : Pasts} (h : a.Perm b) : nHeld a = nHeld b := (h.filter _).length_eq
theorem nTaken_perm {a b : Pasts} (h : a.Perm b) : nTaken a = nTaken b := (h.filter _).length_eq
def diffL (a b : Int) : Int := IntKind.i64.wrap (IntKind.u64.wrap (a - b))
def stateCells (L : Lane) (T H : Nat) : List Value := [.int .i64 L.left, .int .i64 (diffL L.tail L.ready), .int .i64 (diffL L.ready L.head), .int .i64 T, .int .i64 H, .int .u64 L.epoch]
def stateV (L : Lane) (M : Pasts) : Value := .agg #[.int .i64 L.left, .int .i64 (diffL L.tail L.ready), .int .i64 (diffL L.ready L.head), .int .i64 (nTaken M), .int .i64 (nHeld M), .int .u64 L.epoch]
set_option maxHeartbeats 4000000 in
set_option maxRecDepth 100000 in
theorem state_calls (w : World) (b : Nat) (L : Lane) (M : Pasts) (h : IsLane w b L) (hok : Ok L) (hM : IsMap w L.m M) (hmb : L.m ≠ b) (hlen : M.length ≤ 1000) :
    Calls Try.prog 13 #[.pointer (some ⟨b, 0, none⟩)] w fun e_ w' => e_ = .returned (stateV L M) ∧ Below w.heap.size w w' := by
  have hlt := h.lt
  have n0 : w.heap.size ≠ b := by omega
  have hmlt := hM.lt
  have nm0 : w.heap.size ≠ L.m := by omega
  have HL := Aside0.mk h
  have HM := Aside0.mk hM
  have HIS := Aside0.mk (fun W (hl : IsLane W b L) => is_at W b L hl true (by simp [hok.credit]))
  have c2 := h.c_left
  have c6 := h.c_head
  have c7 := h.c_ready
  have c8 := h.c_tail
  have c9 := h.c_epoch
  clear h hM hok
  go_enter Try.func13, Try.ntmps13
  go_wp2_with (first | (go_at_call 34; refine (HIS.out _ ?side).mono ?_; (case side => exact (by repeat (first | with_reducible exact HL.out | apply IsLane.alloc | apply IsLane.drewN | apply IsLane.drew))); rintro e_ w' ⟨rfl, rfl⟩))
  go_region_held3 (fun w' => w'.cell? ⟨b, 2, none⟩ = some (.int .i64 L.left) ∧ w'.cell? ⟨b, 325, none⟩ = some (.int .u64 L.head) ∧ w'.cell? ⟨b, 326, none⟩ = some (.int .u64 L.ready) ∧ w'.cell? ⟨b, 327, none⟩ = some (.int .u64 L.tail) ∧ w'.cell? ⟨b, 328, none⟩ = some (.int .u64 L.epoch))
    (first
      | go_keep
      | (go_split_ands; refine ⟨?_, ?_, ?_, ?_, ?_⟩ <;> (go_simp; done))) (fail)
  have HLX : IsLane (((w.alloc (.cells #[.int .i64 0, .int .i64 0, .int .i64 0, .int .i64 0, .int .i64 0, .int .u64 0] 42)).alloc (.cells #[.int .i64 L.left, .int .i64 (IntKind.i64.wrap (IntKind.u64.wrap (L.tail - L.ready))), .int .i64 (IntKind.i64.wrap (IntKind.u64.wrap (L.ready - L.head))), .int .i64 0, .int .i64 0, .int .u64 L.epoch] 42)).drew) b L := ((HL.out.alloc _).alloc _).drew
  have HMX : IsMap (((w.alloc (.cells #[.int .i64 0, .int .i64 0, .int .i64 0, .int .i64 0, .int .i64 0, .int .u64 0] 42)).alloc (.cells #[.int .i64 L.left, .int .i64 (IntKind.i64.wrap (IntKind.u64.wrap (L.tail - L.ready))), .int .i64 (IntKind.i64.wrap (IntKind.u64.wrap (L.ready - L.head))), .int .i64 0, .int .i64 0, .int .u64 L.epoch] 42)).drew) L.m M := ((HM.out.alloc _).alloc _).drew
  have B2X := blk_drew ((blk_new w [.int .i64 0, .int .i64 0, .int .i64 0, .int .i64 0, .int .i64 0, .int .u64 0] 42).alloc (.cells #[.int .i64 L.left, .int .i64 (IntKind.i64.wrap (IntKind.u64.wrap (L.tail - L.ready))), .int .i64 (IntKind.i64.wrap (IntKind.u64.wrap (L.ready - L.head))), .int .i64 0, .int .i64 0, .int .u64 L.epoch] 42))
  have B3X : Blk (((w.alloc (.cells #[.int .i64 0, .int .i64 0, .int .i64 0, .int .i64 0, .int .i64 0, .int .u64 0] 42)).alloc (.cells #[.int .i64 L.left, .int .i64 (IntKind.i64.wrap (IntKind.u64.wrap (L.tail - L.ready))), .int .i64 (IntKind.i64.wrap (IntKind.u64.wrap (L.ready - L.head))), .int .i64 0, .int .i64 0, .int .u64 L.epoch] 42)).drew) (w.heap.size + 1) (stateCells L 0 0) 42 := blk_drew (blk_new1 w (.cells #[.int .i64 0, .int .i64 0, .int .i64 0, .int .i64 0, .int .i64 0, .int .u64 0] 42) (stateCells L 0 0) 42)
  have HBX : Below w.heap.size w (((w.alloc (.cells #[.int .i64 0, .int .i64 0, .int .i64 0, .int .i64 0, .int .i64 0, .int .u64 0] 42)).alloc (.cells #[.int .i64 L.left, .int .i64 (IntKind.i64.wrap (IntKind.u64.wrap (L.tail - L.ready))), .int .i64 (IntKind.i64.wrap (IntKind.u64.wrap (L.ready - L.head))), .int .i64 0, .int .i64 0, .int .u64 L.epoch] 42)).drew) := (((Below.refl w.heap.size w).alloc (Nat.le_refl _) _).alloc (by simp) _).drew
  have hsX : (((w.alloc (.cells #[.int .i64 0, .int .i64 0, .int .i64 0, .int .i64 0, .int .i64 0, .int .u64 0] 42)).alloc (.cells #[.int .i64 L.left, .int .i64 (IntKind.i64.wrap (IntKind.u64.wrap (L.tail - L.ready))), .int .i64 (IntKind.i64.wrap (IntKind.u64.wrap (L.ready - L.head))), .int .i64 0, .int .i64 0, .int .u64 L.epoch] 42)).drew).heap.size = w.heap.size + 2 := by simp
  generalize hX : ((w.alloc (.cells #[.int .i64 0, .int .i64 0, .int .i64 0, .int .i64 0, .int .i64 0, .int .u64 0] 42)).alloc (.cells #[.int .i64 L.left, .int .i64 (IntKind.i64.wrap (IntKind.u64.wrap (L.tail - L.ready))), .int .i64 (IntKind.i64.wrap (IntKind.u64.wrap (L.ready - L.head))), .int .i64 0, .int .i64 0, .int .u64 L.epoch] 42)).drew = X at HLX HMX B2X B3X HBX hsX ⊢
  have HLX' := Aside0.mk HLX
  have HMX' := Aside0.mk HMX
  have B2X' := Aside0.mk B2X
  have B3X' := Aside0.mk B3X
  have HBX' := Aside0.mk HBX
  obtain ⟨o, hrg, hit⟩ := Iter.start (P := Try.prog) (T := 65) (K := 22) (E := 79) HMX Try.underlying65
  have hit0 := Aside0.mk hit
  clear hX HLX HMX B2X B3X HBX hit c2 c6 c7 c8 c9 HL HM HIS
  have c10 := HLX'.out.c_m
  go_wp2
  rw [hsX] at hit0
  go_loopg [5] M.length (fun gg v5 wr => ∃ (rest : Pasts) (T H : Nat), rest.length ≤ gg ∧ T + nTaken rest = nTaken M ∧ H + nHeld rest = nHeld M ∧ w.heap.size + 2 < wr.heap.size ∧ Aside0 (Iter .u64 Past.enc wr L.m (w.heap.size + 2) M rest) ∧ Aside0 (Blk wr w.heap.size [.int .i64 0, .int .i64 0, .int .i64 0, .int .i64 0, .int .i64 0, .int .u64 0] 42) ∧ Aside0 (Blk wr (w.heap.size + 1) (stateCells L T H) 42) ∧ Aside0 (Below w.heap.size w wr))
  case atStart =>
    exact ⟨M, 0, 0, Nat.le_refl _, by omega, by omega, by simp [hsX], hit0, ⟨B2X'.out.alloc _⟩, ⟨B3X'.out.alloc _⟩, ⟨HBX'.out.alloc (by omega) _⟩⟩
  case round =>
    obtain ⟨rest, T, H, hg, hT, hH, hsz, HI, H2, H3, HB⟩ := hrel
    have nm2 : w.heap.size + 2 ≠ L.m := by omega
    have k0 : w.heap.size + 2 ≠ w.heap.size + 1 := by omega
    have k1 : w.heap.size + 2 ≠ w.heap.size := by omega
    rcases Iter.next (P := Try.prog) HI.out with ⟨rfl, hnx⟩ | ⟨p, rest', o2, w1, hpM, hperm, hw1, hnx, hI2, hen⟩
    · have d0 : wr.cell? ⟨w.heap.size + 1, 0, none⟩ = some (.int .i64 L.left) := H3.out.cell rfl
      have d1 : wr.cell? ⟨w.heap.size + 1, 1, none⟩ = some (.int .i64 (diffL L.tail L.ready)) := H3.out.cell rfl
      have d2 : wr.cell? ⟨w.heap.size + 1, 2, none⟩ = some (.int .i64 (diffL L.ready L.head)) := H3.out.cell rfl
      have d3 : wr.cell? ⟨w.heap.size + 1, 3, none⟩ = some (.int .i64 T) := H3.out.cell rfl
      have d4 : wr.cell? ⟨w.heap.size + 1, 4, none⟩ = some (.int .i64 H) := H3.out.cell rfl
      have d5 : wr.cell? ⟨w.heap.size + 1, 5, none⟩ = some (.int .u64 L.epoch) := H3.out.cell rfl
      have x0 : wr.cell? ⟨w.heap.size, 0, none⟩ = some (.int .i64 0) := H2.out.cell rfl
      have x1 : wr.cell? ⟨w.heap.size, 1, none⟩ = some (.int .i64 0) := H2.out.cell rfl
      have x2 : wr.cell? ⟨w.heap.size, 2, none⟩ = some (.int .i64 0) := H2.out.cell rfl
      have x3 : wr.cell? ⟨w.heap.size, 3, none⟩ = some (.int .i64 0) := H2.out.cell rfl
      have x4 : wr.cell? ⟨w.heap.size, 4, none⟩ = some (.int .i64 0) := H2.out.cell rfl
      have x5 : wr.cell? ⟨w.heap.size, 5, none⟩ = some (.int .u64 0) := H2.out.cell rfl
      have f2 := H2.out.frozen
      have hT' : T = nTaken M := by rw [← hT]; rfl
      have hH' : H = nHeld M := by rw [← hH]; rfl
      go_wp2
      refine bodyPost_ret (v := stateV L M) (by simp [results, Try.results13, go_sem, stateV, x0, x1, x2, x3, x4, x5, hT', hH']) rfl ⟨rfl, ?_⟩
      exact (by repeat (first | (with_reducible exact HB.out) | refine Below.setCell ?_ (by simp) _ | apply pw_below_drewN | apply below_drew))
    · obtain ⟨X1, hX1⟩ : ∃ X1, setBlock w1 (w.heap.size + 2) o2 = X1 := ⟨_, rfl⟩
      rw [hX1] at hnx hI2 hen
      have hen1 := hen X1 rfl rfl
      have hz1 : X1.heap.size = wr.heap.size := by rw [← hX1, setBlock_size]; rcases hw1 with rfl | rfl <;> rfl
      have H2X : Blk X1 w.heap.size [.int .i64 0, .int .i64 0, .int .i64 0, .int .i64 0, .int .i64 0, .int .u64 0] 42 := by rw [← hX1]; exact Blk.setBlock (by rcases hw1 with rfl | rfl <;> exact H2.out) k1 _
      have H3X : Blk X1 (w.heap.size + 1) (stateCells L T H) 42 := by rw [← hX1]; exact Blk.setBlock (by rcases hw1 with rfl | rfl <;> exact H3.out) k0 _
      have HBX : Below w.heap.size w X1 := by
        have h1 : Below w.heap.size w w1 := by
          rcases hw1 with rfl | rfl
          · exact HB.out
          · exact HB.out.drew
        rw [← hX1]
        exact ⟨h1.os, h1.tape, h1.output, by rw [setBlock_size]; exact h1.size, fun k hk => by simp only [ChangeMaps.setBlock, Array.getElem?_setIfInBounds]; rw [if_neg (by omega)]; exact h1.block k hk⟩
      obtain ⟨pk, pn, pg, ph⟩ := p
      have hcnt : nTaken rest = (if ph then 0 else 1) + nTaken rest' ∧ nHeld rest = (if ph then 1 else 0) + nHeld rest' := by
        rw [nTaken_perm hperm, nHeld_perm hperm]
        cases ph <;> simp [nTaken, nHeld] <;> omega
      have hrl : rest.length = rest'.length + 1 := by have := hperm.length_eq; simpa using this
      have hTM : nTaken M ≤ M.length := List.length_filter_le _ _
      have hHM : nHeld M ≤ M.length := List.length_filter_le _ _
      have HI2 := Aside0.mk hI2
      have H2' := Aside0.mk H2X
      have H3' := Aside0.mk H3X
      have HB' := Aside0.mk HBX
      have hez : Past.enc ⟨pn, pg, ph⟩ = .agg #[.int .i64 pn, .int .u64 pg, .bool ph] := rfl
      rw [hez] at hnx hen1
      clear hI2 H2X H3X HBX hX1 hen hw1 hez HI H2 H3 HB hperm hpM
      have z0 : w.heap.size + 1 < X1.heap.size := by omega
      have z1 : w.heap.size + 1 ≠ X1.heap.size := by omega
      have z2 : X1.heap.size ≠ w.heap.size + 1 := by omega
      have z3 : w.heap.size < X1.heap.size := by omega
      have d3 : X1.cell? ⟨w.heap.size + 1, 3, none⟩ = some (.int .i64 T) := H3'.out.cell rfl
      have d4 : X1.cell? ⟨w.heap.size + 1, 4, none⟩ = some (.int .i64 H) := H3'.out.cell rfl
      have f3 := H3'.out.frozen
      clear hz1
      have eT : (T : Int) + 1 ≤ 2000 := by omega
      have eH : (H : Int) + 1 ≤ 2000 := by omega
      cases ph with
      | true =>
        go_wp2
        go_roundg rest'.length
        case measure => omega
        case rel =>
          refine ⟨rest', T, H + 1, Nat.le_refl _, by simp at hcnt; omega, by simp at hcnt; omega, by simp; omega, ?_, ?_, ?_, ?_⟩
          · exact ⟨(by repeat (first | with_reducible exact HI2.out | apply Iter.setCell | apply Iter.alloc))⟩
          · exact ⟨(H2'.out.other (p := ⟨w.heap.size + 1, 4, none⟩) (by simp) _).alloc _⟩
          · refine ⟨?_⟩
            have h1 := (H3'.out.set 4 (.int .i64 ((H : Nat) + 1 : Int))).alloc (.cells #[.int .i64 pn, .int .u64 pg, .bool true] 79)
            exact h1
          · exact ⟨(HB'.out.setCell (by simp) _).alloc (by simp; omega) _⟩
      | false =>
        go_wp2
        go_roundg rest'.length
        case measure => omega
        case rel =>
          refine ⟨rest', T + 1, H, Nat.le_refl _, by simp at hcnt; omega, by simp at hcnt; omega, by simp; omega, ?_, ?_, ?_, ?_⟩
          · exact ⟨(by repeat (first | with_reducible exact HI2.out | apply Iter.setCell | apply Iter.alloc))⟩
          · exact ⟨(H2'.out.other (p := ⟨w.heap.size + 1, 3, none⟩) (by simp) _).alloc _⟩
          · refine ⟨?_⟩
            have h1 := (H3'.out.set 3 (.int .i64 ((T : Nat) + 1 : Int))).alloc (.cells #[.int .i64 pn, .int .u64 pg, .bool false] 79)
            exact h1
          · exact ⟨(HB'.out.setCell (by simp) _).alloc (by simp; omega) _⟩
end Go.Proofs.Ytekjhfhlbkcklaa.L
namespace Go.Proofs.Ytekjhfhlbkcklaa.L
open Go.RowKit Go.Proofs.Ytekjhfhlbkcklaa.K Go.Proofs.Ytekjhfhlbkcklaa.PA Go.Proofs.YtekjhfhlbkcklaaW.PrintWords
open Go.ChangeMaps (setBlock)

def sizeL (c : Int) : Int := if c ≤ 1 then 1 else if c ≤ 2 then 2 else if c ≤ 4 then 4 else if c ≤ 8 then 8 else if c ≤ 16 then 16 else if c ≤ 32 then 32 else 64
theorem size_all : ∀ n : Fin 64, order_Size.f 12 ((n.val : Int) + 1) = some (sizeL ((n.val : Int) + 1), 0) := by decide +kernel
theorem size_is (c : Int) (h0 : 1 ≤ c) (h1 : c ≤ 64) : order_Size.f 12 c = some (sizeL c, 0) := by
  have h := size_all ⟨(c - 1).toNat, by omega⟩
  have e : (((c - 1).toNat : Nat) : Int) + 1 = c := by omega
  simp only [e] at h
  exact h
def newL (c : Int) (two : Bool) (start : Int) (m : Nat) : Lane := ⟨c, two, c, sizeL c, List.replicate 64 ent0, start, start, start, start, 0, m⟩
theorem made_lane (c s st : Int) (two : Bool) (m : Nat) : (((((((((Try.zeroCells67.setIfInBounds 0 (.int .i64 c)).setIfInBounds 1 (.bool two)).setIfInBounds 2 (.int .i64 c)).setIfInBounds 3 (.int .i64 s)).setIfInBounds 324 (.int .u64 st)).setIfInBounds 325 (.int .u64 st)).setIfInBounds 326 (.int .u64 st)).setIfInBounds 327 (.int .u64 st)).setIfInBounds 329 (.map (some m))) =
    (laneCells ⟨c, two, c, s, List.replicate 64 ent0, st, st, st, st, 0, m⟩).toArray := by kernel_rfl
set_option maxHeartbeats 4000000 in
set_option maxRecDepth 100000 in
theorem new_calls (w : World) (c : Int) (two : Bool) (start : Int) (h0 : 1 ≤ c) (h1 : c ≤ 64) :
    Calls Try.prog 10 #[.int .i64 c, .bool two, .int .u64 start] w fun e_ w' => ∃ b m, e_ = .returned (.tuple #[.pointer (some ⟨b, 0, none⟩), .int .i64 0]) ∧ IsLane w' b (newL c two start m) ∧ IsMap w' m [] ∧ m ≠ b ∧ w.heap.size ≤ b ∧ w.heap.size ≤ m ∧ Below w.heap.size w w' := by
  have hS := Aside0.mk (size_is c h0 h1)
  have d0 : ¬ c < 1 := by omega
  have d1 : ¬ c > 64 := by omega
  clear h0 h1
  obtain ⟨z, hz⟩ : ∃ z, sizeL c = z := ⟨_, rfl⟩
  rw [hz] at hS
  have hMk : ∀ W : World, (Instr.makeMap 65 none).run Try.prog W = .ok (.map (some W.heap.size)) (W.alloc (.map #[] 0)) := fun W => run_makeMap _ W
  have HZ := Aside0.mk hz
  clear hz
  go_enter Try.func10, Try.ntmps10
  go_wp2_with (first | (go_at_call 24; refine (order_Size.calls 12 c z 0 _ hS.out).mono ?_; rintro e w' ⟨rfl, ⟨nd, rfl⟩⟩))
  refine bodyPost_ret (v := .tuple #[.pointer (some ⟨w.heap.size + 1, 0, none⟩), .int .i64 0]) (by simp [results, Try.results10, go_sem]) rfl ⟨w.heap.size + 1, w.heap.size, rfl, ?_, ?_, by omega, by omega, by omega, ?_⟩
  · rw [made_lane, ← HZ.out]
    exact ⟨blk_new1 (w.drewN nd) (.map #[] 0) (laneCells (newL c two start w.heap.size)) 67, by simp [newL]⟩
  · exact (MapIs.made .u64 Past.enc (w.drewN nd)).alloc _
  · exact (by repeat (first | (with_reducible exact Below.refl _ _) | apply pw_below_drewN | apply below_alloc))
set_option maxHeartbeats 4000000 in
set_option maxRecDepth 100000 in
theorem new_bad (w : World) (c : Int) (two : Bool) (start : Int) (h0 : c < 1 ∨ 64 < c) :
    Calls Try.prog 10 #[.int .i64 c, .bool two, .int .u64 start] w fun e_ w' => e_ = .returned (.tuple #[.pointer none, .int .i64 80]) ∧ w' = w := by
  by_cases h1 : c < 1
  · clear h0
    go_enter Try.func10, Try.ntmps10
    go_wp2_with fail
    refine bodyPost_ret (v := .tuple #[.pointer none, .int .i64 80]) (by simp [results, Try.results10, go_sem]) rfl ⟨rfl, rfl⟩
  · have h2 : 64 < c := by omega
    clear h0
    go_enter Try.func10, Try.ntmps10
    go_wp2_with fail
    refine bodyPost_ret (v := .tuple #[.pointer none, .int .i64 80]) (by simp [results, Try.results10, go_sem]) rfl ⟨rfl, rfl⟩
theorem ok_new (c : Int) (two : Bool) (start : Int) (m : Nat) (h0 : 1 ≤ c) (h1 : c ≤ 64) (s0 : 0 ≤ start) (s1 : start < 18446744073709551616) : Ok (newL c two start m) := by
  refine ⟨by simp only [newL]; omega, ?_, s0, s1, s0, s1⟩
  show PowS (sizeL c)
  unfold sizeL PowS
  repeat' split
  all_goals simp
end Go.Proofs.Ytekjhfhlbkcklaa.L
namespace Go.Proofs.Ytekjhfhlbkcklaa.L
open Go.RowKit Go.Proofs.Ytekjhfhlbkcklaa.K Go.Proofs.Ytekjhfhlbkcklaa.PA Go.Proofs.YtekjhfhlbkcklaaW.PrintWords

/-- No lane, or one of no credit. -/
def Bad (w : World) (v : Value) : Prop := v = .pointer none ∨ ∃ b, v = .pointer (some ⟨b, 0, none⟩) ∧ w.cell? ⟨b, 0, none⟩ = some (.int .i64 0)
theorem Bad.below {w w1 : World} {v : Value} (h : Bad w v) (hb : Below w.heap.size w w1) : Bad w1 v := by
  rcases h with rfl | ⟨b, rfl, hc⟩
  · exact .inl rfl
  · exact .inr ⟨b, rfl, pw_cell_below hb hc⟩
theorem Bad.alloc {w : World} {v : Value} (h : Bad w v) (o : Obj) : Bad (w.alloc o) v := h.below (below_alloc (Below.refl _ _) o)
theorem Bad.drewN {w : World} {v : Value} (h : Bad w v) (n : Nat) : Bad (w.drewN n) v := h
theorem Bad.drew {w : World} {v : Value} (h : Bad w v) : Bad w.drew v := h
theorem is_bad (w : World) (v : Value) (h : Bad w v) : Calls Try.prog 34 #[v] w fun e w' => e = .returned (.bool false) ∧ w' = w := by
  rcases h with rfl | ⟨b, rfl, hc⟩
  · exact is_nil w
  · go_enter Try.func34, Try.ntmps34
    go_wp2
    go_ret
    exact ⟨rfl, rfl⟩
set_option maxHeartbeats 1000000 in
set_option maxRecDepth 100000 in
theorem claimm_bad (w : World) (v : Value) (h : Bad w v) :
    Calls Try.prog 15 #[v] w fun e_ w' => e_ = .returned (.tuple #[.agg #[.int .u64 0, .int .u64 0], .int .i64 4]) ∧ Below w.heap.size w w' := by
  have HBAD := Aside0.mk h
  have hu := Try.underlying34
  clear h
  go_enter Try.func15, Try.ntmps15
  go_wp2_with (first | (go_at_call 34; refine (is_bad _ v ?side).mono ?_; (case side => exact (by repeat (first | with_reducible exact HBAD.out | apply Bad.alloc | apply Bad.drewN | apply Bad.drew))); rintro e_ w' ⟨rfl, rfl⟩))
  refine bodyPost_ret (v := .tuple #[.agg #[.int .u64 0, .int .u64 0], .int .i64 4]) (by simp [results, Try.results15, go_sem]) rfl ⟨rfl, (by repeat (first | (with_reducible exact Below.refl _ _) | refine Below.setCell ?_ (by simp) _ | apply pw_below_drewN | apply below_drew | apply below_alloc))⟩
set_option maxHeartbeats 1000000 in
set_option maxRecDepth 100000 in
theorem lay_bad (w : World) (v : Value) (seq ep n g : Int) (h : Bad w v) :
    Calls Try.prog 16 #[v, .agg #[.int .u64 seq, .int .u64 ep], .agg #[.int .i64 n, .int .u64 g]] w fun e_ w' => e_ = .returned (.int .i64 4) ∧ Below w.heap.size w w' := by
  have HBAD := Aside0.mk h
  have hu := Try.underlying34
  clear h
  go_enter Try.func16, Try.ntmps16
  go_wp2_with (first | (go_at_call 34; refine (is_bad _ v ?side).mono ?_; (case side => exact (by repeat (first | with_reducible exact HBAD.out | apply Bad.alloc | apply Bad.drewN | apply Bad.drew))); rintro e_ w' ⟨rfl, rfl⟩))
  refine bodyPost_ret (v := .int .i64 4) (by simp [results, Try.results16, go_sem]) rfl ⟨rfl, (by repeat (first | (with_reducible exact Below.refl _ _) | refine Below.setCell ?_ (by simp) _ | apply pw_below_drewN | apply below_drew | apply below_alloc))⟩
set_option maxHeartbeats 1000000 in
set_option maxRecDepth 100000 in
theorem ready_bad (w : World) (v : Value) (seq ep : Int) (h : Bad w v) :
    Calls Try.prog 21 #[v, .agg #[.int .u64 seq, .int .u64 ep]] w fun e_ w' => e_ = .returned (.bool false) ∧ Below w.heap.size w w' := by
  have HBAD := Aside0.mk h
  have hu := Try.underlying34
  clear h
  go_enter Try.func21, Try.ntmps21
  go_wp2_with (first | (go_at_call 34; refine (is_bad _ v ?side).mono ?_; (case side => exact (by repeat (first | with_reducible exact HBAD.out | apply Bad.alloc | apply Bad.drewN | apply Bad.drew))); rintro e_ w' ⟨rfl, rfl⟩))
  refine bodyPost_ret (v := .bool false) (by simp [results, Try.results21, go_sem]) rfl ⟨rfl, (by repeat (first | (with_reducible exact Below.refl _ _) | refine Below.setCell ?_ (by simp) _ | apply pw_below_drewN | apply below_drew | apply below_alloc))⟩
set_option maxHeartbeats 1000000 in
set_option maxRecDepth 100000 in
theorem publish_bad (w : World) (v : Value) (seq ep t s : Int) (h : Bad w v) :
    Calls Try.prog 20 #[v, .agg #[.int .u64 seq, .int .u64 ep], .agg #[.int .i64 t, .int .i64 s]] w fun e_ w' => e_ = .returned (.int .i64 4) ∧ Below w.heap.size w w' := by
  have HBAD := Aside0.mk h
  have hu := Try.underlying34
  clear h
  go_enter Try.func20, Try.ntmps20
  go_wp2_with (first | (go_at_call 34; refine (is_bad _ v ?side).mono ?_; (case side => exact (by repeat (first | with_reducible exact HBAD.out | apply Bad.alloc | apply Bad.drewN | apply Bad.drew))); rintro e_ w' ⟨rfl, rfl⟩))
  refine bodyPost_ret (v := .int .i64 4) (by simp [results, Try.results20, go_sem]) rfl ⟨rfl, (by repeat (first | (with_reducible exact Below.refl _ _) | refine Below.setCell ?_ (by simp) _ | apply pw_below_drewN | apply below_drew | apply below_alloc))⟩
set_option maxHeartbeats 1000000 in
set_option maxRecDepth 100000 in
theorem first_bad (w : World) (v : Value) (h : Bad w v) :
    Calls Try.prog 23 #[v] w fun e_ w' => e_ = .returned (.tuple #[.agg #[.int .i64 0, .int .i64 0], .agg #[.int .u64 0, .int .u64 0], .bool false]) ∧ Below w.heap.size w w' := by
  have HBAD := Aside0.mk h
  have hu := Try.underlying34
  clear h
  go_enter Try.func23, Try.ntmps23
  go_wp2
  go_quiet (first | (go_at_call 34; refine Calls.quiet_of_same (is_bad _ v ?side); (case side => exact (by repeat (first | with_reducible exact HBAD.out | apply Bad.alloc | apply Bad.drewN | apply Bad.drew)))))
  go_wp2
  refine bodyPost_ret (v := .tuple #[.agg #[.int .i64 0, .int .i64 0], .agg #[.int .u64 0, .int .u64 0], .bool false]) (by simp [results, Try.results23, go_sem]) rfl ⟨rfl, (by repeat (first | (with_reducible exact Below.refl _ _) | refine Below.setCell ?_ (by simp) _ | apply pw_below_drewN | apply below_drew | apply below_alloc))⟩
set_option maxHeartbeats 1000000 in
set_option maxRecDepth 100000 in
theorem take_bad (w : World) (v : Value) (h : Bad w v) :
    Calls Try.prog 17 #[v] w fun e_ w' => e_ = .returned (.tuple #[.agg #[.int .i64 0, .int .u64 0], .agg #[.int .u64 0, .int .u64 0], .int .i64 4]) ∧ Below w.heap.size w w' := by
  have HBAD := Aside0.mk h
  have hu := Try.underlying34
  clear h
  go_enter Try.func17, Try.ntmps17
  go_wp2_with (first | (go_at_call 34; refine (is_bad _ v ?side).mono ?_; (case side => exact (by repeat (first | with_reducible exact HBAD.out | apply Bad.alloc | apply Bad.drewN | apply Bad.drew))); rintro e_ w' ⟨rfl, rfl⟩))
  refine bodyPost_ret (v := .tuple #[.agg #[.int .i64 0, .int .u64 0], .agg #[.int .u64 0, .int .u64 0], .int .i64 4]) (by simp [results, Try.results17, go_sem]) rfl ⟨rfl, (by repeat (first | (with_reducible exact Below.refl _ _) | refine Below.setCell ?_ (by simp) _ | apply pw_below_drewN | apply below_drew | apply below_alloc))⟩
set_option maxHeartbeats 1000000 in
set_option maxRecDepth 100000 in
theorem retire_bad (w : World) (v : Value) (seq ep : Int) (h : Bad w v) :
    Calls Try.prog 19 #[v, .agg #[.int .u64 seq, .int .u64 ep]] w fun e_ w' => e_ = .returned (.tuple #[.agg #[.int .i64 0, .int .u64 0], .bool false, .int .i64 4]) ∧ Below w.heap.size w w' := by
  have HBAD := Aside0.mk h
  have hu := Try.underlying34
  clear h
  go_enter Try.func19, Try.ntmps19
  go_wp2_with (first | (go_at_call 34; refine (is_bad _ v ?side).mono ?_; (case side => exact (by repeat (first | with_reducible exact HBAD.out | apply Bad.alloc | apply Bad.drewN | apply Bad.drew))); rintro e_ w' ⟨rfl, rfl⟩))
  refine bodyPost_ret (v := .tuple #[.agg #[.int .i64 0, .int .u64 0], .bool false, .int .i64 4]) (by simp [results, Try.results19, go_sem]) rfl ⟨rfl, (by repeat (first | (with_reducible exact Below.refl _ _) | refine Below.setCell ?_ (by simp) _ | apply pw_below_drewN | apply below_drew | apply below_alloc))⟩
set_option maxHeartbeats 1000000 in
set_option maxRecDepth 100000 in
theorem reset_bad (w : World) (v : Value) (h : Bad w v) :
    Calls Try.prog 18 #[v] w fun e_ w' => e_ = .returned (.tuple #[.slice none 0 0, .int .i64 4]) ∧ Below w.heap.size w w' := by
  have HBAD := Aside0.mk h
  rcases h with rfl | ⟨b, rfl, hc⟩
  all_goals go_enter Try.func18, Try.ntmps18
  · go_wp2_with (first | (go_at_call 34; refine (is_bad _ (.pointer none) ?side).mono ?_; (case side => exact (by repeat (first | with_reducible exact HBAD.out | apply Bad.alloc | apply Bad.drewN | apply Bad.drew))); rintro e_ w' ⟨rfl, rfl⟩))
    refine bodyPost_ret (v := .tuple #[.slice none 0 0, .int .i64 4]) (by simp [results, Try.results18, go_sem]) rfl ⟨rfl, (by repeat (first | (with_reducible exact Below.refl _ _) | refine Below.setCell ?_ (by simp) _ | apply pw_below_drewN | apply below_drew | apply below_alloc))⟩
  · go_wp2_with (first | (go_at_call 34; refine (is_bad _ (.pointer (some ⟨b, 0, none⟩)) ?side).mono ?_; (case side => exact (by repeat (first | with_reducible exact HBAD.out | apply Bad.alloc | apply Bad.drewN | apply Bad.drew))); rintro e_ w' ⟨rfl, rfl⟩))
    refine bodyPost_ret (v := .tuple #[.slice none 0 0, .int .i64 4]) (by simp [results, Try.results18, go_sem]) rfl ⟨rfl, (by repeat (first | (with_reducible exact Below.refl _ _) | refine Below.setCell ?_ (by simp) _ | apply pw_below_drewN | apply below_drew | apply below_alloc))⟩
set_option maxHeartbeats 1000000 in
set_option maxRecDepth 100000 in
theorem state_bad (w : World) (v : Value) (h : Bad w v) :
    Calls Try.prog 13 #[v] w fun e_ w' => e_ = .returned (.agg #[.int .i64 0, .int .i64 0, .int .i64 0, .int .i64 0, .int .i64 0, .int .u64 0]) ∧ Below w.heap.size w w' := by
  have HBAD := Aside0.mk h
  have hu := Try.underlying34
  clear h
  go_enter Try.func13, Try.ntmps13
  go_wp2_with (first | (go_at_call 34; refine (is_bad _ v ?side).mono ?_; (case side => exact (by repeat (first | with_reducible exact HBAD.out | apply Bad.alloc | apply Bad.drewN | apply Bad.drew))); rintro e_ w' ⟨rfl, rfl⟩))
  refine bodyPost_ret (v := .agg #[.int .i64 0, .int .i64 0, .int .i64 0, .int .i64 0, .int .i64 0, .int .u64 0]) (by simp [results, Try.results13, go_sem]) rfl ⟨rfl, (by repeat (first | (with_reducible exact Below.refl _ _) | refine Below.setCell ?_ (by simp) _ | apply pw_below_drewN | apply below_drew | apply below_alloc))⟩
end Go.Proofs.Ytekjhfhlbkcklaa.L
namespace Go.Proofs.Ytekjhfhlbkcklaa.L
open Go.RowKit Go.Proofs.Ytekjhfhlbkcklaa.K Go.Proofs.Ytekjhfhlbkcklaa.PA Go.Proofs.YtekjhfhlbkcklaaW.PrintWords
open Go.ChangeMaps (setBlock)

structure St (w : World) (b : Nat) (L : Lane) (M : Pasts) : Prop where
  lane : IsLane w b L
  map : IsMap w L.m M
  ne : L.m ≠ b
  ok : Ok L
/-- A world that parts from another in the lane's two blocks alone. -/
abbrev Two (b : Nat) (L : Lane) (w w' : World) : Prop := Chg (fun k => k = b ∨ k = L.m) w w'
namespace St
variable {w w1 : World} {b : Nat} {L : Lane} {M : Pasts}
theorem chg {S : Nat → Prop} (h : St w b L M) (c : Chg S w w1) (h1 : ¬ S b) (h2 : ¬ S L.m) : St w1 b L M := ⟨h.lane.chg c h1, h.map.chg c h2, h.ne, h.ok⟩
theorem below (h : St w b L M) (hb : Below w.heap.size w w1) : St w1 b L M := h.chg (Chg.below hb (fun _ => False)) (fun f => f) (fun f => f)
theorem alloc (h : St w b L M) (o : Obj) : St (w.alloc o) b L M := h.below (below_alloc (Below.refl _ _) o)
theorem drewN (h : St w b L M) (n : Nat) : St (w.drewN n) b L M := ⟨h.lane.drewN n, h.map.drewN n, h.ne, h.ok⟩
theorem drew (h : St w b L M) : St w.drew b L M := ⟨h.lane.drew, h.map.drew, h.ne, h.ok⟩
theorem setCell (h : St w b L M) {p : Addr} (hp : p.block ≠ b) (v : Value) : St (w.setCell p v) b L M := ⟨h.lane.other hp v, h.map.setCell p v, h.ne, h.ok⟩
theorem setBlock (h : St w b L M) {m : Nat} (h1 : m ≠ b) (h2 : m ≠ L.m) (o : Obj) : St (ChangeMaps.setBlock w m o) b L M :=
  ⟨h.lane.setBlock h1 o, h.map.same (by simp only [ChangeMaps.setBlock, Array.getElem?_setIfInBounds, if_neg h2]), h.ne, h.ok⟩
theorem lt (h : St w b L M) : b < w.heap.size := h.lane.lt
theorem mlt (h : St w b L M) : L.m < w.heap.size := h.map.lt
end St
theorem u64_in (n : Int) : 0 ≤ IntKind.u64.wrap n ∧ IntKind.u64.wrap n < 18446744073709551616 := by
  simp [IntKind.wrap, IntKind.bits, IntKind.signed]
  omega
def claimS (L : Lane) : (Int × Int × Int) × Lane := if L.left = 0 then ((0, 0, 81), L) else ((L.tail, L.epoch, 0), claimNew L)
theorem claim_st (w : World) (b : Nat) (L : Lane) (M : Pasts) (h : St w b L M) :
    Calls Try.prog 15 #[.pointer (some ⟨b, 0, none⟩)] w fun e_ w' => e_ = .returned (.tuple #[.agg #[.int .u64 (claimS L).1.1, .int .u64 (claimS L).1.2.1], .int .i64 (claimS L).1.2.2]) ∧ St w' b (claimS L).2 M ∧ Two b L w w' := by
  unfold claimS
  by_cases hl : L.left = 0
  · rw [if_pos hl]
    exact (claimm_no w b L h.lane h.ok hl).mono fun e w' ⟨he, hb⟩ => ⟨he, h.below hb, Chg.below hb _⟩
  · rw [if_neg hl]
    refine (claimm_yes w b L h.lane h.ok hl).mono fun e w' ⟨he, hb, hc⟩ => ⟨he, ⟨hb, ?_, h.ne, ⟨h.ok.credit, h.ok.pow, h.ok.head0, h.ok.head1, (u64_in _).1, (u64_in _).2⟩⟩, hc.mono fun _ _ e => .inl e⟩
    exact h.map.chg hc h.ne
theorem layL_m (L : Lane) (seq ep n gen : Int) : (layL L seq ep n gen).1.m = L.m ∧ (Ok L → Ok (layL L seq ep n gen).1) := by
  unfold layL
  split <;> (try split) <;> exact ⟨rfl, fun h => ⟨h.credit, h.pow, h.head0, h.head1, h.tail0, h.tail1⟩⟩
theorem lay_st (w : World) (b : Nat) (L : Lane) (M : Pasts) (h : St w b L M) (seq ep n gen : Int) (h0 : 0 ≤ seq) (h1 : seq < 18446744073709551616) :
    Calls Try.prog 16 #[.pointer (some ⟨b, 0, none⟩), .agg #[.int .u64 seq, .int .u64 ep], .agg #[.int .i64 n, .int .u64 gen]] w fun e_ w' => e_ = .returned (.int .i64 (layL L seq ep n gen).2) ∧ St w' b (layL L seq ep n gen).1 M ∧ Two b L w w' :=
  (lay_calls w b L h.lane h.ok seq ep n gen h0 h1).mono fun e w' ⟨he, hb, hc⟩ => ⟨he, ⟨hb, by rw [(layL_m L seq ep n gen).1]; exact h.map.chg hc h.ne, by rw [(layL_m L seq ep n gen).1]; exact h.ne, (layL_m L seq ep n gen).2 h.ok⟩, hc.mono fun _ _ e => .inl e⟩
theorem pubL_m (L : Lane) (seq ep t s : Int) : (pubL L seq ep t s).1.m = L.m ∧ (Ok L → Ok (pubL L seq ep t s).1) := by
  unfold pubL
  repeat' split
  all_goals exact ⟨rfl, fun h => ⟨h.credit, h.pow, h.head0, h.head1, h.tail0, h.tail1⟩⟩
theorem publish_st (w : World) (b : Nat) (L : Lane) (M : Pasts) (h : St w b L M) (seq ep t s : Int) (h0 : 0 ≤ seq) (h1 : seq < 18446744073709551616) :
    Calls Try.prog 20 #[.pointer (some ⟨b, 0, none⟩), .agg #[.int .u64 seq, .int .u64 ep], .agg #[.int .i64 t, .int .i64 s]] w fun e_ w' => e_ = .returned (.int .i64 (pubL L seq ep t s).2) ∧ St w' b (pubL L seq ep t s).1 M ∧ Two b L w w' :=
  (publish_calls w b L h.lane h.ok seq ep t s h0 h1).mono fun e w' ⟨he, hb, hc⟩ => ⟨he, ⟨hb, by rw [(pubL_m L seq ep t s).1]; exact h.map.chg hc h.ne, by rw [(pubL_m L seq ep t s).1]; exact h.ne, (pubL_m L seq ep t s).2 h.ok⟩, hc.mono fun _ _ e => .inl e⟩
theorem ready_st (w : World) (b : Nat) (L : Lane) (M : Pasts) (h : St w b L M) (seq ep : Int) (h0 : 0 ≤ seq) (h1 : seq < 18446744073709551616) :
    Calls Try.prog 21 #[.pointer (some ⟨b, 0, none⟩), .agg #[.int .u64 seq, .int .u64 ep]] w fun e_ w' => e_ = .returned (.bool (readyL L seq ep)) ∧ St w' b L M ∧ Below w.heap.size w w' :=
  (ready_calls w b L h.lane h.ok seq ep h0 h1).mono fun e w' ⟨he, hb⟩ => ⟨he, h.below hb, hb⟩
/-- The entry at a number. -/
def entAt (L : Lane) (n : Int) : Ent := (L.ring[(n % L.size).toNat]?).getD ent0
theorem ent_at {w : World} {b : Nat} {L : Lane} (h : IsLane w b L) (hok : Ok L) (n : Int) : n % L.size = ((n % L.size).toNat : Int) ∧ L.ring[(n % L.size).toNat]? = some (entAt L n) := by
  have hp := hok.pow.pos
  have h0 := Int.emod_nonneg n (show L.size ≠ 0 by omega)
  have h1 := Int.emod_lt_of_pos n (show 0 < L.size by omega)
  refine ⟨by omega, ?_⟩
  unfold entAt
  rw [List.getElem?_eq_getElem (by rw [h.len]; omega)]
  rfl
def firstS (L : Lane) : (Int × Int × Int × Int × Bool) := if L.head = L.ready then (0, 0, 0, 0, false) else ((entAt L L.head).tick, (entAt L L.head).step, L.head, L.epoch, true)
theorem first_st (w : World) (b : Nat) (L : Lane) (M : Pasts) (h : St w b L M) :
    Calls Try.prog 23 #[.pointer (some ⟨b, 0, none⟩)] w fun e_ w' => e_ = .returned (.tuple #[.agg #[.int .i64 (firstS L).1, .int .i64 (firstS L).2.1], .agg #[.int .u64 (firstS L).2.2.1, .int .u64 (firstS L).2.2.2.1], .bool (firstS L).2.2.2.2]) ∧ St w' b L M ∧ Below w.heap.size w w' := by
  unfold firstS
  by_cases hl : L.head = L.ready
  · rw [if_pos hl]
    exact (first_none w b L h.lane h.ok hl).mono fun e w' ⟨he, hb⟩ => ⟨he, h.below hb, hb⟩
  · rw [if_neg hl]
    obtain ⟨e1, e2⟩ := ent_at h.lane h.ok L.head
    exact (first_calls w b L h.lane h.ok _ _ e1 e2 hl).mono fun e w' ⟨he, hb⟩ => ⟨he, h.below hb, hb⟩
def takeS (L : Lane) (M : Pasts) : (Int × Int × Int × Int × Int) × Lane × Pasts :=
  if L.head = L.ready then ((0, 0, 0, 0, 82), L, M)
  else (((entAt L L.head).n, (entAt L L.head).gen, L.head, L.epoch, 0), takeNew L, mput M L.head ⟨(entAt L L.head).n, (entAt L L.head).gen, false⟩)
theorem take_st (w : World) (b : Nat) (L : Lane) (M : Pasts) (h : St w b L M) :
    Calls Try.prog 17 #[.pointer (some ⟨b, 0, none⟩)] w fun e_ w' => e_ = .returned (.tuple #[.agg #[.int .i64 (takeS L M).1.1, .int .u64 (takeS L M).1.2.1], .agg #[.int .u64 (takeS L M).1.2.2.1, .int .u64 (takeS L M).1.2.2.2.1], .int .i64 (takeS L M).1.2.2.2.2]) ∧ St w' b (takeS L M).2.1 (takeS L M).2.2 ∧ Two b L w w' := by
  unfold takeS
  by_cases hl : L.head = L.ready
  · rw [if_pos hl]
    exact (take_no w b L h.lane h.ok hl).mono fun e w' ⟨he, hb⟩ => ⟨he, h.below hb, Chg.below hb _⟩
  · rw [if_neg hl]
    obtain ⟨e1, e2⟩ := ent_at h.lane h.ok L.head
    refine (take_yes w b L M h.lane h.ok h.map h.ne _ _ e1 e2 hl).mono fun e w' ⟨he, hb, hm, hc⟩ => ⟨he, ⟨?_, hm, h.ne, ?_⟩, hc⟩
    · exact hb
    · exact ⟨h.ok.credit, h.ok.pow, (u64_in _).1, (u64_in _).2, h.ok.tail0, h.ok.tail1⟩
theorem retireL_m (L : Lane) (M : Pasts) (seq ep : Int) : (retireL L M seq ep).2.1.m = L.m ∧ (Ok L → Ok (retireL L M seq ep).2.1) := by
  unfold retireL
  repeat' split
  all_goals exact ⟨rfl, fun h => ⟨h.credit, h.pow, h.head0, h.head1, h.tail0, h.tail1⟩⟩
theorem retire_st (w : World) (b : Nat) (L : Lane) (M : Pasts) (h : St w b L M) (seq ep : Int) :
    Calls Try.prog 19 #[.pointer (some ⟨b, 0, none⟩), .agg #[.int .u64 seq, .int .u64 ep]] w fun e_ w' => e_ = .returned (ret3 (retireL L M seq ep).1) ∧ St w' b (retireL L M seq ep).2.1 (retireL L M seq ep).2.2 ∧ Two b L w w' :=
  (retire_calls w b L M h.lane h.ok h.map h.ne seq ep).mono fun e w' ⟨he, hb, hm, hc⟩ => ⟨he, ⟨hb, by rw [(retireL_m L M seq ep).1]; exact hm, by rw [(retireL_m L M seq ep).1]; exact h.ne, (retireL_m L M seq ep).2 h.ok⟩, hc⟩
theorem state_st (w : World) (b : Nat) (L : Lane) (M : Pasts) (h : St w b L M) (hlen : M.length ≤ 1000) :
    Calls Try.prog 13 #[.pointer (some ⟨b, 0, none⟩)] w fun e_ w' => e_ = .returned (stateV L M) ∧ St w' b L M ∧ Below w.heap.size w w' :=
  (state_calls w b L M h.lane h.ok h.map h.ne hlen).mono fun e w' ⟨he, hb⟩ => ⟨he, h.below hb, hb⟩
theorem new_st (w : World) (c : Int) (two : Bool) (start : Int) (h0 : 1 ≤ c) (h1 : c ≤ 64) (s0 : 0 ≤ start) (s1 : start < 18446744073709551616) :
    Calls Try.prog 10 #[.int .i64 c, .bool two, .int .u64 start] w fun e_ w' => ∃ b m, e_ = .returned (.tuple #[.pointer (some ⟨b, 0, none⟩), .int .i64 0]) ∧ St w' b (newL c two start m) [] ∧ w.heap.size ≤ b ∧ w.heap.size ≤ m ∧ Below w.heap.size w w' :=
  (new_calls w c two start h0 h1).mono fun e w' ⟨b, m, he, hl, hm, hne, hb1, hb2, hb⟩ => ⟨b, m, he, ⟨hl, hm, hne, ok_new c two start m h0 h1 s0 s1⟩, hb1, hb2, hb⟩
end Go.Proofs.Ytekjhfhlbkcklaa.L

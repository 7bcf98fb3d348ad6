/-
  The lane's methods: Reset.
-/
import Derived.Test.YtekjhfhlbkcklaaLR
import Derived.Test.YtekjhfhlbkcklaaK
set_option linter.unusedVariables false
set_option linter.unusedSimpArgs false
namespace Go.Proofs.Ytekjhfhlbkcklaa.L
open Go.RowKit Go.Proofs.Ytekjhfhlbkcklaa.K Go.Proofs.Ytekjhfhlbkcklaa.PA Go.Proofs.YtekjhfhlbkcklaaW.PrintWords
open Go.ChangeMaps (setBlock)
attribute [local go_sem ↓] Go.wp_at_zero Go.wp_at_succ

def slotCells (l : List (Int × Int)) : List Value := prCells (Value.int .i64) (Value.int .u64) l
theorem slot_get {l : List (Int × Int)} {j : Nat} {p : Int × Int} (h : l[j]? = some p) : (slotCells l)[j * 2]? = some (.int .i64 p.1) ∧ (slotCells l)[j * 2 + 1]? = some (.int .u64 p.2) := prCells_get _ _ l j p h
theorem blk_slot {w : World} {b : Nat} {l : List (Int × Int)} {t : TypeId} (h : Blk w b (slotCells l) t) {j : Nat} (p : Int × Int) (hj : j < l.length) : Blk ((w.setCell ⟨b, j * 2, none⟩ (.int .i64 p.1)).setCell ⟨b, j * 2 + 1, none⟩ (.int .u64 p.2)) b (slotCells (l.set j p)) t := by
  rw [slotCells, ← prCells_set _ _ l j p hj]
  exact (h.set _ _).set _ _
theorem keep_cell {w : World} {p q : Addr} {u v : Value} (h : w.cell? q = some v) (hne : q ≠ p) : (w.setCell p u).cell? q = some v := (World.cell?_setCell_other _ _ _ _ (Ne.symm hne)).trans h
theorem zero_ring : Try.zeroCells64.toList = ringCells (List.replicate 64 ent0) := by kernel_rfl
theorem run_zero_ring {W : World} {b : Nat} {L : Lane} (h : IsLane W b L) : (storeCells ⟨b, 4, none⟩ Try.zeroCells64.toList).run Try.prog W = .ok () (W.setRow b (laneCells { L with ring := List.replicate 64 ent0 }).toArray) := by
  have hb : W.heap[b]? = some (.cells (laneCells L).toArray 67 (0, 0)) := h.blk
  have hl : (ringCells (List.replicate 64 ent0)).length = 320 := by rw [ringCells_length]; rfl
  have hl2 : (ringCells L.ring).length = 320 := by rw [ringCells_length, h.len]
  rw [zero_ring]
  have hs := run_storeCells_at Try.prog b 4 67 (ringCells (List.replicate 64 ent0)) 0 (laneCells L).toArray W hb
    (by rw [hl]; simp [laneCells, hdCells, tlCells, hl2])
    (by
      intro v hv
      obtain ⟨e, he, hv⟩ := List.mem_flatMap.1 hv
      obtain rfl := List.eq_of_mem_replicate he
      simp [Ent.cells, ent0] at hv
      rcases hv with h | h | h <;> (subst h; rfl))
  rw [hs, hl]
  refine congrArg (fun c => Result.ok () (W.setRow b (List.toArray c))) ?_
  show (laneCells L).toArray.toList.take 4 ++ _ ++ (laneCells L).toArray.toList.drop 324 = hdCells L ++ (ringCells (List.replicate 64 ent0) ++ tlCells L)
  have e1 : (laneCells L).take 4 = hdCells L := by unfold laneCells; rw [List.take_left' (by rfl)]
  have e2 : (laneCells L).drop 324 = tlCells L := by
    unfold laneCells
    rw [← List.append_assoc, List.drop_left' (by rw [List.length_append, hl2]; rfl)]
  rw [show (laneCells L).toArray.toList = laneCells L from rfl, e1, e2, List.append_assoc]
theorem IsLane.s_ring0 {W : World} {b : Nat} {L : Lane} (h : IsLane W b L) : IsLane (W.setRow b (laneCells { L with ring := List.replicate 64 ent0 }).toArray) b { L with ring := List.replicate 64 ent0 } := ⟨h.blk.setRow _, by simp⟩
theorem wrap_u64' (n : Int) : IntKind.u64.wrap n = n % 18446744073709551616 := by simp [IntKind.wrap, IntKind.bits, IntKind.signed]
/-- The slot of the i-th message that was published, and is not taken. -/
def entSlot (L : Lane) (i : Nat) : Int × Int := ((entAt L (IntKind.u64.wrap (L.head + i))).n, (entAt L (IntKind.u64.wrap (L.head + i))).gen)
/-- The slot of a number that was taken. -/
def slotOf (M : Pasts) (n : Int) : Int × Int := ((mget M n).getD ⟨0, 0, false⟩ |>.n, (mget M n).getD ⟨0, 0, false⟩ |>.gen)
theorem fld_past (p : Past) (W : World) : (Instr.field 79 p.enc 0).run Try.prog W = .ok (.agg #[.int .i64 p.n, .int .u64 p.gen]) W := fld_slot _ _ _ W
theorem run_taken {W : World} {m : Nat} {M : Pasts} (h : IsMap W m M) (n : Int) : (Instr.lookup 65 (.map (some m)) (.int .u64 n) false).run Try.prog W = .ok (.agg #[.int .i64 (slotOf M n).1, .int .u64 (slotOf M n).2, .bool ((mget M n).getD ⟨0, 0, false⟩).held]) W := by
  have := h.run_lookup (P := Try.prog) (T := 65) (K := 22) (E := 79) Try.underlying65 Try.underlying22 (zero_past _) n false
  rw [this]
  unfold slotOf
  cases mget M n <;> rfl
set_option maxHeartbeats 2000000 in
set_option maxRecDepth 100000 in
theorem mk_slots (W : World) (n c : Nat) (hn : n ≤ c) (hc : c ≤ 1000) : (Instr.makeSlice 46 (.int .i64 n) (.int .i64 c)).run Try.prog W = .ok (.slice (some ⟨W.heap.size, 0, none⟩) n c) (W.alloc (.cells (slotCells (List.replicate c (0, 0))).toArray 36)) := by
  obtain ⟨i0, hi, hz0, hz1, hz2⟩ := info_parts (P := Try.prog) (e := 36) (z := .agg #[.int .i64 0, .int .u64 0]) (size := 2) (bytes := 16) (by kernel_rfl)
  have h := run_make (P := Try.prog) W 46 36 i0 (.agg #[.int .i64 0, .int .u64 0]) Try.underlying46 hi hz0 .i64 .i64 (n : Int) (c : Int) (by omega) (by omega) (by rw [hz2]; omega) (by omega)
  rw [hz1] at h
  have e : madeCells #[Value.int .i64 0, Value.int .u64 0] (c * 2) = (slotCells (List.replicate c (0, 0))).toArray := by
    rw [slotCells, ← prCells_rep (Value.int .i64) (Value.int .u64) c]
  rw [← e]
  simpa [Value.cells] using h
/-- What lies in an owned row of numbers. -/
theorem row_at {w : World} {base cap : Nat} {A : Option Addr} {ys : List Int} (h : w.ownsRow base 22 1 (.slice A ys.length cap) ys.length (ys.map encU)) {k : Nat} {y : Int} (hk : ys[k]? = some y) : ∃ g, A = some ⟨g, 0, none⟩ ∧ w.cell? ⟨g, k, none⟩ = some (.int .u64 y) ∧ base ≤ g := by
  have hlt := (List.getElem?_eq_some_iff.1 hk).1
  rcases h.2 with ⟨h1, h2⟩ | ⟨g, cap', cur, h1, hg, hh, hn, hm, hs, ht⟩
  · omega
  · obtain ⟨rfl, -⟩ : A = some ⟨g, 0, none⟩ ∧ cap = cap' := by simpa using h1
    refine ⟨g, rfl, ?_, hg⟩
    have h2 : (cur.toList.take (ys.length * 1))[k]? = (ys.map encU)[k]? := by rw [ht]
    rw [List.getElem?_take, if_pos (by omega), List.getElem?_map, hk] at h2
    simp only [World.cell?, hh]
    simpa [encU] using h2
set_option maxHeartbeats 2000000 in
set_option maxRecDepth 100000 in
theorem reset_no (w : World) (b : Nat) (L : Lane) (h : IsLane w b L) (hok : Ok L) (hne : L.ready ≠ L.tail) :
    Calls Try.prog 18 #[.pointer (some ⟨b, 0, none⟩)] w fun e_ w' => e_ = .returned (.tuple #[.slice none 0 0, .int .i64 84]) ∧ Below w.heap.size w w' := by
  have hlt := h.lt
  have n0 : w.heap.size ≠ b := by omega
  have HL := Aside0.mk h
  have HIS := Aside0.mk (fun W (hl : IsLane W b L) => is_at W b L hl true (by simp [hok.credit]))
  have c7 := h.c_ready
  have c8 := h.c_tail
  have hneb : (L.ready != L.tail) = true := by simpa using hne
  clear h hok hne
  go_enter Try.func18, Try.ntmps18
  go_wp2_with (first | (go_at_call 34; refine (HIS.out _ ?side).mono ?_; (case side => exact (by repeat (first | with_reducible exact HL.out | apply IsLane.alloc | apply IsLane.drewN | apply IsLane.drew))); rintro e_ w' ⟨rfl, rfl⟩))
  go_quiet (fail)
  go_wp2
  refine bodyPost_ret (v := .tuple #[.slice none 0 0, .int .i64 84]) (by simp [results, Try.results18, go_sem]) rfl ⟨rfl, (by repeat (first | (with_reducible exact Below.refl _ _) | refine Below.setCell ?_ (by simp) _ | apply pw_below_drewN | apply below_drew | apply below_alloc))⟩
set_option maxHeartbeats 2000000 in
set_option maxRecDepth 100000 in
theorem reset_yes (w : World) (b : Nat) (L : Lane) (M : Pasts) (h : IsLane w b L) (hok : Ok L) (hM : IsMap w L.m M) (hmb : L.m ≠ b) (hM0 : (M.length : Int) ≤ L.credit) (hcr : L.credit ≤ 64) (hne : L.ready = L.tail) (nr : Nat) (hnr : diffL L.ready L.head = nr) (hnr2 : nr ≤ 900) :
    Calls Try.prog 18 #[.pointer (some ⟨b, 0, none⟩)] w fun e_ w' => ∃ (g : Nat) (ys : List Int), e_ = .returned (.tuple #[.slice (some ⟨g, 0, none⟩) (ys.length + nr) (ys.length + nr), .int .i64 0]) ∧ ys.Perm (M.map (·.1)) ∧ SortedB L.base ys ∧
      Blk w' g (slotCells (ys.map (slotOf M) ++ (List.range nr).map (entSlot L))) 36 ∧ w.heap.size ≤ g ∧
      IsLane w' b { L with ring := List.replicate 64 ent0, base := L.tail, head := L.tail, left := L.credit, epoch := IntKind.u64.wrap (L.epoch + 1) } ∧ IsMap w' L.m [] ∧ Chg (fun k => k = b ∨ k = L.m) w w' := by
  have hlt := h.lt
  have hmlt := hM.lt
  have n0 : w.heap.size ≠ b := by omega
  have HL := Aside0.mk h
  have HM := Aside0.mk hM
  have HIS := Aside0.mk (fun W (hl : IsLane W b L) => is_at W b L hl true (by simp [hok.credit]))
  have c7 := h.c_ready
  have c8 := h.c_tail
  have c10 := h.c_m
  have hneb : (L.ready != L.tail) = false := by simpa using hne
  have HNR := Aside0.mk hnr
  have HOK := Aside0.mk hok
  clear h hM hok hne hnr
  go_enter Try.func18, Try.ntmps18
  go_wp2_with (first | (go_at_call 34; refine (HIS.out _ ?side).mono ?_; (case side => exact (by repeat (first | with_reducible exact HL.out | apply IsLane.alloc | apply IsLane.drewN | apply IsLane.drew))); rintro e_ w' ⟨rfl, rfl⟩))
  go_quiet (fail)
  go_upto_region 6 with (first
    | (go_at_call 38; refine (keys_calls _ L.m).mono ?_; rintro e_ w' ⟨rfl, rfl⟩)
    | (go_at_call 37; refine (sortedFunc_calls (w.heap.size + 1) L.m w.heap.size b L.base M _ (by omega) (by simp) (by go_simp) (by repeat (first | with_reducible exact HM.out | apply MapIs.setCell | apply MapIs.alloc | apply MapIs.drewN | apply MapIs.drew)) (by go_simp) (IsLane.c_base (by repeat (first | with_reducible exact HL.out | apply IsLane.alloc | apply IsLane.drewN | apply IsLane.drew)))).mono ?_; rintro e_ w1 ⟨v, ys, rfl, h1, h2, h3, h4⟩; have Y1 := Aside0.mk h1; have Y2 := Aside0.mk h2; have Y3 := Aside0.mk h3; have HB1 := Aside0.mk h4; have hz1 := h4.size; simp only [World.size_alloc] at hz1; clear h1 h2 h3 h4))
  have HLw := Aside0.mk (IsLane.chg (by repeat (first | with_reducible exact HL.out | apply IsLane.alloc | apply IsLane.drewN | apply IsLane.drew)) (Chg.below HB1.out (fun _ => False)) (fun f => f))
  have HMw := Aside0.mk (MapIs.chg (by repeat (first | with_reducible exact HM.out | apply MapIs.setCell | apply MapIs.alloc | apply MapIs.drewN | apply MapIs.drew)) (Chg.below HB1.out (fun _ => False)) (fun f => f))
  have BX := Aside0.mk (show w1.cell? ⟨w.heap.size, 0, none⟩ = some (.pointer (some ⟨b, 0, none⟩)) from pw_cell_below HB1.out (by go_simp))
  have HBw := Aside0.mk (show Below w.heap.size w w1 from below_step (by repeat (first | (with_reducible exact Below.refl _ _) | apply pw_below_drewN | apply below_alloc)) HB1.out)
  have hyl : ys.length = M.length := by have := Y1.out.length_eq; simpa using this
  obtain ⟨A, cv, rfl⟩ : ∃ A cv, v = .slice A ys.length cv := by
    rcases Y3.out.2 with ⟨h1, h2⟩ | ⟨g, cap, cur, h1, _⟩
    · exact ⟨none, 0, by rw [h1, h2]⟩
    · exact ⟨_, _, h1⟩
  obtain ⟨cr, hcr2⟩ : ∃ cr : Nat, L.credit = cr := ⟨L.credit.toNat, by omega⟩
  have bx := BX.out
  have cc := HLw.out.c_credit
  rw [hcr2] at cc
  have hmk := mk_slots w1 ys.length cr (by omega) (by omega)
  have HYL := Aside0.mk hyl
  have hyb : ys.length ≤ 64 := by omega
  clear c7 c8 c10 hyl HL HM HIS hneb
  go_upto_region 7 with fail
  have BO := blk_new w1 (slotCells (List.replicate cr (0, 0))) 36
  have HN := (Below.refl w1.heap.size w1).alloc (Nat.le_refl _) (.cells (slotCells (List.replicate cr (0, 0))).toArray 36)
  have hz2 : (w1.alloc (.cells (slotCells (List.replicate cr (0, 0))).toArray 36)).heap.size = w1.heap.size + 1 := by simp
  generalize hW2 : w1.alloc (.cells (slotCells (List.replicate cr (0, 0))).toArray 36) = W2 at BO HN hz2 ⊢
  have hcr3 : ys.length ≤ cr := by have := HYL.out; omega
  have BO' := Aside0.mk BO
  have HN' := Aside0.mk HN
  have hz2' := Aside0.mk hz2
  have hcr2' := Aside0.mk hcr2
  clear hW2 BO HN hmk hz2 hcr2 bx cc
  go_wp2
  go_loopw [41] (fun v41 wr => ∃ (k : Nat) (R : List (Int × Int)), v41 = .int .i64 k ∧ k ≤ ys.length ∧ Aside0 (R.length = cr ∧ ∀ j, j < k → R[j]? = (ys.map (slotOf M))[j]?) ∧ Aside0 (Blk wr w1.heap.size (slotCells R) 36) ∧ Aside0 (Below w1.heap.size w1 wr) ∧ Aside0 (wr.heap.size = w1.heap.size + 1)) (fun v41 _ => ys.length - (intOf v41).toNat)
  case atStart => exact ⟨0, _, rfl, Nat.zero_le _, ⟨by simp, fun j hj => absurd hj (Nat.not_lt_zero _)⟩, BO', HN', hz2'⟩
  case round =>
    obtain ⟨k, R, rfl, hk, HR, HBk, HBel, hsz⟩ := hrel
    have bx : wr.cell? ⟨w.heap.size, 0, none⟩ = some (.pointer (some ⟨b, 0, none⟩)) := pw_cell_below HBel.out BX.out
    by_cases hlt : k < ys.length
    · obtain ⟨y, hy⟩ : ∃ y, ys[k]? = some y := ⟨_, List.getElem?_eq_getElem hlt⟩
      obtain ⟨g, hA, hyc, hg⟩ := row_at Y3.out hy
      subst hA
      have yc : wr.cell? ⟨g, k, none⟩ = some (.int .u64 y) := pw_cell_below HBel.out hyc
      have cm : wr.cell? ⟨b, 329, none⟩ = some (.map (some L.m)) := pw_cell_below HBel.out HLw.out.c_m
      have hLk := run_taken (MapIs.chg HMw.out (Chg.below HBel.out (fun _ => False)) (fun f => f)) y
      have hfl := fld_slot (.int .i64 (slotOf M y).1) (.int .u64 (slotOf M y).2) (.bool ((mget M y).getD ⟨0, 0, false⟩).held)
      have hRk : k < R.length := by have := HR.out.1; omega
      obtain ⟨r0, hr0⟩ : ∃ r, R[k]? = some r := ⟨_, List.getElem?_eq_getElem hRk⟩
      have s0 := HBk.out.cell (slot_get hr0).1
      have s1 := HBk.out.cell (slot_get hr0).2
      have fs := HBk.out.frozen
      clear hr0
      have HY := Aside0.mk hy
      clear hy hyc hg hRk
      go_wp2
      go_roundw
      case rel =>
        refine ⟨k + 1, R.set k (slotOf M y), by go_num, by omega, ⟨by rw [List.length_set]; exact HR.out.1, fun j hj => ?_⟩, ⟨blk_slot HBk.out _ (by have := HR.out.1; omega)⟩, ⟨(HBel.out.setCell (by simp) _).setCell (by simp) _⟩, ⟨by simpa using hsz.out⟩⟩
        by_cases hjk : j = k
        · subst hjk
          rw [List.getElem?_set_self (by have := HR.out.1; omega), List.getElem?_map, HY.out]; rfl
        · rw [List.getElem?_set_ne (Ne.symm hjk)]
          exact HR.out.2 j (by omega)
      case measure => simp [intOf]; omega
    · obtain rfl : k = ys.length := by omega
      obtain ⟨wo, rfl⟩ : ∃ wo : World, wo = wr := ⟨_, rfl⟩
      have HRo : R.take ys.length = ys.map (slotOf M) := by
        apply List.ext_getElem?
        intro j
        rw [List.getElem?_take]
        by_cases hj : j < ys.length
        · rw [if_pos hj]; exact HR.out.2 j hj
        · rw [if_neg hj, List.getElem?_eq_none (by simp; omega)]
      have hRl := HR.out.1
      have HRo' := Aside0.mk HRo
      have HRl' := Aside0.mk hRl
      clear HRo hRl HR hk hlt
      have HBw3 := Aside0.mk (below_then HBw.out (by have := HBw.out.size; exact this) HBel.out)
      have HL3 := Aside0.mk (IsLane.chg HLw.out (Chg.below HBel.out (fun _ => False)) (fun f => f))
      have HM3 := Aside0.mk (MapIs.chg HMw.out (Chg.below HBel.out (fun _ => False)) (fun f => f))
      have c6 := HL3.out.c_head
      have c7 := HL3.out.c_ready
      have hdf : IntKind.i64.wrap (IntKind.u64.wrap (L.ready - L.head)) = (nr : Int) := HNR.out
      have hmk := fun W => mk_slots W nr nr (Nat.le_refl _) (by omega)
      go_wp2
      go_region_held3 (fun w' => w'.cell? ⟨b, 325, none⟩ = some (.int .u64 L.head) ∧ w'.cell? ⟨b, 326, none⟩ = some (.int .u64 L.ready) ∧ w'.cell? ⟨w.heap.size, 0, none⟩ = some (.pointer (some ⟨b, 0, none⟩)))
        (first
          | go_keep
          | ((try go_split_ands); refine ⟨?_, ?_, ?_⟩ <;> (first | assumption | (go_simp; done)))) (fail)
      have BO3 := blk_drew (HBk.out.alloc (.cells (slotCells (List.replicate nr (0, 0))).toArray 36))
      have BR3 := blk_drew (blk_new wo (slotCells (List.replicate nr (0, 0))) 36)
      have HN3 : Below wo.heap.size wo (wo.alloc (.cells (slotCells (List.replicate nr (0, 0))).toArray 36)).drew := ((Below.refl wo.heap.size wo).alloc (Nat.le_refl _) _).drew
      have hz3 : (wo.alloc (.cells (slotCells (List.replicate nr (0, 0))).toArray 36)).drew.heap.size = wo.heap.size + 1 := by simp
      generalize hW3 : (wo.alloc (.cells (slotCells (List.replicate nr (0, 0))).toArray 36)).drew = W3 at BO3 BR3 HN3 hz3 ⊢
      have BR3' := Aside0.mk BR3
      have BO3' := Aside0.mk BO3
      have HN3' := Aside0.mk HN3
      have hz3' := Aside0.mk hz3
      have hbw := hsz.out
      have hw1s := HBw.out.size
      have q1 : wo.heap.size ≠ b := by omega
      have q2 : wo.heap.size ≠ w.heap.size := by have h_ := hz1; rw [heap_drewN] at h_; simp only [World.size_alloc] at h_; omega
      have q3 : w1.heap.size ≠ wo.heap.size := by omega
      have hz1' := Aside0.mk hz1
      clear hW3 BO3 BR3 HN3 hz3 bx c6 c7 hdf hmk hbw hz1
      go_wp2
      go_loopw [70] (fun v70 wr => ∃ (k : Nat) (R3 : List (Int × Int)), v70 = .int .i64 k ∧ k ≤ nr ∧ Aside0 (R3.length = nr ∧ ∀ j, j < k → R3[j]? = some (entSlot L j)) ∧ Aside0 (Blk wr wo.heap.size (slotCells R3) 36) ∧ Aside0 (Below wo.heap.size wo wr) ∧ Aside0 (wr.heap.size = wo.heap.size + 1)) (fun v70 _ => nr - (intOf v70).toNat)
      case atStart => exact ⟨0, _, rfl, Nat.zero_le _, ⟨by simp, fun j hj => absurd hj (Nat.not_lt_zero _)⟩, BR3', HN3', hz3'⟩
      case round =>
        obtain ⟨k, R3, rfl, hk, HR3, HBk3, HBel3, hsz3⟩ := hrel
        have bx : wr.cell? ⟨w.heap.size, 0, none⟩ = some (.pointer (some ⟨b, 0, none⟩)) := pw_cell_below HBel3.out (pw_cell_below HBel.out BX.out)
        have HL4 := Aside0.mk (IsLane.chg HL3.out (Chg.below HBel3.out (fun _ => False)) (fun f => f))
        by_cases hlt : k < nr
        · obtain ⟨n4, hn4⟩ : ∃ n4 : Int, IntKind.u64.wrap (L.head + k) = n4 := ⟨_, rfl⟩
          obtain ⟨e1, e2⟩ := ent_at HL4.out HOK.out n4
          have hn40 := u64_in (L.head + k)
          rw [hn4] at hn40
          obtain ⟨j, hj⟩ : ∃ j : Nat, (n4 % L.size).toNat = j := ⟨_, rfl⟩
          rw [hj] at e1 e2
          have HAT := Aside0.mk (fun W (hl : IsLane W b L) => at_calls W b L hl HOK.out.pow n4 hn40.1 hn40.2 j e1)
          have c6 := HL4.out.c_head
          have x1 := HL4.out.e_n e2
          have x2 := HL4.out.e_gen e2
          have hk64 : IntKind.u64.wrap (k : Int) = (k : Int) := by rw [wrap_u64']; omega
          have hRk : k < R3.length := by have := HR3.out.1; omega
          obtain ⟨r0, hr0⟩ : ∃ r, R3[k]? = some r := ⟨_, List.getElem?_eq_getElem hRk⟩
          have s0 := HBk3.out.cell (slot_get hr0).1
          have s1 := HBk3.out.cell (slot_get hr0).2
          have fs := HBk3.out.frozen
          have hent : entSlot L k = ((entAt L n4).n, (entAt L n4).gen) := by unfold entSlot; rw [hn4]
          have HE := Aside0.mk hent
          clear hr0 hRk hj e1 e2 hn40 hent
          go_wp2
          go_region_held3 (fun w' => w'.cell? ⟨b, 325, none⟩ = some (.int .u64 L.head) ∧ w'.cell? ⟨w.heap.size, 0, none⟩ = some (.pointer (some ⟨b, 0, none⟩)) ∧ w'.cell? ⟨b, 4 + j * 5 + 1, none⟩ = some (.int .i64 (entAt L n4).n) ∧ w'.cell? ⟨b, 4 + j * 5 + 1 + 1, none⟩ = some (.int .u64 (entAt L n4).gen))
            (first
              | go_keep
              | ((try go_split_ands); refine ⟨?_, ?_, ?_, ?_⟩ <;> (first | assumption | (go_simp; done))))
            (first | (go_at_call 35; refine (HAT.out _ ?side).mono ?_; (case side => exact (by repeat (first | with_reducible exact HL4.out | apply IsLane.alloc | apply IsLane.drewN | apply IsLane.drew))); rintro e_ w' ⟨rfl, nd, rfl⟩))
          go_wp2
          go_roundw
          case rel =>
            refine ⟨k + 1, R3.set k (entSlot L k), by go_num, by omega, ⟨by rw [List.length_set]; exact HR3.out.1, fun i hi => ?_⟩, ⟨?_⟩, ⟨((pw_below_drewN HBel3.out _).setCell (by simp) _).setCell (by simp) _⟩, ⟨by simpa using hsz3.out⟩⟩
            · by_cases hik : i = k
              · subst hik
                rw [List.getElem?_set_self (by have := HR3.out.1; omega)]
              · rw [List.getElem?_set_ne (Ne.symm hik)]
                exact HR3.out.2 i (by omega)
            · have := blk_slot (j := k) (blk_drewN HBk3.out (1 + nd)) (entSlot L k) (by have := HR3.out.1; omega)
              rw [HE.out] at this ⊢
              exact this
          case measure => simp [intOf]; omega
        · obtain rfl : k = nr := by omega
          have hR3 : R3 = (List.range k).map (entSlot L) := by
            apply List.ext_getElem?
            intro i
            by_cases hi : i < k
            · rw [HR3.out.2 i hi, List.getElem?_map, List.getElem?_range hi]; rfl
            · rw [List.getElem?_eq_none (by rw [HR3.out.1]; exact Nat.le_of_not_lt hi), List.getElem?_eq_none (by rw [List.length_map, List.length_range]; exact Nat.le_of_not_lt hi)]
          obtain ⟨w4, rfl⟩ : ∃ w4 : World, w4 = wr := ⟨_, rfl⟩
          have HR3' := Aside0.mk hR3
          have HB4 := Aside0.mk (below_then HBw3.out HBw3.out.size HBel3.out)
          have HM4 := Aside0.mk (MapIs.chg HM3.out (Chg.below HBel3.out (fun _ => False)) (fun f => f))
          have HO4 := Aside0.mk (Blk.chg HBk.out (Chg.below HBel3.out (fun _ => False)) (fun f => f))
          have hmk := fun W => mk_slots W (ys.length + k) (ys.length + k) (Nat.le_refl _) (by omega)
          simp only [Int.natCast_add] at hmk
          clear hR3 hk hlt
          go_upto_region 19 with fail
          have BA := blk_new w4 (slotCells (List.replicate (ys.length + k) (0, 0))) 36
          have BO5 := HO4.out.alloc (.cells (slotCells (List.replicate (ys.length + k) (0, 0))).toArray 36)
          have BR5 := HBk3.out.alloc (.cells (slotCells (List.replicate (ys.length + k) (0, 0))).toArray 36)
          have HN5 : Below w4.heap.size w4 (w4.alloc (.cells (slotCells (List.replicate (ys.length + k) (0, 0))).toArray 36)) := (Below.refl w4.heap.size w4).alloc (Nat.le_refl _) _
          generalize hW5 : w4.alloc (.cells (slotCells (List.replicate (ys.length + k) (0, 0))).toArray 36) = W5 at BA BO5 BR5 HN5 ⊢
          have hbw4 := hsz3.out
          have hbw5 := hsz.out
          have hmin : Nat.min ys.length (ys.length + k) = ys.length := Nat.min_eq_left (by omega)
          have o1 : w1.heap.size ≠ w4.heap.size := by omega
          have o2 : wo.heap.size ≠ w4.heap.size := by omega
          have hl1 : (slotCells (ys.map (slotOf M))).length = Nat.min ys.length (ys.length + k) * 2 := by
            rw [slotCells, prCells_length, List.length_map, hmin]; omega
          have hcp1 : ∀ ty, (Builtin.copy_ #[46, 46] ty #[.slice (some ⟨w4.heap.size, 0, none⟩) (ys.length + k) (ys.length + k), .slice (some ⟨w1.heap.size, 0, none⟩) ys.length cr]).run Try.prog W5 = .ok (.int .i64 (ys.length : Int)) (W5.setRow w4.heap.size (splice (slotCells (List.replicate (ys.length + k) (0, 0))) 0 (slotCells (ys.map (slotOf M)))).toArray) := by
            intro ty
            have h := run_copy_many (P := Try.prog) W5 46 46 ty 36 w4.heap.size 0 (ys.length + k) (ys.length + k) (some ⟨w1.heap.size, 0, none⟩) ys.length cr 2 _ 36 (slotCells (ys.map (slotOf M))) Try.underlying46 (by kernel_rfl) (by omega) BA hl1
              (fun _ => ⟨_, rfl, fun j v hj => by
                rw [add_plain]
                refine BO5.cell ?_
                rw [← HRo'.out, slotCells, ← prCells_take] at hj
                rw [List.getElem?_take] at hj
                split at hj
                · exact hj
                · cases hj⟩)
              (by rw [slotCells, slotCells, prCells_length, prCells_length, List.length_map, List.length_replicate]; omega) (prCells_one _ _ _ (fun _ => rfl) (fun _ => rfl))
            rw [h, hmin]; rfl
          have BA6 := BA.setRow (splice (slotCells (List.replicate (ys.length + k) (0, 0))) 0 (slotCells (ys.map (slotOf M))))
          have BR6 := BR5.setRow_other o2 (splice (slotCells (List.replicate (ys.length + k) (0, 0))) 0 (slotCells (ys.map (slotOf M)))).toArray
          have HN6 := below_setRow HN5 (Nat.le_refl w4.heap.size) (splice (slotCells (List.replicate (ys.length + k) (0, 0))) 0 (slotCells (ys.map (slotOf M)))).toArray
          generalize hW6 : W5.setRow w4.heap.size (splice (slotCells (List.replicate (ys.length + k) (0, 0))) 0 (slotCells (ys.map (slotOf M)))).toArray = W6 at hcp1 BA6 BR6 HN6
          have e6 : splice (slotCells (List.replicate (ys.length + k) (0, 0))) 0 (slotCells (ys.map (slotOf M))) = slotCells (ys.map (slotOf M) ++ List.replicate k (0, 0)) := by
            have := splice_pr (Value.int .i64) (Value.int .u64) (List.replicate (ys.length + k) (0, 0)) 0 (ys.map (slotOf M))
            rw [Nat.zero_mul] at this
            rw [slotCells, slotCells, this]
            unfold splice
            simp [slotCells]
          rw [e6] at BA6
          obtain ⟨of2, hof2⟩ : ∃ of2 : Nat, (if ys.length + k = ys.length then 0 else ys.length * 2) = of2 := ⟨_, rfl⟩
          have hsl : ∀ W, (Instr.slice 46 (.slice (some ⟨w4.heap.size, 0, none⟩) (ys.length + k) (ys.length + k)) (some (.int .i64 (ys.length : Int))) none none).run Try.prog W = .ok (.slice (some ⟨w4.heap.size, of2, none⟩) k k) W := by
            intro W
            have h := run_slice_l (P := Try.prog) W 46 (some ⟨w4.heap.size, 0, none⟩) (ys.length + k) (ys.length + k) (by rw [Try.underlying46]; kernel_rfl) .i64 (ys.length : Int) (by omega) (by omega)
            rw [h]
            have hs2 : (sizeOf (Try.prog.elem 46)).run Try.prog W = .ok 2 W := Try.sizeOf36 W
            rw [hs2]
            simp only [Result.andThen, sliced, Int.toNat_natCast, Nat.add_sub_cancel_left]
            rw [← hof2]
            split <;> simp [add_plain]
          have hR3l : R3.length = k := HR3.out.1
          have hcp2 : ∀ ty, (Builtin.copy_ #[46, 46] ty #[.slice (some ⟨w4.heap.size, of2, none⟩) k k, .slice (some ⟨wo.heap.size, 0, none⟩) k k]).run Try.prog W6 = .ok (.int .i64 (k : Int)) (W6.setRow w4.heap.size (splice (slotCells (ys.map (slotOf M) ++ List.replicate k (0, 0))) of2 (slotCells R3)).toArray) := by
            intro ty
            have hmk2 : Nat.min k k = k := Nat.min_self k
            have h := run_copy_many (P := Try.prog) W6 46 46 ty 36 w4.heap.size of2 k k (some ⟨wo.heap.size, 0, none⟩) k k 2 _ 36 (slotCells R3) Try.underlying46 (by kernel_rfl) (by omega) BA6
              (by rw [hmk2, slotCells, prCells_length, hR3l]; omega)
              (fun _ => ⟨_, rfl, fun j v hj => by rw [add_plain]; exact BR6.cell hj⟩)
              (by rw [slotCells, slotCells, prCells_length, prCells_length, List.length_append, List.length_map, List.length_replicate, hR3l, ← hof2]; split <;> omega) (prCells_one _ _ _ (fun _ => rfl) (fun _ => rfl))
            rw [h, hmk2]; rfl
          have e7 : splice (slotCells (ys.map (slotOf M) ++ List.replicate k (0, 0))) of2 (slotCells R3) = slotCells (ys.map (slotOf M) ++ (List.range k).map (entSlot L)) := by
            rw [← HR3'.out]
            by_cases hk0 : k = 0
            · have : R3 = [] := List.eq_nil_of_length_eq_zero (by rw [hR3l, hk0])
              rw [this, hk0]
              simp [slotCells, prCells, splice]
            · rw [← hof2, if_neg (by omega)]
              have := splice_pr (Value.int .i64) (Value.int .u64) (ys.map (slotOf M) ++ List.replicate k (0, 0)) ys.length R3
              rw [slotCells, slotCells, this]
              unfold splice
              rw [List.take_left' (by simp), List.drop_eq_nil_of_le (by simp; omega)]
              simp [slotCells]
          have BA7 := BA6.setRow (splice (slotCells (ys.map (slotOf M) ++ List.replicate k (0, 0))) of2 (slotCells R3))
          have HN7 := below_setRow HN6 (Nat.le_refl w4.heap.size) (splice (slotCells (ys.map (slotOf M) ++ List.replicate k (0, 0))) of2 (slotCells R3)).toArray
          generalize hW7 : W6.setRow w4.heap.size (splice (slotCells (ys.map (slotOf M) ++ List.replicate k (0, 0))) of2 (slotCells R3)).toArray = W7 at hcp2 BA7 HN7
          rw [e7] at BA7
          have BA7' := Aside0.mk BA7
          have HN7' := Aside0.mk HN7
          clear hmk hW5 hW6 hW7 BA BO5 BR5 HN5 hbw4 hbw5 hmin hl1 BA6 BR6 HN6 e6 e7 hof2 hR3l BA7 HN7
          go_upto_region 20 with fail
          have HL7 := Aside0.mk (IsLane.chg (IsLane.chg HL3.out (Chg.below HBel3.out (fun _ => False)) (fun f => f)) (Chg.below HN7'.out (fun _ => False)) (fun f => f))
          have HM7 := Aside0.mk (MapIs.chg HM4.out (Chg.below HN7'.out (fun _ => False)) (fun f => f))
          have HB7 := Aside0.mk (below_then HB4.out HB4.out.size HN7'.out)
          have bx7 : W7.cell? ⟨w.heap.size, 0, none⟩ = some (.pointer (some ⟨b, 0, none⟩)) := pw_cell_below HN7'.out bx
          have cm := HL7.out.c_m
          obtain ⟨o, ho⟩ := HM7.out.run_clear (P := Try.prog) (T := 65) (K := 22) (E := 79) Try.underlying65
          have hU : ∀ ty, (Builtin.clear_ #[65] ty #[.map (some L.m)]).run Try.prog W7 = .ok (.tuple #[]) (setBlock W7 L.m o) := (ho W7 rfl).1
          have HM8 := (ho W7 rfl).2
          clear ho hcp1 hcp2 hsl bx
          go_upto_region 21 with fail
          have HL8 := HL7.out.setBlock hmb o
          have BA8 := BA7'.out.setBlock (show L.m ≠ w4.heap.size by have := HM4.out.lt; omega) o
          have HC8 : Chg (fun k => k = b ∨ k = L.m) w (setBlock W7 L.m o) := (Chg.below HB7.out _).setBlock L.m o (fun _ => .inr rfl)
          have bx8 : (setBlock W7 L.m o).cell? ⟨w.heap.size, 0, none⟩ = some (.pointer (some ⟨b, 0, none⟩)) := by rw [setBlock_cell (show L.m ≠ w.heap.size by omega)]; exact bx7
          generalize hW8 : setBlock W7 L.m o = W8 at HM8 HL8 BA8 HC8 bx8 ⊢
          have HL8' := Aside0.mk HL8
          have HM8' := Aside0.mk HM8
          have BA8' := Aside0.mk BA8
          have HC8' := Aside0.mk HC8
          clear hW8 HL8 HM8 BA8 HC8 cm hU bx7
          have hst := run_zero_ring HL8'.out
          have HL9 := HL8'.out.s_ring0
          have HM9 := HM8'.out.setRow hmb (laneCells { L with ring := List.replicate 64 ent0 }).toArray
          have o3 : w4.heap.size ≠ b := by have := HB4.out.size; omega
          have BA9 := BA8'.out.setRow_other o3 (laneCells { L with ring := List.replicate 64 ent0 }).toArray
          have HC9 := HC8'.out.setRow b (laneCells { L with ring := List.replicate 64 ent0 }).toArray (fun _ => .inl rfl)
          have bx9 : (W8.setRow b (laneCells { L with ring := List.replicate 64 ent0 }).toArray).cell? ⟨w.heap.size, 0, none⟩ = some (.pointer (some ⟨b, 0, none⟩)) := by
            rw [World.cell?_of_block (w := W8) (Go.setRow_other W8 b w.heap.size _ n0)]; exact bx8
          generalize hW9 : W8.setRow b (laneCells { L with ring := List.replicate 64 ent0 }).toArray = W9 at hst HL9 HM9 BA9 HC9 bx9
          have HL9' := Aside0.mk HL9
          have HM9' := Aside0.mk HM9
          have BA9' := Aside0.mk BA9
          have HC9' := Aside0.mk HC9
          clear HL9 HM9 BA9 HC9 hW9
          go_upto_region 22 with fail
          clear bx8 hst
          have c0 := HL9'.out.c_credit
          have c8 := HL9'.out.c_tail
          have f9 := HL9'.out.fr
          have ca := HL9'.out.c_base
          have cb := HL9'.out.c_head
          have cl := HL9'.out.c_left
          dsimp only at c0 c8 ca cb cl
          have d1 : (⟨b, 327, none⟩ : Addr) ≠ ⟨b, 324, none⟩ := by simp
          have d2 : (⟨b, 327, none⟩ : Addr) ≠ ⟨b, 325, none⟩ := by simp
          have d3 : (⟨b, 327, none⟩ : Addr) ≠ ⟨b, 2, none⟩ := by simp
          have d4 : (⟨b, 0, none⟩ : Addr) ≠ ⟨b, 324, none⟩ := by simp
          have d5 : (⟨b, 0, none⟩ : Addr) ≠ ⟨b, 325, none⟩ := by simp
          have d6 : (⟨b, 0, none⟩ : Addr) ≠ ⟨b, 2, none⟩ := by simp
          have d7 : (⟨w.heap.size, 0, none⟩ : Addr) ≠ ⟨b, 324, none⟩ := by simp [n0]
          have d8 : (⟨w.heap.size, 0, none⟩ : Addr) ≠ ⟨b, 325, none⟩ := by simp [n0]
          have d9 : (⟨w.heap.size, 0, none⟩ : Addr) ≠ ⟨b, 2, none⟩ := by simp [n0]
          have D := Aside0.mk (And.intro d1 (And.intro d2 (And.intro d3 (And.intro d4 (And.intro d5 (And.intro d6 (And.intro d7 (And.intro d8 d9))))))))
          clear d1 d2 d3 d4 d5 d6 d7 d8 d9
          go_region_held3 (fun w' => w'.cell? ⟨b, 327, none⟩ = some (.int .u64 L.tail) ∧ w'.cell? ⟨b, 0, none⟩ = some (.int .i64 L.credit) ∧ w'.cell? ⟨w.heap.size, 0, none⟩ = some (.pointer (some ⟨b, 0, none⟩)))
            (first
              | exact ⟨c8, c0, bx9⟩
              | exact ⟨keep_cell c8 D.out.1, keep_cell c0 D.out.2.2.2.1, keep_cell bx9 D.out.2.2.2.2.2.2.1⟩
              | exact ⟨keep_cell (keep_cell c8 D.out.1) D.out.2.1, keep_cell (keep_cell c0 D.out.2.2.2.1) D.out.2.2.2.2.1, keep_cell (keep_cell bx9 D.out.2.2.2.2.2.2.1) D.out.2.2.2.2.2.2.2.1⟩
              | exact ⟨keep_cell (keep_cell (keep_cell c8 D.out.1) D.out.2.1) D.out.2.2.1, keep_cell (keep_cell (keep_cell c0 D.out.2.2.2.1) D.out.2.2.2.2.1) D.out.2.2.2.2.2.1, keep_cell (keep_cell (keep_cell bx9 D.out.2.2.2.2.2.2.1) D.out.2.2.2.2.2.2.2.1) D.out.2.2.2.2.2.2.2.2⟩) (fail)
          have HLX := (((HL9'.out.s_base L.tail).s_head L.tail).s_left L.credit).drew
          have HMX := (((HM9'.out.setCell ⟨b, 324, none⟩ (.int .u64 L.tail)).setCell ⟨b, 325, none⟩ (.int .u64 L.tail)).setCell ⟨b, 2, none⟩ (.int .i64 L.credit)).drew
          have BAX := blk_drew (((BA9'.out.other (p := ⟨b, 324, none⟩) (Ne.symm o3) (.int .u64 L.tail)).other (p := ⟨b, 325, none⟩) (Ne.symm o3) (.int .u64 L.tail)).other (p := ⟨b, 2, none⟩) (Ne.symm o3) (.int .i64 L.credit))
          have HCX := (((HC9'.out.setCell ⟨b, 324, none⟩ (.int .u64 L.tail) (fun _ => .inl rfl)).setCell ⟨b, 325, none⟩ (.int .u64 L.tail) (fun _ => .inl rfl)).setCell ⟨b, 2, none⟩ (.int .i64 L.credit) (fun _ => .inl rfl)).drew
          have bxx : (((W9.setCell ⟨b, 324, none⟩ (.int .u64 L.tail)).setCell ⟨b, 325, none⟩ (.int .u64 L.tail)).setCell ⟨b, 2, none⟩ (.int .i64 L.credit)).drew.cell? ⟨w.heap.size, 0, none⟩ = some (.pointer (some ⟨b, 0, none⟩)) := keep_cell (keep_cell (keep_cell bx9 D.out.2.2.2.2.2.2.1) D.out.2.2.2.2.2.2.2.1) D.out.2.2.2.2.2.2.2.2
          generalize hWX : (((W9.setCell ⟨b, 324, none⟩ (.int .u64 L.tail)).setCell ⟨b, 325, none⟩ (.int .u64 L.tail)).setCell ⟨b, 2, none⟩ (.int .i64 L.credit)).drew = WX at HLX HMX BAX HCX bxx ⊢
          have HLX' := Aside0.mk HLX
          have HMX' := Aside0.mk HMX
          have BAX' := Aside0.mk BAX
          have HCX' := Aside0.mk HCX
          clear hWX HLX HMX BAX HCX c0 c8 f9 ca cb cl bx9 D
          have c9 : WX.cell? ⟨b, 328, none⟩ = some (.int .u64 L.epoch) := HLX'.out.c_epoch
          have f9 := HLX'.out.fr
          go_wp2
          go_ret2
          exact ⟨w4.heap.size, ys, rfl, Y1.out, Y2.out, BAX'.out.other (Ne.symm o3) _, by have := HB4.out.size; exact this, HLX'.out.s_epoch _, HMX'.out.setCell _ _, HCX'.out.setCell _ _ (fun _ => .inl rfl)⟩
end Go.Proofs.Ytekjhfhlbkcklaa.L

/-
  The lane's methods: Take. · The lane's methods: Retire.
-/
import Derived.Test.YtekjhfhlbkcklaaLA
import Derived.Test.YtekjhfhlbkcklaaK
import Derived.Deep.DrawnRows
import Derived.Deep.DeepCutAuto
import Derived.Deep.CutBlock
set_option linter.unusedVariables false
set_option linter.unusedSimpArgs false
namespace Go.Proofs.Ytekjhfhlbkcklaa.L
open Go.RowKit Go.Proofs.Ytekjhfhlbkcklaa.K Go.Proofs.Ytekjhfhlbkcklaa.PA Go.Proofs.YtekjhfhlbkcklaaW.PrintWords
open Go.ChangeMaps (setBlock)
attribute [local go_sem ↓] Go.wp_at_zero Go.wp_at_succ

structure Past where
  n : Int
  gen : Int
  held : Bool
def Past.enc (p : Past) : Value := .agg #[.int .i64 p.n, .int .u64 p.gen, .bool p.held]
abbrev Pasts := List (Int × Past)
abbrev IsMap (w : World) (m : Nat) (M : Pasts) : Prop := MapIs .u64 Past.enc w m M
theorem IsLane.setBlock {w : World} {b : Nat} {L : Lane} (h : IsLane w b L) {m : Nat} (hm : m ≠ b) (o : Obj) : IsLane (setBlock w m o) b L := ⟨h.blk.setBlock hm o, h.len⟩
theorem setBlock_cell {w : World} {m : Nat} {o : Obj} {a : Addr} (h : m ≠ a.block) : (setBlock w m o).cell? a = w.cell? a := by
  unfold World.cell? ChangeMaps.setBlock
  simp only [Array.getElem?_setIfInBounds, if_neg h]
theorem setBlock_size (w : World) (m : Nat) (o : Obj) : (setBlock w m o).heap.size = w.heap.size := by simp [ChangeMaps.setBlock]
theorem setBlock_frozen {w : World} {m : Nat} {o : Obj} {a : Addr} (h : m ≠ a.block) : (setBlock w m o).frozen? a = w.frozen? a := by
  unfold World.frozen? ChangeMaps.setBlock
  simp only [Array.getElem?_setIfInBounds, if_neg h]
def takeNew (L : Lane) : Lane := { L with ring := L.ring.set (L.head % L.size).toNat ent0, head := IntKind.u64.wrap (L.head + 1) }
theorem zero_past (w : World) : (zeroValue 79).run Try.prog w = .ok (Past.enc ⟨0, 0, false⟩) w := Try.zeroValue79 w
theorem fld_slot (a b c : Value) (W : World) : (Instr.field 79 (.agg #[a, b, c]) 0).run Try.prog W = .ok (.agg #[a, b]) W := by
  simp [Instr.field, run_underlying Try.underlying79, asAgg, part, Try.sizeOf36, Try.isAgg36]
theorem heap_drewN (w : World) (n : Nat) : (w.drewN n).heap = w.heap := rfl
theorem blk_new (w : World) (cs : List Value) (t : TypeId) : Blk (w.alloc (.cells cs.toArray t)) w.heap.size cs t := heap_alloc_new w _
theorem blk_new1 (w : World) (o : Obj) (cs : List Value) (t : TypeId) : Blk ((w.alloc o).alloc (.cells cs.toArray t)) (w.heap.size + 1) cs t := by
  have := heap_alloc_new (w.alloc o) (.cells cs.toArray t)
  unfold Blk
  rw [show w.heap.size + 1 = (w.alloc o).heap.size by simp]
  exact this
theorem blk_drew {w : World} {b : Nat} {cs : List Value} {t : TypeId} (h : Blk w b cs t) : Blk w.drew b cs t := h
theorem blk_drewN {w : World} {b : Nat} {cs : List Value} {t : TypeId} (h : Blk w b cs t) (n : Nat) : Blk (w.drewN n) b cs t := h
set_option maxHeartbeats 2000000 in
set_option maxRecDepth 100000 in
theorem take_yes (w : World) (b : Nat) (L : Lane) (M : Pasts) (h : IsLane w b L) (hok : Ok L) (hM : IsMap w L.m M) (hmb : L.m ≠ b) (j : Nat) (e : Ent) (hj : L.head % L.size = j) (he : L.ring[j]? = some e) (hne : L.head ≠ L.ready) :
    Calls Try.prog 17 #[.pointer (some ⟨b, 0, none⟩)] w fun e_ w' => e_ = .returned (.tuple #[.agg #[.int .i64 e.n, .int .u64 e.gen], .agg #[.int .u64 L.head, .int .u64 L.epoch], .int .i64 0]) ∧
      IsLane w' b { L with ring := L.ring.set j ent0, head := IntKind.u64.wrap (L.head + 1) } ∧ IsMap w' L.m (mput M L.head ⟨e.n, e.gen, false⟩) ∧ Chg (fun k => k = b ∨ k = L.m) w w' := by
  have hlt := h.lt
  have n0 : w.heap.size ≠ b := by omega
  have n1 : w.heap.size + 1 ≠ b := by omega
  have hmlt := hM.lt
  have nm0 : w.heap.size ≠ L.m := by omega
  have nm1 : w.heap.size + 1 ≠ L.m := by omega
  have hu := Try.underlying34
  have hu2 := Try.underlying38
  have HL := Aside0.mk h
  have HM := Aside0.mk hM
  have HIS := Aside0.mk (fun W (hl : IsLane W b L) => is_at W b L hl true (by simp [hok.credit]))
  have HAT := Aside0.mk (fun W (hl : IsLane W b L) => at_calls W b L hl hok.pow L.head hok.head0 hok.head1 j hj)
  have HF := Aside0.mk (fun W (hl : IsLane W b L) => first_calls W b L hl hok j e hj he hne)
  have HE := Aside0.mk he
  have HK := Aside0.mk hok
  clear h hM he hok
  go_enter Try.func17, Try.ntmps17
  go_wp2_with (first
    | (go_at_call 34; refine (HIS.out _ ?side).mono ?_; (case side => exact (by repeat (first | with_reducible exact HL.out | apply IsLane.alloc | apply IsLane.drewN | apply IsLane.drew))); rintro e_ w' ⟨rfl, rfl⟩)
    | (go_at_call 23; refine (HF.out _ ?side).mono ?_; (case side => exact (by repeat (first | with_reducible exact HL.out | apply IsLane.alloc | apply IsLane.drewN | apply IsLane.drew))); rintro e_ w1 ⟨rfl, hb1⟩; have hz1 := hb1.size; simp only [World.size_alloc] at hz1; have c6 := (IsLane.chg (by repeat (first | with_reducible exact HL.out | apply IsLane.alloc | apply IsLane.drewN | apply IsLane.drew)) (Chg.below hb1 (fun _ => False)) (fun f => f)).c_head; have n2 : w1.heap.size ≠ b := (by omega); have n3 : w1.heap.size + 1 ≠ b := (by omega); have n4 : b < w1.heap.size := (by omega); have n5 : b < w1.heap.size + 1 := (by omega); have HB1 := Aside0.mk hb1; clear hb1)
    | (go_at_call 35; refine (HAT.out _ ?side).mono ?_; (case side => exact (IsLane.chg (by repeat (first | with_reducible exact HL.out | apply IsLane.alloc | apply IsLane.drewN | apply IsLane.drew)) (Chg.below HB1.out (fun _ => False)) (fun f => f)).alloc _ |>.alloc _); rintro e_ w' ⟨rfl, nd, rfl⟩))
  have HLW : IsLane (((w1.alloc (.cells #[.int .i64 e.tick, .int .i64 e.step] 38)).alloc (.cells #[.int .u64 L.head, .int .u64 L.epoch] 34)).drewN nd) b L :=
    (((IsLane.chg (by repeat (first | with_reducible exact HL.out | apply IsLane.alloc | apply IsLane.drewN | apply IsLane.drew)) (Chg.below HB1.out (fun _ => False)) (fun f => f)).alloc _).alloc _).drewN _
  have HMW : IsMap (((w1.alloc (.cells #[.int .i64 e.tick, .int .i64 e.step] 38)).alloc (.cells #[.int .u64 L.head, .int .u64 L.epoch] 34)).drewN nd) L.m M :=
    (((MapIs.chg ((HM.out.alloc _).alloc _) (Chg.below HB1.out (fun _ => False)) (fun f => f)).alloc _).alloc _).drewN _
  have B2 := blk_drewN ((((((blk_new w [.int .i64 0, .int .u64 0] 36).alloc (.cells #[.int .u64 0, .int .u64 0] 34)).chg (Chg.below HB1.out (fun _ => False)) (fun f => f)).alloc (.cells #[.int .i64 e.tick, .int .i64 e.step] 38)).alloc (.cells #[.int .u64 L.head, .int .u64 L.epoch] 34))) nd
  have B3 := blk_drewN ((((((blk_new1 w (.cells #[.int .i64 0, .int .u64 0] 36) [.int .u64 0, .int .u64 0] 34)).chg (Chg.below HB1.out (fun _ => False)) (fun f => f)).alloc (.cells #[.int .i64 e.tick, .int .i64 e.step] 38)).alloc (.cells #[.int .u64 L.head, .int .u64 L.epoch] 34))) nd
  have B6 := blk_drewN (blk_new1 w1 (.cells #[.int .i64 e.tick, .int .i64 e.step] 38) [.int .u64 L.head, .int .u64 L.epoch] 34) nd
  have HCW : Chg (fun _ => False) w (((w1.alloc (.cells #[.int .i64 e.tick, .int .i64 e.step] 38)).alloc (.cells #[.int .u64 L.head, .int .u64 L.epoch] 34)).drewN nd) :=
    ((((((Chg.refl _ w).alloc _).alloc _).then_below HB1.out).alloc _).alloc _).drewN _
  generalize hW : (((w1.alloc (.cells #[.int .i64 e.tick, .int .i64 e.step] 38)).alloc (.cells #[.int .u64 L.head, .int .u64 L.epoch] 34)).drewN nd) = W at HLW HMW B2 B3 B6 HCW ⊢
  have nm6 : w1.heap.size + 1 ≠ L.m := by omega
  have n6 : w1.heap.size + 1 ≠ w.heap.size := by omega
  have n7 : w1.heap.size ≠ w.heap.size := by omega
  have n6s := Ne.symm n6
  have n7s := Ne.symm n7
  clear hW HF HAT HIS HL HM HB1 c6 hz1 hlt hmlt
  obtain ⟨o, ho⟩ := HMW.run_update (P := Try.prog) (T := 65) (K := 22) (E := 79) Try.underlying65 Try.underlying22 L.head ⟨e.n, e.gen, false⟩
  have hU : (Instr.mapUpdate 65 (.map (some L.m)) (.int .u64 L.head) (.agg #[.int .i64 e.n, .int .u64 e.gen, .bool false])).run Try.prog W.drew = .ok () (setBlock W.drew L.m o) := (ho W.drew rfl).1
  have HO := Aside0.mk ho
  clear ho
  have c6 := HLW.c_head
  have c10 := HLW.c_m
  have x1 := HLW.e_n HE.out
  have x2 := HLW.e_gen HE.out
  (go_region_held3 (fun w' => w'.cell? ⟨b, 325, none⟩ = some (.int .u64 L.head) ∧ w'.cell? ⟨b, 329, none⟩ = some (.map (some L.m)) ∧ w'.cell? ⟨b, 4 + j * 5 + 1, none⟩ = some (.int .i64 e.n) ∧ w'.cell? ⟨b, 4 + j * 5 + 1 + 1, none⟩ = some (.int .u64 e.gen)) (first
    | go_keep
    | (go_split_ands; refine ⟨?_, ?_, ?_, ?_⟩ <;> (rw [setBlock_cell (by exact hmb)]; assumption))) (fail))
  have HLX := HLW.drew.setBlock hmb o
  have HMX := (HO.out W.drew rfl).2
  have HCX : Chg (fun k => k = b ∨ k = L.m) w (setBlock W.drew L.m o) := ((HCW.mono (fun _ _ f => f.elim)).drew).setBlock L.m o (fun _ => .inr rfl)
  have B2X := (blk_drew B2).setBlock (Ne.symm nm0) o
  have B3X := (blk_drew B3).setBlock (Ne.symm nm1) o
  have B6X := (blk_drew B6).setBlock (Ne.symm nm6) o
  generalize hX : setBlock W.drew L.m o = X at HLX HMX HCX B2X B3X B6X ⊢
  clear hX hU HO c6 c10 x1 x2 B2 B3 B6 HCW HLW HMW
  have c6 := HLX.c_head
  have x0 := HLX.e_is HE.out
  have x1 := HLX.e_n HE.out
  have x2 := HLX.e_gen HE.out
  have x3 := HLX.e_tick HE.out
  have x4 := HLX.e_step HE.out
  have f0 := HLX.fr
  go_upto_region 9 with fail
  have HLY := HLX.w_all HE.out 0 0 0 0 0
  have HMY := ((((HMX.setCell ⟨b, 4 + j * 5, none⟩ (.int .i64 0)).setCell ⟨b, 4 + j * 5 + 1, none⟩ (.int .i64 0)).setCell ⟨b, 4 + j * 5 + 2, none⟩ (.int .u64 0)).setCell ⟨b, 4 + j * 5 + 3, none⟩ (.int .i64 0)).setCell ⟨b, 4 + j * 5 + 4, none⟩ (.int .i64 0)
  have HCY := ((((HCX.setCell ⟨b, 4 + j * 5, none⟩ (.int .i64 0) (fun _ => .inl rfl)).setCell ⟨b, 4 + j * 5 + 1, none⟩ (.int .i64 0) (fun _ => .inl rfl)).setCell ⟨b, 4 + j * 5 + 2, none⟩ (.int .u64 0) (fun _ => .inl rfl)).setCell ⟨b, 4 + j * 5 + 3, none⟩ (.int .i64 0) (fun _ => .inl rfl)).setCell ⟨b, 4 + j * 5 + 4, none⟩ (.int .i64 0) (fun _ => .inl rfl)
  have H2Y := ((((B2X.other (p := ⟨b, 4 + j * 5, none⟩) (Ne.symm n0) (.int .i64 0)).other (p := ⟨b, 4 + j * 5 + 1, none⟩) (Ne.symm n0) (.int .i64 0)).other (p := ⟨b, 4 + j * 5 + 2, none⟩) (Ne.symm n0) (.int .u64 0)).other (p := ⟨b, 4 + j * 5 + 3, none⟩) (Ne.symm n0) (.int .i64 0)).other (p := ⟨b, 4 + j * 5 + 4, none⟩) (Ne.symm n0) (.int .i64 0)
  have H3Y := ((((B3X.other (p := ⟨b, 4 + j * 5, none⟩) (Ne.symm n1) (.int .i64 0)).other (p := ⟨b, 4 + j * 5 + 1, none⟩) (Ne.symm n1) (.int .i64 0)).other (p := ⟨b, 4 + j * 5 + 2, none⟩) (Ne.symm n1) (.int .u64 0)).other (p := ⟨b, 4 + j * 5 + 3, none⟩) (Ne.symm n1) (.int .i64 0)).other (p := ⟨b, 4 + j * 5 + 4, none⟩) (Ne.symm n1) (.int .i64 0)
  have H6Y := ((((B6X.other (p := ⟨b, 4 + j * 5, none⟩) (Ne.symm n3) (.int .i64 0)).other (p := ⟨b, 4 + j * 5 + 1, none⟩) (Ne.symm n3) (.int .i64 0)).other (p := ⟨b, 4 + j * 5 + 2, none⟩) (Ne.symm n3) (.int .u64 0)).other (p := ⟨b, 4 + j * 5 + 3, none⟩) (Ne.symm n3) (.int .i64 0)).other (p := ⟨b, 4 + j * 5 + 4, none⟩) (Ne.symm n3) (.int .i64 0)
  generalize hY : ((((X.setCell ⟨b, 4 + j * 5, none⟩ (.int .i64 0)).setCell ⟨b, 4 + j * 5 + 1, none⟩ (.int .i64 0)).setCell ⟨b, 4 + j * 5 + 2, none⟩ (.int .u64 0)).setCell ⟨b, 4 + j * 5 + 3, none⟩ (.int .i64 0)).setCell ⟨b, 4 + j * 5 + 4, none⟩ (.int .i64 0) = Y at HLY HMY HCY H2Y H3Y H6Y ⊢
  clear hY c6 x0 x1 x2 x3 x4 f0 HLX HMX HCX B2X B3X B6X
  have c6 : Y.cell? ⟨b, 325, none⟩ = some (.int .u64 L.head) := HLY.c_head
  have f0 := HLY.fr
  go_upto_region 10 with fail
  have HLZ := HLY.s_head (IntKind.u64.wrap (L.head + 1))
  have HMZ := HMY.setCell ⟨b, 325, none⟩ (.int .u64 (IntKind.u64.wrap (L.head + 1)))
  have HCZ := HCY.setCell ⟨b, 325, none⟩ (.int .u64 (IntKind.u64.wrap (L.head + 1))) (fun _ => .inl rfl)
  have H2Z := H2Y.other (p := ⟨b, 325, none⟩) (Ne.symm n0) (.int .u64 (IntKind.u64.wrap (L.head + 1)))
  have H3Z := H3Y.other (p := ⟨b, 325, none⟩) (Ne.symm n1) (.int .u64 (IntKind.u64.wrap (L.head + 1)))
  have H6Z := H6Y.other (p := ⟨b, 325, none⟩) (Ne.symm n3) (.int .u64 (IntKind.u64.wrap (L.head + 1)))
  generalize hZ : Y.setCell ⟨b, 325, none⟩ (.int .u64 (IntKind.u64.wrap (L.head + 1))) = Z at HLZ HMZ HCZ H2Z H3Z H6Z ⊢
  clear hZ c6 f0 HLY HMY HCY H2Y H3Y H6Y
  have c10 : Z.cell? ⟨b, 329, none⟩ = some (.map (some L.m)) := HLZ.c_m
  have d0 : Z.cell? ⟨w1.heap.size + 1, 0, none⟩ = some (.int .u64 L.head) := H6Z.cell rfl
  have d1 : Z.cell? ⟨w1.heap.size + 1, 1, none⟩ = some (.int .u64 L.epoch) := H6Z.cell rfl
  have y0 : Z.cell? ⟨w.heap.size, 0, none⟩ = some (.int .i64 0) := H2Z.cell rfl
  have y1 : Z.cell? ⟨w.heap.size, 1, none⟩ = some (.int .u64 0) := H2Z.cell rfl
  have z0 : Z.cell? ⟨w.heap.size + 1, 0, none⟩ = some (.int .u64 0) := H3Z.cell rfl
  have z1 : Z.cell? ⟨w.heap.size + 1, 1, none⟩ = some (.int .u64 0) := H3Z.cell rfl
  have fy := fun i => H2Z.frozen i
  have fz := fun i => H3Z.frozen i
  have hLk : (Instr.lookup 65 (.map (some L.m)) (.int .u64 L.head) false).run Try.prog Z.drew = .ok (.agg #[.int .i64 e.n, .int .u64 e.gen, .bool false]) Z.drew := by
    have := HMZ.drew.run_lookup (P := Try.prog) (T := 65) (K := 22) (E := 79) Try.underlying65 Try.underlying22 (zero_past _) L.head false
    rw [mget_mput] at this
    exact this
  have hfl := fld_slot (.int .i64 e.n) (.int .u64 e.gen) (.bool false)
  (go_region_held3 (fun w' => w'.cell? ⟨b, 329, none⟩ = some (.map (some L.m)) ∧ w'.cell? ⟨w1.heap.size + 1, 0, none⟩ = some (.int .u64 L.head) ∧ w'.cell? ⟨w1.heap.size + 1, 1, none⟩ = some (.int .u64 L.epoch)) (first
    | go_keep
    | (go_split_ands; refine ⟨?_, ?_, ?_⟩ <;> (go_simp; done))) (fail))
  all_goals go_wp2
  all_goals refine bodyPost_ret (v := .tuple #[.agg #[.int .i64 e.n, .int .u64 e.gen], .agg #[.int .u64 L.head, .int .u64 L.epoch], .int .i64 0]) (by simp [results, Try.results17, go_sem, y0, y1, z0, z1, n6, n7, n6s, n7s]) rfl ⟨rfl, ?_, ?_, ?_⟩
  · exact ((((HLZ.other (p := ⟨w.heap.size, 0, none⟩) n0 _).other (p := ⟨w.heap.size, 1, none⟩) n0 _).other (p := ⟨w.heap.size + 1, 0, none⟩) n1 _).other (p := ⟨w.heap.size + 1, 1, none⟩) n1 _).drew
  · exact ((((HMZ.setCell _ _).setCell _ _).setCell _ _).setCell _ _).drew
  · exact ((((HCZ.setCell _ _ (fun h => absurd h (by simp))).setCell _ _ (fun h => absurd h (by simp))).setCell _ _ (fun h => absurd h (by simp))).setCell _ _ (fun h => absurd h (by simp))).drew
set_option maxHeartbeats 2000000 in
set_option maxRecDepth 100000 in
theorem take_no (w : World) (b : Nat) (L : Lane) (h : IsLane w b L) (hok : Ok L) (hne : L.head = L.ready) :
    Calls Try.prog 17 #[.pointer (some ⟨b, 0, none⟩)] w fun e_ w' => e_ = .returned (.tuple #[.agg #[.int .i64 0, .int .u64 0], .agg #[.int .u64 0, .int .u64 0], .int .i64 82]) ∧ Below w.heap.size w w' := by
  have hlt := h.lt
  have hu := Try.underlying34
  have hu2 := Try.underlying38
  have HL := Aside0.mk h
  have HIS := Aside0.mk (fun W (hl : IsLane W b L) => is_at W b L hl true (by simp [hok.credit]))
  have HF := Aside0.mk (fun W (hl : IsLane W b L) => first_none W b L hl hok hne)
  clear h hok
  go_enter Try.func17, Try.ntmps17
  go_wp2_with (first
    | (go_at_call 34; refine (HIS.out _ ?side).mono ?_; (case side => exact (by repeat (first | with_reducible exact HL.out | apply IsLane.alloc | apply IsLane.drewN | apply IsLane.drew))); rintro e_ w' ⟨rfl, rfl⟩)
    | (go_at_call 23; refine (HF.out _ ?side).mono ?_; (case side => exact (by repeat (first | with_reducible exact HL.out | apply IsLane.alloc | apply IsLane.drewN | apply IsLane.drew))); rintro e_ w1 ⟨rfl, hb1⟩; have hz1 := hb1.size; simp only [World.size_alloc] at hz1; have n2 : w1.heap.size ≠ w.heap.size := (by omega); have n3 : w1.heap.size ≠ w.heap.size + 1 := (by omega); have n4 : w1.heap.size + 1 ≠ w.heap.size := (by omega);
        have n5 : w.heap.size < w1.heap.size := (by omega); have n6 : w.heap.size < w1.heap.size + 1 := (by omega); have n7 : w.heap.size + 1 < w1.heap.size := (by omega); have n8 : w.heap.size + 1 < w1.heap.size + 1 := (by omega);
        have y0 : w1.cell? ⟨w.heap.size, 0, none⟩ = some (.int .i64 0) := pw_cell_below hb1 (by go_simp); have y1 : w1.cell? ⟨w.heap.size, 1, none⟩ = some (.int .u64 0) := pw_cell_below hb1 (by go_simp);
        have z0 : w1.cell? ⟨w.heap.size + 1, 0, none⟩ = some (.int .u64 0) := pw_cell_below hb1 (by go_simp); have z1 : w1.cell? ⟨w.heap.size + 1, 1, none⟩ = some (.int .u64 0) := pw_cell_below hb1 (by go_simp);
        have B2 := ((((blk_new w [.int .i64 0, .int .u64 0] 36).alloc (.cells #[.int .u64 0, .int .u64 0] 34)).chg (Chg.below hb1 (fun _ => False)) (fun f => f))); have B3 := (blk_new1 w (.cells #[.int .i64 0, .int .u64 0] 36) [.int .u64 0, .int .u64 0] 34).chg (Chg.below hb1 (fun _ => False)) (fun f => f);
        have fy := (fun i => B2.frozen i); have fz := (fun i => B3.frozen i); have HB1 := Aside0.mk (show Below w.heap.size w w1 from below_step (by repeat (first | (with_reducible exact Below.refl _ _) | apply pw_below_drewN | apply below_alloc)) hb1); clear hb1))
  refine bodyPost_ret (v := .tuple #[.agg #[.int .i64 0, .int .u64 0], .agg #[.int .u64 0, .int .u64 0], .int .i64 82]) (by simp [results, Try.results17, go_sem, y0, y1, z0, z1, n2, n3, n4, n5, n6, n7, n8]) rfl ⟨rfl, ?_⟩
  exact (by repeat (first | (with_reducible exact HB1.out) | refine Below.setCell ?_ (by simp) _ | apply pw_below_drewN | apply below_drew | apply below_alloc))
end Go.Proofs.Ytekjhfhlbkcklaa.L
namespace Go.Proofs.Ytekjhfhlbkcklaa.L
open Go.RowKit Go.Proofs.Ytekjhfhlbkcklaa.K Go.Proofs.Ytekjhfhlbkcklaa.PA Go.Proofs.YtekjhfhlbkcklaaW.PrintWords
open Go.ChangeMaps (setBlock)
attribute [local go_sem ↓] Go.wp_at_zero Go.wp_at_succ

/-- What a retiring tells: the slot, whether it is back, the error; the lane and the map behind it. -/
def retireL (L : Lane) (M : Pasts) (seq ep : Int) : (Int × Int × Bool × Int) × Lane × Pasts :=
  if ep ≠ L.epoch then ((0, 0, false, 0), L, M)
  else match mget M seq with
    | none => ((0, 0, false, 82), L, M)
    | some p =>
      if p.held = true then ((0, 0, false, 82), L, M)
      else if L.two = true then ((p.n, p.gen, true, 0), { L with left := wrap64 (L.left + 1) }, mdel M seq)
      else ((0, 0, false, 0), L, mput M seq { p with held := true })
def ret3 (r : Int × Int × Bool × Int) : Value := .tuple #[.agg #[.int .i64 r.1, .int .u64 r.2.1], .bool r.2.2.1, .int .i64 r.2.2.2]
set_option maxHeartbeats 4000000 in
set_option maxRecDepth 100000 in
theorem retire_calls (w : World) (b : Nat) (L : Lane) (M : Pasts) (h : IsLane w b L) (hok : Ok L) (hM : IsMap w L.m M) (hmb : L.m ≠ b) (seq ep : Int) :
    Calls Try.prog 19 #[.pointer (some ⟨b, 0, none⟩), .agg #[.int .u64 seq, .int .u64 ep]] w fun e_ w' => e_ = .returned (ret3 (retireL L M seq ep).1) ∧
      IsLane w' b (retireL L M seq ep).2.1 ∧ IsMap w' L.m (retireL L M seq ep).2.2 ∧ Chg (fun k => k = b ∨ k = L.m) w w' := by
  have hlt := h.lt
  have n0 : w.heap.size ≠ b := by omega
  have n1 : w.heap.size + 1 ≠ b := by omega
  have hmlt := hM.lt
  have nm0 : w.heap.size ≠ L.m := by omega
  have nm1 : w.heap.size + 1 ≠ L.m := by omega
  have hu := Try.underlying34
  have HL := Aside0.mk h
  have HM := Aside0.mk hM
  have HIS := Aside0.mk (fun W (hl : IsLane W b L) => is_at W b L hl true (by simp [hok.credit]))
  have c9 := h.c_epoch
  clear h hM hok
  by_cases hep : ep = L.epoch
  · have hepb : (ep != L.epoch) = false := by simpa using hep
    have hres : retireL L M seq ep = match mget M seq with
      | none => ((0, 0, false, 82), L, M)
      | some p =>
        if p.held = true then ((0, 0, false, 82), L, M)
        else if L.two = true then ((p.n, p.gen, true, 0), { L with left := wrap64 (L.left + 1) }, mdel M seq)
        else ((0, 0, false, 0), L, mput M seq { p with held := true }) := by
      unfold retireL; rw [if_neg (by simpa using hep)]
    have HR := Aside0.mk hres
    clear hres hep
    go_enter Try.func19, Try.ntmps19
    go_wp2_with (first | (go_at_call 34; refine (HIS.out _ ?side).mono ?_; (case side => exact (by repeat (first | with_reducible exact HL.out | apply IsLane.alloc | apply IsLane.drewN | apply IsLane.drew))); rintro e_ w' ⟨rfl, rfl⟩))
    go_quiet (fail)
    go_upto_region 5 with fail
    have HLW : IsLane (((w.alloc (.cells #[.int .u64 seq, .int .u64 ep] 34)).alloc (.cells #[.int .i64 0, .int .u64 0] 36)).drewN nq) b L := ((HL.out.alloc _).alloc _).drewN _
    have HMW : IsMap (((w.alloc (.cells #[.int .u64 seq, .int .u64 ep] 34)).alloc (.cells #[.int .i64 0, .int .u64 0] 36)).drewN nq) L.m M := ((HM.out.alloc _).alloc _).drewN _
    have B3 := blk_drewN ((blk_new w [.int .u64 seq, .int .u64 ep] 34).alloc (.cells #[.int .i64 0, .int .u64 0] 36)) nq
    have B4 := blk_drewN (blk_new1 w (.cells #[.int .u64 seq, .int .u64 ep] 34) [.int .i64 0, .int .u64 0] 36) nq
    have HCW : Chg (fun _ => False) w (((w.alloc (.cells #[.int .u64 seq, .int .u64 ep] 34)).alloc (.cells #[.int .i64 0, .int .u64 0] 36)).drewN nq) := ((((Chg.refl _ w).alloc _).alloc _)).drewN _
    generalize hW : ((w.alloc (.cells #[.int .u64 seq, .int .u64 ep] 34)).alloc (.cells #[.int .i64 0, .int .u64 0] 36)).drewN nq = W at HLW HMW B3 B4 HCW ⊢
    clear hW HL HM HIS c9
    have hWs := HCW.size
    have bW := HLW.lt
    have mW := HMW.lt
    have lt3 := B3.lt
    have lt4 := B4.lt
    have e5 : W.heap.size ≠ b := by omega
    have e6 : W.heap.size ≠ L.m := by omega
    have e7 : W.heap.size ≠ w.heap.size := by omega
    have e8 : W.heap.size ≠ w.heap.size + 1 := by omega
    have c10 := HLW.c_m
    have d0 : W.cell? ⟨w.heap.size, 0, none⟩ = some (.int .u64 seq) := B3.cell rfl
    have hLk : ∀ W', IsMap W' L.m M → (Instr.lookup 65 (.map (some L.m)) (.int .u64 seq) true).run Try.prog W' = .ok (.tuple #[(((mget M seq).getD ⟨0, 0, false⟩)).enc, .bool (mget M seq).isSome]) W' := fun W' hW' => by
      have := hW'.run_lookup (P := Try.prog) (T := 65) (K := 22) (E := 79) Try.underlying65 Try.underlying22 (zero_past _) seq true
      rw [this]
      cases mget M seq <;> rfl
    obtain ⟨p, hp⟩ : ∃ p, (mget M seq).getD ⟨0, 0, false⟩ = p := ⟨_, rfl⟩
    obtain ⟨ok, hok⟩ : ∃ ok, (mget M seq).isSome = ok := ⟨_, rfl⟩
    have hLk1 : ∀ W', IsMap W' L.m M → (Instr.lookup 65 (.map (some L.m)) (.int .u64 seq) true).run Try.prog W' = .ok (.tuple #[.agg #[.int .i64 p.n, .int .u64 p.gen, .bool p.held], .bool ok]) W' := fun W' hW' => by
      rw [hLk W' hW', hp, hok]; rfl
    have HLK := Aside0.mk hLk1
    have HP := Aside0.mk (And.intro hp hok)
    have HMW' := Aside0.mk HMW
    have HLW' := Aside0.mk HLW
    have HCW' := Aside0.mk HCW
    have B3' := Aside0.mk B3
    have B4' := Aside0.mk B4
    clear hLk hLk1 hp hok HMW HLW HCW B3 B4
    have hu3 := Try.underlying79
    go_cut [7, 8] (fun v7 v8 wc => v7 = .pointer (some ⟨W.heap.size, 0, none⟩) ∧ v8 = .bool ok ∧ Aside0 (Below W.heap.size W wc) ∧ Aside0 (Blk wc W.heap.size [.int .i64 p.n, .int .u64 p.gen, .bool p.held] 79))
    case first =>
      have hLk0 := HLK.out W HMW'.out
      go_region_held3 (fun w' => w'.cell? ⟨b, 329, none⟩ = some (.map (some L.m)) ∧ w'.cell? ⟨w.heap.size, 0, none⟩ = some (.int .u64 seq) ∧ (Instr.lookup 65 (.map (some L.m)) (.int .u64 seq) true).run Try.prog w' = .ok (.tuple #[.agg #[.int .i64 p.n, .int .u64 p.gen, .bool p.held], .bool ok]) w') (first
        | (try go_split_ands
           refine ⟨?_, ?_, HLK.out _ ?_⟩
           · (first | assumption | (go_simp; done) | skip)
           · (first | assumption | (go_simp; done) | skip)
           · (repeat (first | with_reducible exact HMW'.out | apply MapIs.setCell | apply MapIs.alloc | apply MapIs.drewN | apply MapIs.drew)))) (fail)
      all_goals go_wp2
      all_goals go_meet
      all_goals exact ⟨rfl, rfl, ⟨(Below.alloc (Below.refl _ _) (Nat.le_refl _) _).drew⟩, ⟨blk_drew (blk_new W [.int .i64 p.n, .int .u64 p.gen, .bool p.held] 79)⟩⟩
    case rest =>
      obtain ⟨rfl, rfl, HBc, HC7⟩ := hcut
      have HLc := Aside0.mk (IsLane.chg HLW'.out (Chg.below HBc.out (fun _ => False)) (fun f => f))
      have HMc := Aside0.mk (MapIs.chg HMW'.out (Chg.below HBc.out (fun _ => False)) (fun f => f))
      have HCc := Aside0.mk (HCW'.out.then_below HBc.out)
      have H3c := Aside0.mk (Blk.chg B3'.out (Chg.below HBc.out (fun _ => False)) (fun f => f))
      have H4c := Aside0.mk (Blk.chg B4'.out (Chg.below HBc.out (fun _ => False)) (fun f => f))
      clear c10 d0
      have c10 := HLc.out.c_m
      have c1 := HLc.out.c_two
      have d0 : wc.cell? ⟨w.heap.size, 0, none⟩ = some (.int .u64 seq) := H3c.out.cell rfl
      have p0 : wc.cell? ⟨W.heap.size, 0, none⟩ = some (.int .i64 p.n) := HC7.out.cell rfl
      have p1 : wc.cell? ⟨W.heap.size, 1, none⟩ = some (.int .u64 p.gen) := HC7.out.cell rfl
      have p2 : wc.cell? ⟨W.heap.size, 2, none⟩ = some (.bool p.held) := HC7.out.cell rfl
      have fp := HC7.out.frozen
      have s0 : wc.cell? ⟨w.heap.size + 1, 0, none⟩ = some (.int .i64 0) := H4c.out.cell rfl
      have s1 : wc.cell? ⟨w.heap.size + 1, 1, none⟩ = some (.int .u64 0) := H4c.out.cell rfl
      have fs := H4c.out.frozen
      have e7s := Ne.symm e7
      have e8s := Ne.symm e8
      have hP := HP.out
      clear hP
      cases ok with
      | false =>
        have hn : mget M seq = none := by simpa using HP.out.2
        have hr : retireL L M seq ep = ((0, 0, false, 82), L, M) := by rw [HR.out, hn]
        have HR2 := Aside0.mk hr
        clear hn hr
        go_wp2
        refine bodyPost_ret (v := ret3 (0, 0, false, 82)) (by simp [results, Try.results19, go_sem, ret3, s0, s1]) rfl ⟨by rw [HR2.out], ?_, ?_, ?_⟩ <;> (try rw [HR2.out])
        · exact (by repeat (first | with_reducible exact HLc.out | refine IsLane.other ?_ (by first | assumption | (simp; omega)) _ | apply IsLane.alloc | apply IsLane.drewN | apply IsLane.drew))
        · exact (by repeat (first | with_reducible exact HMc.out | apply MapIs.setCell | apply MapIs.alloc | apply MapIs.drewN | apply MapIs.drew))
        · exact (by repeat (first | with_reducible exact HCc.out.mono (fun _ _ f => f.elim) | refine Chg.setCell ?_ _ _ (fun h_ => absurd h_ (by first | (simp; done) | (simp; omega))) | apply Chg.drewN | apply Chg.drew | apply Chg.alloc))
      | true =>
        have hn : mget M seq = some p := by
          have h1 := HP.out
          cases hm : mget M seq with
          | none => rw [hm] at h1; simp at h1
          | some x => rw [hm] at h1; simp at h1; rw [h1]
        have hr := HR.out
        rw [hn] at hr
        have HN := Aside0.mk hn
        clear HP hn
        obtain ⟨pn, pg, ph⟩ := p
        dsimp only at p0 p1 p2 HC7
        cases ph with
        | true =>
          have hr2 : retireL L M seq ep = ((0, 0, false, 82), L, M) := by rw [hr]; rfl
          have HR2 := Aside0.mk hr2
          clear hr hr2
          go_wp2
          refine bodyPost_ret (v := ret3 (0, 0, false, 82)) (by simp [results, Try.results19, go_sem, ret3, s0, s1]) rfl ⟨by rw [HR2.out], ?_, ?_, ?_⟩ <;> (try rw [HR2.out])
          · exact (by repeat (first | with_reducible exact HLc.out | refine IsLane.other ?_ (by first | assumption | (simp; omega)) _ | apply IsLane.alloc | apply IsLane.drewN | apply IsLane.drew))
          · exact (by repeat (first | with_reducible exact HMc.out | apply MapIs.setCell | apply MapIs.alloc | apply MapIs.drewN | apply MapIs.drew))
          · exact (by repeat (first | with_reducible exact HCc.out.mono (fun _ _ f => f.elim) | refine Chg.setCell ?_ _ _ (fun h_ => absurd h_ (by first | (simp; done) | (simp; omega))) | apply Chg.drewN | apply Chg.drew | apply Chg.alloc))
        | false =>
          obtain ⟨two, htwo⟩ : ∃ two, L.two = two := ⟨_, rfl⟩
          rw [htwo] at c1
          cases two with
          | true =>
            have hr2 : retireL L M seq ep = ((pn, pg, true, 0), { L with left := wrap64 (L.left + 1) }, mdel M seq) := by rw [hr]; simp [htwo]
            have HR2 := Aside0.mk hr2
            clear hr hr2
            have c2 := HLc.out.c_left
            have f2 := HLc.out.fr
            obtain ⟨o, ho⟩ := HMc.out.run_delete (P := Try.prog) (T := 65) (K := 22) (E := 79) Try.underlying65 Try.underlying22 seq
            have hU : ∀ ty, (Builtin.delete_ #[65, 22] ty #[.map (some L.m), .int .u64 seq]).run Try.prog wc.drew = .ok (.tuple #[]) (setBlock wc.drew L.m o) := (ho wc.drew rfl).1
            have HO := Aside0.mk ho
            clear ho
            go_upto_region 9 with fail
            go_region_held3 (fun w' => w'.cell? ⟨b, 329, none⟩ = some (.map (some L.m)) ∧ w'.cell? ⟨w.heap.size, 0, none⟩ = some (.int .u64 seq)) (first
              | go_keep
              | (go_split_ands; refine ⟨?_, ?_⟩ <;> (rw [setBlock_cell (by first | exact hmb | exact (Ne.symm nm0))]; assumption))) (fail)
            have HLX := HLc.out.drew.setBlock hmb o
            have HMX := (HO.out wc.drew rfl).2
            have HCX : Chg (fun k => k = b ∨ k = L.m) w (setBlock wc.drew L.m o) := ((HCc.out.mono (fun _ _ f => f.elim)).drew).setBlock L.m o (fun _ => .inr rfl)
            have H7X := (blk_drew HC7.out).setBlock (Ne.symm e6) o
            have H4X := (blk_drew H4c.out).setBlock (Ne.symm nm1) o
            generalize hX : setBlock wc.drew L.m o = X at HLX HMX HCX H7X H4X ⊢
            have HLX' := Aside0.mk HLX
            have HMX' := Aside0.mk HMX
            have HCX' := Aside0.mk HCX
            have H7X' := Aside0.mk H7X
            have H4X' := Aside0.mk H4X
            clear hX hU HO HLX HMX HCX H7X H4X c10 d0 p0 p1 p2 fp s0 s1 fs c1 c2 f2
            have c2 := HLX'.out.c_left
            have f2 := HLX'.out.fr
            have p0 : X.cell? ⟨W.heap.size, 0, none⟩ = some (.int .i64 pn) := H7X'.out.cell rfl
            have p1 : X.cell? ⟨W.heap.size, 1, none⟩ = some (.int .u64 pg) := H7X'.out.cell rfl
            have s0 : X.cell? ⟨w.heap.size + 1, 0, none⟩ = some (.int .i64 0) := H4X'.out.cell rfl
            have s1 : X.cell? ⟨w.heap.size + 1, 1, none⟩ = some (.int .u64 0) := H4X'.out.cell rfl
            have fs := H4X'.out.frozen
            have n0s := Ne.symm n0
            have n1s := Ne.symm n1
            have e5s := Ne.symm e5
            go_wp2
            refine bodyPost_ret (v := ret3 (pn, pg, true, 0)) (by simp [results, Try.results19, go_sem, ret3, s0, s1, n1, n1s]) rfl ⟨by rw [HR2.out], ?_, ?_, ?_⟩ <;> (try rw [HR2.out])
            · exact ((HLX'.out.s_left _).other (p := ⟨w.heap.size + 1, 0, none⟩) n1 _).other (p := ⟨w.heap.size + 1, 1, none⟩) n1 _
            · exact ((HMX'.out.setCell _ _).setCell _ _).setCell _ _
            · exact (((HCX'.out.setCell _ _ (fun _ => .inl rfl)).setCell _ _ (fun h => absurd h (by simp))).setCell _ _ (fun h => absurd h (by simp)))
          | false =>
            have hr2 : retireL L M seq ep = ((0, 0, false, 0), L, mput M seq ⟨pn, pg, true⟩) := by rw [hr]; simp [htwo]
            have HR2 := Aside0.mk hr2
            clear hr hr2
            obtain ⟨o, ho⟩ := HMc.out.run_update (P := Try.prog) (T := 65) (K := 22) (E := 79) Try.underlying65 Try.underlying22 seq ⟨pn, pg, true⟩
            have hdr : (wc.setCell ⟨W.heap.size, 2, none⟩ (.bool true)).drew.heap[L.m]? = wc.heap[L.m]? := Below.heap_setCell wc ⟨W.heap.size, 2, none⟩ (.bool true) L.m (Ne.symm e6)
            have hU : (Instr.mapUpdate 65 (.map (some L.m)) (.int .u64 seq) (.agg #[.int .i64 pn, .int .u64 pg, .bool true])).run Try.prog (wc.setCell ⟨W.heap.size, 2, none⟩ (.bool true)).drew = .ok () (setBlock (wc.setCell ⟨W.heap.size, 2, none⟩ (.bool true)).drew L.m o) := (ho _ hdr).1
            have HMX := Aside0.mk (ho _ hdr).2
            clear ho hdr
            go_upto_region 13 with fail
            have tt0 : (wc.setCell ⟨W.heap.size, 2, none⟩ (.bool true)).drew.cell? ⟨W.heap.size, 0, none⟩ = some (.int .i64 pn) := by go_simp
            have tt1 : (wc.setCell ⟨W.heap.size, 2, none⟩ (.bool true)).drew.cell? ⟨W.heap.size, 1, none⟩ = some (.int .u64 pg) := by go_simp
            have tt2 : (wc.setCell ⟨W.heap.size, 2, none⟩ (.bool true)).drew.cell? ⟨W.heap.size, 2, none⟩ = some (.bool true) := by go_simp
            go_region_held3 (fun w' => w'.cell? ⟨b, 329, none⟩ = some (.map (some L.m)) ∧ w'.cell? ⟨w.heap.size, 0, none⟩ = some (.int .u64 seq) ∧ w'.cell? ⟨W.heap.size, 0, none⟩ = some (.int .i64 pn) ∧ w'.cell? ⟨W.heap.size, 1, none⟩ = some (.int .u64 pg) ∧ w'.cell? ⟨W.heap.size, 2, none⟩ = some (.bool true)) (first
              | go_keep
              | (go_split_ands; refine ⟨?_, ?_, ?_, ?_, ?_⟩ <;> (rw [setBlock_cell (by first | exact hmb | exact (Ne.symm nm0) | exact (Ne.symm e6))]; assumption))) (fail)
            have HLX := (HLc.out.other (p := ⟨W.heap.size, 2, none⟩) e5 (.bool true)).drew.setBlock hmb o
            have HCX : Chg (fun k => k = b ∨ k = L.m) w (setBlock (wc.setCell ⟨W.heap.size, 2, none⟩ (.bool true)).drew L.m o) := (((HCc.out.mono (fun _ _ f => f.elim)).setCell ⟨W.heap.size, 2, none⟩ (.bool true) (fun h => absurd h (by simp; omega))).drew).setBlock L.m o (fun _ => .inr rfl)
            have H4X := (blk_drew (H4c.out.other (p := ⟨W.heap.size, 2, none⟩) e8 (.bool true))).setBlock (Ne.symm nm1) o
            have HMX1 := HMX.out
            clear HMX
            generalize hX : setBlock (wc.setCell ⟨W.heap.size, 2, none⟩ (.bool true)).drew L.m o = X at HLX HMX1 HCX H4X ⊢
            have HLX' := Aside0.mk HLX
            have HMX' := Aside0.mk HMX1
            have HCX' := Aside0.mk HCX
            have H4X' := Aside0.mk H4X
            clear hX hU HLX HMX1 HCX H4X c10 d0 p0 p1 p2 fp s0 s1 fs c1 tt0 tt1 tt2
            have s0 : X.cell? ⟨w.heap.size + 1, 0, none⟩ = some (.int .i64 0) := H4X'.out.cell rfl
            have s1 : X.cell? ⟨w.heap.size + 1, 1, none⟩ = some (.int .u64 0) := H4X'.out.cell rfl
            have fs := H4X'.out.frozen
            go_wp2
            refine bodyPost_ret (v := ret3 (0, 0, false, 0)) (by simp [results, Try.results19, go_sem, ret3, s0, s1]) rfl ⟨by rw [HR2.out], ?_, ?_, ?_⟩ <;> (try rw [HR2.out])
            · exact ((HLX'.out.other (p := ⟨w.heap.size + 1, 0, none⟩) n1 _).other (p := ⟨w.heap.size + 1, 1, none⟩) n1 _)
            · exact (HMX'.out.setCell _ _).setCell _ _
            · exact ((HCX'.out.setCell _ _ (fun h => absurd h (by simp))).setCell _ _ (fun h => absurd h (by simp)))
  · have hepb : (ep != L.epoch) = true := by simpa using hep
    have hres : retireL L M seq ep = ((0, 0, false, 0), L, M) := by unfold retireL; rw [if_pos hep]
    rw [hres]
    clear hres hep
    go_enter Try.func19, Try.ntmps19
    go_wp2_with (first | (go_at_call 34; refine (HIS.out _ ?side).mono ?_; (case side => exact (by repeat (first | with_reducible exact HL.out | apply IsLane.alloc | apply IsLane.drewN | apply IsLane.drew))); rintro e_ w' ⟨rfl, rfl⟩))
    go_quiet (fail)
    go_wp2
    refine bodyPost_ret (v := ret3 (0, 0, false, 0)) (by simp [results, Try.results19, go_sem, ret3]) rfl ⟨rfl, (by repeat (first | with_reducible exact HL.out | refine IsLane.other ?_ (by first | assumption | (simp; omega)) _ | apply IsLane.alloc | apply IsLane.drewN | apply IsLane.drew)), (by repeat (first | with_reducible exact HM.out | apply MapIs.setCell | apply MapIs.alloc | apply MapIs.drewN | apply MapIs.drew)), (by repeat (first | with_reducible exact Chg.refl _ _ | refine Chg.setCell ?_ _ _ (fun h_ => absurd h_ (by first | (simp; done) | (simp; omega))) | apply Chg.drewN | apply Chg.drew | apply Chg.alloc))⟩
end Go.Proofs.Ytekjhfhlbkcklaa.L

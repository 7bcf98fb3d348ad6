/-
  LaneOneWay, walked.
-/
import Derived.Test.YtekjhfhlbkcklaaNa
import Derived.Test.YtekjhfhlbkcklaaLM
import Derived.Test.YtekjhfhlbkcklaaLp
set_option linter.unusedVariables false
set_option linter.unusedSimpArgs false
namespace Go.Proofs.Ytekjhfhlbkcklaa.L
open Go.RowKit Go.Proofs.Ytekjhfhlbkcklaa.K Go.Proofs.Ytekjhfhlbkcklaa.PA Go.Proofs.YtekjhfhlbkcklaaW.PrintWords
attribute [local go_sem ↓] Go.wp_at_zero Go.wp_at_succ

/-- A call among the law's. -/
def zOp : OpT := (0, (0, 0), (0, 0), (0, 0))
theorem op_at {w : World} {A : Option Addr} {xs : List OpT} {k : Nat} (h : Kd.C kOp w A xs.length xs) (hk : k < xs.length) : ∃ (ad : Addr) (o : OpT), A = some ad ∧ xs[k]? = some o ∧
    w.cell? (ad.add (k * 7)) = some (.int .i64 o.1) ∧ w.cell? ⟨(ad.add (k * 7)).block, (ad.add (k * 7)).off + 1, none⟩ = some (.int .u64 o.2.1.1) ∧ w.cell? ⟨(ad.add (k * 7)).block, (ad.add (k * 7)).off + 2, none⟩ = some (.int .u64 o.2.1.2) ∧
    w.cell? ⟨(ad.add (k * 7)).block, (ad.add (k * 7)).off + 3, none⟩ = some (.int .i64 o.2.2.1.1) ∧ w.cell? ⟨(ad.add (k * 7)).block, (ad.add (k * 7)).off + 4, none⟩ = some (.int .u64 o.2.2.1.2) ∧
    w.cell? ⟨(ad.add (k * 7)).block, (ad.add (k * 7)).off + 5, none⟩ = some (.int .i64 o.2.2.2.1) ∧ w.cell? ⟨(ad.add (k * 7)).block, (ad.add (k * 7)).off + 6, none⟩ = some (.int .i64 o.2.2.2.2) := by
  obtain ⟨ad, c, e, _, hK, hc0⟩ := Kd.C_get h zOp (k : Int) (by omega) (by omega)
  rw [Int.toNat_natCast] at hK hc0
  have hsz : kOp.sz = 7 := rfl
  rw [hsz] at hc0
  have ho : xs[k]? = some (xs.getD k zOp) := by rw [List.getD_eq_getElem?_getD, List.getElem?_eq_getElem hk]; rfl
  generalize xs.getD k zOp = o at hK ho
  obtain rfl := kOp_open hK
  refine ⟨ad, o, e, ho, hc0 0 _ rfl, ?_, ?_, ?_, ?_, ?_, ?_⟩ <;> rw [← add_field _ _ _ (by omega)]
  · exact hc0 1 _ rfl
  · exact hc0 2 _ rfl
  · exact hc0 3 _ rfl
  · exact hc0 4 _ rfl
  · exact hc0 5 _ rfl
  · exact hc0 6 _ rfl
theorem fld_left (a b c d e f : Value) (W : World) : (Instr.field 42 (.agg #[a, b, c, d, e, f]) 0).run Try.prog W = .ok a W := by
  simp [Instr.field, run_underlying Try.underlying42, asAgg, part, Try.sizeOf3, Try.isAgg3]
/-- Two lanes in memory, apart. -/
structure Duo (s : Int) (w : World) (ba ma : Nat) (A : AL) (bb mb : Nat) (B : AL) : Prop where
  la : LS s w ba ma A
  lb : LS s w bb mb B
  n1 : bb ≠ ba
  n2 : bb ≠ ma
  n3 : mb ≠ ba
  n4 : mb ≠ ma
abbrev In4 (ba ma bb mb : Nat) (k : Nat) : Prop := (k = ba ∨ k = ma) ∨ (k = bb ∨ k = mb)
namespace Duo
variable {s : Int} {w w1 : World} {ba ma bb mb : Nat} {A B A' B' : AL}
theorem below (h : Duo s w ba ma A bb mb B) (hb : Below w.heap.size w w1) : Duo s w1 ba ma A bb mb B := ⟨h.la.below hb, h.lb.below hb, h.n1, h.n2, h.n3, h.n4⟩
theorem alloc (h : Duo s w ba ma A bb mb B) (o : Obj) : Duo s (w.alloc o) ba ma A bb mb B := h.below (below_alloc (Below.refl _ _) o)
theorem drewN (h : Duo s w ba ma A bb mb B) (n : Nat) : Duo s (w.drewN n) ba ma A bb mb B := h.below (pw_below_drewN (Below.refl _ _) n)
theorem drew (h : Duo s w ba ma A bb mb B) : Duo s w.drew ba ma A bb mb B := h.below (below_drew (Below.refl _ _))
theorem turnA (h : Duo s w ba ma A bb mb B) (hs : LS s w1 ba ma A') (hc : TwoB ba ma w w1) : Duo s w1 ba ma A' bb mb B := ⟨hs, h.lb.chg hc (not_two h.n1 h.n2) (not_two h.n3 h.n4), h.n1, h.n2, h.n3, h.n4⟩
theorem turnB (h : Duo s w ba ma A bb mb B) (hs : LS s w1 bb mb B') (hc : TwoB bb mb w w1) : Duo s w1 ba ma A bb mb B' := ⟨h.la.chg hc (not_two h.n1.symm h.n3.symm) (not_two h.n2.symm h.n4.symm), hs, h.n1, h.n2, h.n3, h.n4⟩
theorem other (h : Duo s w ba ma A bb mb B) {p : Addr} (hp : ¬ In4 ba ma bb mb p.block) (v : Value) : Duo s (w.setCell p v) ba ma A bb mb B :=
  ⟨h.la.other (fun e => hp (.inl (.inl e))) (fun e => hp (.inl (.inr e))) v, h.lb.other (fun e => hp (.inr (.inl e))) (fun e => hp (.inr (.inr e))) v, h.n1, h.n2, h.n3, h.n4⟩
end Duo
theorem chgA {ba ma bb mb : Nat} {w w1 : World} (h : TwoB ba ma w w1) : Chg (In4 ba ma bb mb) w w1 := h.mono fun _ _ e => .inl e
theorem chgB {ba ma bb mb : Nat} {w w1 : World} (h : TwoB bb mb w w1) : Chg (In4 ba ma bb mb) w w1 := h.mono fun _ _ e => .inr e
theorem Chg.of_drew {S : Nat → Prop} {w w1 : World} (h : Chg S w.drew w1) : Chg S w w1 := ⟨h.os, h.tape, h.output, h.size, h.block⟩
theorem Chg.of_drewN {S : Nat → Prop} {w w1 : World} {n : Nat} (h : Chg S (w.drewN n) w1) : Chg S w w1 := ⟨h.os, h.tape, h.output, h.size, h.block⟩
theorem below_of_drew {B : Nat} {w w1 : World} (h : Below B w.drew w1) : Below B w w1 := ⟨h.os, h.tape, h.output, h.size, h.block⟩
theorem below_of_drewN {B : Nat} {w w1 : World} {n : Nat} (h : Below B (w.drewN n) w1) : Below B w w1 := ⟨h.os, h.tape, h.output, h.size, h.block⟩
theorem below_chg {w W W' : World} {S : Nat → Prop} (h : Below w.heap.size w W) (hc : Chg S W W') (hS : ∀ k, S k → w.heap.size ≤ k) : Below w.heap.size w W' :=
  ⟨hc.os.trans h.os, hc.tape.trans h.tape, hc.output.trans h.output, Nat.le_trans h.size hc.size, fun k hk => (hc.block k (Nat.lt_of_lt_of_le hk h.size) (fun e => by have := hS k e; omega)).trans (h.block k hk)⟩
set_option maxHeartbeats 4000000 in
set_option maxRecDepth 100000 in
theorem oneWay_calls (w : World) (cr s : Int) (hcr0 : 0 ≤ cr) (hcr1 : cr ≤ 255) (s0 : 0 ≤ s) (s1 : s < 18446744073709551616) (A0 : Option Addr) (cap : Nat) (xs : List OpT) (hxs : Kd.C kOp w A0 xs.length xs) (hok : ∀ o ∈ xs, okOp o) :
    Calls Try.prog 6 #[.int .u8 cr, .int .u64 s, .slice A0 xs.length cap] w fun e_ w' => e_ = .returned (.bool true) ∧ Below w.heap.size w w' := by
  obtain ⟨n, hn⟩ : ∃ n : Nat, cr % 64 + 1 = n := ⟨(cr % 64 + 1).toNat, by omega⟩
  have hn1 : 1 ≤ n := by omega
  have hn2 : n ≤ 64 := by omega
  have hu := Try.underlying34
  have hu2 := Try.underlying36
  have hu3 := Try.underlying38
  have hu4 := Try.underlying42
  have hu5 := Try.underlying40
  have HX := Aside0.mk hxs
  have HOK := Aside0.mk hok
  have HS := Aside0.mk (And.intro s0 s1)
  clear hxs hok s0 s1
  go_enter Try.func6, Try.ntmps6
  go_upto_region 5 with (first
    | (go_at_call 9; refine (awake_calls _).mono ?_; rintro e_ w0 ⟨rfl, hb0⟩; have HB0 := Aside0.mk hb0; clear hb0)
    | (go_at_call 10; refine (new_ls _ n false s hn1 hn2 HS.out.1 HS.out.2).mono ?_; rintro e_ w1 ⟨ba, ma, rfl, h1, h2, h3, h4⟩; have L1 := Aside0.mk h1; have N1 := Aside0.mk (And.intro h2 h3); have HB1 := Aside0.mk h4; clear h1 h2 h3 h4))
  go_upto_region 6 with (first
    | (go_at_call 10; refine (new_ls _ n false s hn1 hn2 HS.out.1 HS.out.2).mono ?_; rintro e_ w2 ⟨bb, mb, rfl, h1, h2, h3, h4⟩; have L2 := Aside0.mk h1; have N2 := Aside0.mk (And.intro h2 h3); have HB2 := Aside0.mk h4; clear h1 h2 h3 h4))
  have HD2 : Aside0 (Duo s w2 ba ma ⟨n, false, 0, 0, 0, 0, 0, [], []⟩ bb mb ⟨n, false, 0, 0, 0, 0, 0, [], []⟩) := by
    have h1 := L1.out.lt; have h2 := L1.out.mlt; have h3 := N2.out
    exact ⟨L1.out.below HB2.out, L2.out, by omega, by omega, by omega, by omega⟩
  have HBw := Aside0.mk (below_then (below_then HB0.out HB0.out.size HB1.out) (by have := HB0.out.size; have := HB1.out.size; omega) HB2.out)
  have HN : Aside0 (∀ k, In4 ba ma bb mb k → w.heap.size ≤ k) := by
    refine ⟨fun k hk => ?_⟩
    have h1 := N1.out; have h2 := N2.out; have h3 := HB0.out.size; have h4 := HB1.out.size
    rcases hk with (e | e) | (e | e) <;> omega
  have HT : Aside0 (Tw (⟨n, false, 0, 0, 0, 0, 0, [], []⟩ : AL) ⟨n, false, 0, 0, 0, 0, 0, [], []⟩) := ⟨⟨rfl, rfl, rfl, rfl, rfl, rfl, rfl, rfl⟩⟩
  clear L1 L2 N1 N2 HB0 HB1 HB2 hn hn1 hn2 hcr0 hcr1
  go_wp2
  go_loopw [12] (fun v12 wr => ∃ (k : Nat) (A B : AL), v12 = .int .i64 k ∧ k ≤ 60 ∧ k ≤ xs.length ∧ A.t ≤ k ∧ Aside0 (Duo s wr ba ma A bb mb B) ∧ Aside0 (Tw A B) ∧ Aside0 (Below w.heap.size w wr)) (fun v12 _ => 60 - (intOf v12).toNat)
  case atStart => exact ⟨0, _, _, rfl, Nat.zero_le _, Nat.zero_le _, Nat.le_refl _, HD2, HT, HBw⟩
  case round =>
    obtain ⟨k, A, B, rfl, hk60, hkx, hkt, HD, HTw, HB⟩ := hrel
    by_cases h60 : k < 60
    · by_cases hlt : k < xs.length
      · obtain ⟨ad, o, hA0, hxk, c0, c1, c2, c3, c4, c5, c6⟩ := op_at (Kd.C_below HX.out HB.out) hlt
        subst hA0
        have hoo := HOK.out o (List.mem_of_getElem? hxk)
        obtain ⟨ok, ⟨tq, te⟩, ⟨sn, sg⟩, ⟨at1, at2⟩⟩ := o
        dsimp only at c0 c1 c2 c3 c4 c5 c6
        have HO := Aside0.mk hoo
        have HTQ := Aside0.mk (show 0 ≤ tq ∧ tq < 18446744073709551616 by have h_ : 0 ≤ tq ∧ tq ≤ 18446744073709551615 := bounds_u64 hoo.2.1.1; omega)
        clear hxk hoo
        go_upto_region 12 with fail
        have BG := blk_new wr (opCells (ok, (tq, te), (sn, sg), (at1, at2))) 40
        have HDx := HD.out.alloc (.cells (opCells (ok, (tq, te), (sn, sg), (at1, at2))).toArray 40)
        have HBx := HB.out.alloc HB.out.size (.cells (opCells (ok, (tq, te), (sn, sg), (at1, at2))).toArray 40)
        have hgx : (wr.alloc (.cells (opCells (ok, (tq, te), (sn, sg), (at1, at2))).toArray 40)).heap.size = wr.heap.size + 1 := by simp
        have HGN : Aside0 (¬ In4 ba ma bb mb wr.heap.size) := by
          have h1 := HD.out.la.lt; have h2 := HD.out.la.mlt; have h3 := HD.out.lb.lt; have h4 := HD.out.lb.mlt
          exact ⟨by rintro ((e | e) | (e | e)) <;> omega⟩
        change Code.wp _ _ _ _ (wr.alloc (.cells (opCells (ok, (tq, te), (sn, sg), (at1, at2))).toArray 40))
        generalize hW : wr.alloc (.cells (opCells (ok, (tq, te), (sn, sg), (at1, at2))).toArray 40) = W at BG HDx HBx hgx ⊢
        have hgW : wr.heap.size < W.heap.size := by omega
        have HDW := Aside0.mk HDx
        have HBW := Aside0.mk HBx
        have HGW := Aside0.mk BG
        have hw := HD.out
        have HWA := Aside0.mk hw.la.wf
        have HWB := Aside0.mk hw.lb.wf
        clear c0 c1 c2 c3 c4 c5 c6 hW HDx HBx hgx BG hw HD HB
        have c0 : W.cell? ⟨wr.heap.size, 0, none⟩ = some (.int .i64 ok) := HGW.out.cell rfl
        by_cases k1 : ok = 1
        · subst k1
          have hcl := tw_claim HWA.out HWB.out HTw.out
          obtain ⟨⟨x1, x2, x3⟩, hx⟩ : ∃ x, (claimA s A).1 = x := ⟨_, rfl⟩
          have hca := fun W h => claim_ls s W ba ma A h (by omega)
          have hcb := fun W h => claim_ls s W bb mb B h (by have := HTw.out.t; omega)
          rw [← hcl.1] at hcb
          rw [hx] at hca hcb
          dsimp only at hca hcb
          have HCA := Aside0.mk hca
          have HCB := Aside0.mk hcb
          have HTn := Aside0.mk hcl.2
          clear hca hcb hcl hx
          go_wp2_with (first
            | (go_at_call 15; (with_reducible refine (HCA.out _ ?side).mono ?_); (case side => exact HDW.out.la); rintro e_ w3 ⟨rfl, hs, hc0⟩; have hc : TwoB ba ma W w3 := (by first | exact hc0 | exact Chg.of_drew hc0 | exact Chg.of_drewN hc0); clear hc0; have HD3 := Aside0.mk (HDW.out.turnA hs hc); have HB3 := Aside0.mk (below_chg HBW.out (chgA hc) HN.out); clear hs hc)
            | (go_at_call 15; (with_reducible refine (HCB.out _ ?side).mono ?_); (case side => exact (HD3.out.alloc _).lb); rintro e_ w4 ⟨rfl, hs, hc⟩; have HD4 := Aside0.mk ((HD3.out.alloc _).turnB hs hc); have HB4 := Aside0.mk (below_chg (HB3.out.alloc HB3.out.size _) (chgB hc) HN.out); have hz4 := hc.size; simp only [World.size_alloc] at hz4;
               have t0 : w4.cell? ⟨w3.heap.size, 0, none⟩ = some (.int .u64 x1) := hc.cell (by go_simp) (not_two (by have := HD3.out.lb.lt; simp; omega) (by have := HD3.out.lb.mlt; simp; omega)); have t1 : w4.cell? ⟨w3.heap.size, 1, none⟩ = some (.int .u64 x2) := hc.cell (by go_simp) (not_two (by have := HD3.out.lb.lt; simp; omega) (by have := HD3.out.lb.mlt; simp; omega)); have t2 : w3.heap.size ≠ w4.heap.size := (by omega); have t3 : w3.heap.size < w4.heap.size := (by omega); clear hs hc))
          go_roundw
          case rel => exact ⟨k + 1, (claimA s A).2, (claimA s B).2, by go_num, by omega, by omega, by have := claim_t s A; omega, ⟨HD4.out.alloc _⟩, HTn, ⟨HB4.out.alloc HB4.out.size _⟩⟩
          case measure => simp [intOf]; omega
        · by_cases k2 : ok = 2
          · subst k2
            have c1 : W.cell? ⟨wr.heap.size, 1, none⟩ = some (.int .u64 tq) := HGW.out.cell rfl
            have c2 : W.cell? ⟨wr.heap.size, 2, none⟩ = some (.int .u64 te) := HGW.out.cell rfl
            have c3 : W.cell? ⟨wr.heap.size, 3, none⟩ = some (.int .i64 sn) := HGW.out.cell rfl
            have c4 : W.cell? ⟨wr.heap.size, 4, none⟩ = some (.int .u64 sg) := HGW.out.cell rfl
            have htw := tw_lay (s := s) HTw.out tq te sn sg
            obtain ⟨x, hx⟩ : ∃ x, (layA s A tq te sn sg).2 = x := ⟨_, rfl⟩
            have hca := fun W h => lay_ls s W ba ma A h tq te sn sg HTQ.out.1 HTQ.out.2
            have hcb := fun W h => lay_ls s W bb mb B h tq te sn sg HTQ.out.1 HTQ.out.2
            rw [← htw.1] at hcb
            rw [hx] at hca hcb
            have HCA := Aside0.mk hca
            have HCB := Aside0.mk hcb
            have HTn := Aside0.mk htw.2
            clear hca hcb htw hx
            go_wp2
            go_region_held3 (fun w' => w'.cell? ⟨wr.heap.size, 1, none⟩ = some (.int .u64 tq) ∧ w'.cell? ⟨wr.heap.size, 2, none⟩ = some (.int .u64 te) ∧ w'.cell? ⟨wr.heap.size, 3, none⟩ = some (.int .i64 sn) ∧ w'.cell? ⟨wr.heap.size, 4, none⟩ = some (.int .u64 sg))
              (first
              | exact ⟨c1, c2, c3, c4⟩
              | exact ⟨HQ3.out.cell rfl, HQ3.out.cell rfl, HQ3.out.cell rfl, HQ3.out.cell rfl⟩
              | exact ⟨HQ4.out.cell rfl, HQ4.out.cell rfl, HQ4.out.cell rfl, HQ4.out.cell rfl⟩)
              (first
                | (go_at_call 16; (with_reducible refine (HCB.out _ ?side).mono ?_); (case side => exact (by repeat (first | with_reducible exact HD3.out.lb | apply LS.drewN | apply LS.drew | apply LS.alloc))); rintro e_ w4 ⟨rfl, hs, hc0⟩; have hc : TwoB bb mb w3 w4 := (by first | exact hc0 | exact Chg.of_drew hc0 | exact Chg.of_drewN hc0); clear hc0; have HD4 := Aside0.mk (HD3.out.turnB hs hc); have HB4 := Aside0.mk (below_chg HB3.out (chgB hc) HN.out); have HQ4 := Aside0.mk (HQ3.out.chg (chgB (ba := ba) (ma := ma) hc) HGN.out); clear hs hc)
                | (go_at_call 16; (with_reducible refine (HCA.out _ ?side).mono ?_); (case side => exact (by repeat (first | with_reducible exact HDW.out.la | apply LS.drewN | apply LS.drew | apply LS.alloc))); rintro e_ w3 ⟨rfl, hs, hc0⟩; have hc : TwoB ba ma W w3 := (by first | exact hc0 | exact Chg.of_drew hc0 | exact Chg.of_drewN hc0); clear hc0; have HD3 := Aside0.mk (HDW.out.turnA hs hc); have HB3 := Aside0.mk (below_chg HBW.out (chgA hc) HN.out); have HQ3 := Aside0.mk (HGW.out.chg (chgA (bb := bb) (mb := mb) hc) HGN.out); clear hs hc))
            go_wp2
            go_roundw
            case rel => exact ⟨k + 1, (layA s A tq te sn sg).1, (layA s B tq te sn sg).1, by go_num, by omega, by omega, by rw [lay_t]; omega, ⟨HD4.out⟩, HTn, ⟨HB4.out⟩⟩
            case measure => simp [intOf]; omega
          · by_cases k4 : ok = 4
            · subst k4
              have c1 : W.cell? ⟨wr.heap.size, 1, none⟩ = some (.int .u64 tq) := HGW.out.cell rfl
              have c2 : W.cell? ⟨wr.heap.size, 2, none⟩ = some (.int .u64 te) := HGW.out.cell rfl
              have c5 : W.cell? ⟨wr.heap.size, 5, none⟩ = some (.int .i64 at1) := HGW.out.cell rfl
              have c6 : W.cell? ⟨wr.heap.size, 6, none⟩ = some (.int .i64 at2) := HGW.out.cell rfl
              have htw := tw_pub HWA.out HWB.out HTw.out tq te at1 at2
              obtain ⟨x, hx⟩ : ∃ x, (pubA s A tq te at1 at2).2 = x := ⟨_, rfl⟩
              have hca := fun W h => publish_ls s W ba ma A h tq te at1 at2 HTQ.out.1 HTQ.out.2
              have hcb := fun W h => publish_ls s W bb mb B h tq te at1 at2 HTQ.out.1 HTQ.out.2
              rw [← htw.1] at hcb
              rw [hx] at hca hcb
              have HCA := Aside0.mk hca
              have HCB := Aside0.mk hcb
              have HTn := Aside0.mk htw.2
              clear hca hcb htw hx
              go_wp2
              go_region_held3 (fun w' => w'.cell? ⟨wr.heap.size, 1, none⟩ = some (.int .u64 tq) ∧ w'.cell? ⟨wr.heap.size, 2, none⟩ = some (.int .u64 te) ∧ w'.cell? ⟨wr.heap.size, 5, none⟩ = some (.int .i64 at1) ∧ w'.cell? ⟨wr.heap.size, 6, none⟩ = some (.int .i64 at2))
                (first
                | exact ⟨c1, c2, c5, c6⟩
                | exact ⟨HQ3.out.cell rfl, HQ3.out.cell rfl, HQ3.out.cell rfl, HQ3.out.cell rfl⟩
                | exact ⟨HQ4.out.cell rfl, HQ4.out.cell rfl, HQ4.out.cell rfl, HQ4.out.cell rfl⟩)
                (first
                  | (go_at_call 20; (with_reducible refine (HCB.out _ ?side).mono ?_); (case side => exact (by repeat (first | with_reducible exact HD3.out.lb | apply LS.drewN | apply LS.drew | apply LS.alloc))); rintro e_ w4 ⟨rfl, hs, hc0⟩; have hc : TwoB bb mb w3 w4 := (by first | exact hc0 | exact Chg.of_drew hc0 | exact Chg.of_drewN hc0); clear hc0; have HD4 := Aside0.mk (HD3.out.turnB hs hc); have HB4 := Aside0.mk (below_chg HB3.out (chgB hc) HN.out); have HQ4 := Aside0.mk (HQ3.out.chg (chgB (ba := ba) (ma := ma) hc) HGN.out); clear hs hc)
                  | (go_at_call 20; (with_reducible refine (HCA.out _ ?side).mono ?_); (case side => exact (by repeat (first | with_reducible exact HDW.out.la | apply LS.drewN | apply LS.drew | apply LS.alloc))); rintro e_ w3 ⟨rfl, hs, hc0⟩; have hc : TwoB ba ma W w3 := (by first | exact hc0 | exact Chg.of_drew hc0 | exact Chg.of_drewN hc0); clear hc0; have HD3 := Aside0.mk (HDW.out.turnA hs hc); have HB3 := Aside0.mk (below_chg HBW.out (chgA hc) HN.out); have HQ3 := Aside0.mk (HGW.out.chg (chgA (bb := bb) (mb := mb) hc) HGN.out); clear hs hc))
              go_wp2
              go_roundw
              case rel => exact ⟨k + 1, (pubA s A tq te at1 at2).1, (pubA s B tq te at1 at2).1, by go_num, by omega, by omega, by rw [pub_t]; omega, ⟨HD4.out⟩, HTn, ⟨HB4.out⟩⟩
              case measure => simp [intOf]; omega
            · by_cases k6 : ok = 6
              · subst k6
                have HCA := Aside0.mk (fun W h => take_ls s W ba ma A h)
                have HTn := Aside0.mk (tw_take HWA.out HTw.out)
                go_wp2_with (first
                  | (go_at_call 17; (with_reducible refine (HCA.out _ ?side).mono ?_); (case side => exact (by repeat (first | with_reducible exact HDW.out.la | apply LS.drewN | apply LS.drew | apply LS.alloc))); rintro e_ w3 ⟨rfl, hs, hc0⟩; have hc : TwoB ba ma W w3 := (by first | exact hc0 | exact Chg.of_drew hc0 | exact Chg.of_drewN hc0); clear hc0; have HD3 := Aside0.mk (HDW.out.turnA hs hc); have HB3 := Aside0.mk (below_chg HBW.out (chgA hc) HN.out); have HQ3 := Aside0.mk (HGW.out.chg (chgA (bb := bb) (mb := mb) hc) HGN.out); clear hs hc))
                go_roundw
                case rel => exact ⟨k + 1, (takeA s A).2, B, by go_num, by omega, by omega, by rw [take_t]; omega, ⟨HD3.out⟩, HTn, ⟨HB3.out⟩⟩
                case measure => simp [intOf]; omega
              · by_cases k7 : ok = 7
                · subst k7
                  have c1 : W.cell? ⟨wr.heap.size, 1, none⟩ = some (.int .u64 tq) := HGW.out.cell rfl
                  have c2 : W.cell? ⟨wr.heap.size, 2, none⟩ = some (.int .u64 te) := HGW.out.cell rfl
                  have HCA := Aside0.mk (fun W h => retire_ls s W ba ma A h tq te)
                  have HTn := Aside0.mk (tw_retire (s := s) HTw.out tq te)
                  go_wp2_with (first
                    | (go_at_call 19; (with_reducible refine (HCA.out _ ?side).mono ?_); (case side => exact (by repeat (first | with_reducible exact HDW.out.la | apply LS.drewN | apply LS.drew | apply LS.alloc))); rintro e_ w3 ⟨rfl, hs, hc0⟩; have hc : TwoB ba ma W w3 := (by first | exact hc0 | exact Chg.of_drew hc0 | exact Chg.of_drewN hc0); clear hc0; have HD3 := Aside0.mk (HDW.out.turnA hs hc); have HB3 := Aside0.mk (below_chg HBW.out (chgA hc) HN.out); have HQ3 := Aside0.mk (HGW.out.chg (chgA (bb := bb) (mb := mb) hc) HGN.out); clear hs hc))
                  go_roundw
                  case rel => exact ⟨k + 1, (retireA s A tq te).2, B, by go_num, by omega, by omega, by rw [retire_t]; omega, ⟨HD3.out⟩, HTn, ⟨HB3.out⟩⟩
                  case measure => simp [intOf]; omega
                · by_cases k8 : ok = 8
                  · subst k8
                    have htw := tw_reset HTw.out
                    obtain ⟨x, hx⟩ : ∃ x, resetE A = x := ⟨_, rfl⟩
                    have hca := fun W h => reset_ls s W ba ma A h
                    have hcb := fun W h => reset_ls s W bb mb B h
                    rw [← htw.1] at hcb
                    rw [hx] at hca hcb
                    have HCA := Aside0.mk hca
                    have HCB := Aside0.mk hcb
                    have HTn := Aside0.mk htw.2
                    clear hca hcb htw hx
                    go_wp2_with (first
                      | (go_at_call 18; (with_reducible refine (HCA.out _ ?side).mono ?_); (case side => exact (by repeat (first | with_reducible exact HDW.out.la | apply LS.drewN | apply LS.drew | apply LS.alloc))); rintro e_ w3 ⟨aA, nA, rfl, hs, hc⟩; have HD3 := Aside0.mk (HDW.out.turnA hs hc); have HB3 := Aside0.mk (below_chg HBW.out (chgA hc) HN.out); have HQ3 := Aside0.mk (HGW.out.chg (chgA (bb := bb) (mb := mb) hc) HGN.out); clear hs hc)
                      | (go_at_call 18; (with_reducible refine (HCB.out _ ?side).mono ?_); (case side => exact (by repeat (first | with_reducible exact HD3.out.lb | apply LS.drewN | apply LS.drew | apply LS.alloc))); rintro e_ w4 ⟨aB, nB, rfl, hs, hc⟩; have HD4 := Aside0.mk (HD3.out.turnB hs hc); have HB4 := Aside0.mk (below_chg HB3.out (chgB hc) HN.out); have HQ4 := Aside0.mk (HQ3.out.chg (chgB (ba := ba) (ma := ma) hc) HGN.out); clear hs hc))
                    go_roundw
                    case rel => exact ⟨k + 1, resetS A, resetS B, by go_num, by omega, by omega, by rw [reset_t]; omega, ⟨HD4.out⟩, HTn, ⟨HB4.out⟩⟩
                    case measure => simp [intOf]; omega
                  · skip
                    have c1 : W.cell? ⟨wr.heap.size, 1, none⟩ = some (.int .u64 tq) := HGW.out.cell rfl
                    have c2 : W.cell? ⟨wr.heap.size, 2, none⟩ = some (.int .u64 te) := HGW.out.cell rfl
                    have htw := tw_ready (s := s) HTw.out tq te
                    obtain ⟨x, hx⟩ : ∃ x, readyA s A tq te = x := ⟨_, rfl⟩
                    have hca := fun W h => ready_ls s W ba ma A h tq te HTQ.out.1 HTQ.out.2
                    have hcb := fun W h => ready_ls s W bb mb B h tq te HTQ.out.1 HTQ.out.2
                    rw [← htw] at hcb
                    rw [hx] at hca hcb
                    have HCA := Aside0.mk hca
                    have HCB := Aside0.mk hcb
                    clear hca hcb htw hx
                    go_wp2
                    go_region_held3 (fun w' => w'.cell? ⟨wr.heap.size, 1, none⟩ = some (.int .u64 tq) ∧ w'.cell? ⟨wr.heap.size, 2, none⟩ = some (.int .u64 te))
                      (first
                      | exact ⟨c1, c2⟩
                      | exact ⟨HQ3.out.cell rfl, HQ3.out.cell rfl⟩
                      | exact ⟨HQ4.out.cell rfl, HQ4.out.cell rfl⟩)
                      (first
                        | (go_at_call 21; (with_reducible refine (HCB.out _ ?side).mono ?_); (case side => exact (by repeat (first | with_reducible exact HD3.out.lb | apply LS.drewN | apply LS.drew | apply LS.alloc))); rintro e_ w4 ⟨rfl, hs, hb0⟩; have hb : Below w3.heap.size w3 w4 := (by first | exact hb0 | exact below_of_drew hb0 | exact below_of_drewN hb0); clear hb0; have HD4 := Aside0.mk (HD3.out.below hb); have HB4 := Aside0.mk (below_step HB3.out hb); have HQ4 := Aside0.mk (HQ3.out.chg (Chg.below hb (fun _ => False)) (fun f => f)); clear hs hb)
                        | (go_at_call 21; (with_reducible refine (HCA.out _ ?side).mono ?_); (case side => exact (by repeat (first | with_reducible exact HDW.out.la | apply LS.drewN | apply LS.drew | apply LS.alloc))); rintro e_ w3 ⟨rfl, hs, hb0⟩; have hb : Below W.heap.size W w3 := (by first | exact hb0 | exact below_of_drew hb0 | exact below_of_drewN hb0); clear hb0; have HD3 := Aside0.mk (HDW.out.below hb); have HB3 := Aside0.mk (below_step HBW.out hb); have HQ3 := Aside0.mk (HGW.out.chg (Chg.below hb (fun _ => False)) (fun f => f)); clear hs hb))
                    go_wp2
                    go_roundw
                    case rel => exact ⟨k + 1, A, B, by go_num, by omega, by omega, by omega, ⟨HD4.out⟩, HTw, ⟨HB4.out⟩⟩
                    case measure => simp [intOf]; omega
      · have hsa := fun W h => state_ls s W ba ma A h
        have hsb := fun W h => state_ls s W bb mb B h
        unfold stateA at hsa hsb
        rw [← HTw.out.c, ← HTw.out.sum] at hsb
        have HCA := Aside0.mk hsa
        have HCB := Aside0.mk hsb
        clear hsa hsb
        have hfl := fun a b c d e f W => fld_left a b c d e f W
        go_wp2_with (first
          | (go_at_call 13; (with_reducible refine (HCA.out _ ?side).mono ?_); (case side => exact HD.out.la); rintro e_ w3 ⟨rfl, hs, hb⟩; have HD3 := Aside0.mk (HD.out.below hb); have HB3 := Aside0.mk (below_step HB.out hb); clear hs hb)
          | (go_at_call 13; (with_reducible refine (HCB.out _ ?side).mono ?_); (case side => exact HD3.out.lb); rintro e_ w4 ⟨rfl, hs, hb⟩; have HB4 := Aside0.mk (below_step HB3.out hb); clear hs hb))
        go_ret
        exact ⟨rfl, HB4.out⟩
    · by_cases hlt : k < xs.length
      · have hsa := fun W h => state_ls s W ba ma A h
        have hsb := fun W h => state_ls s W bb mb B h
        unfold stateA at hsa hsb
        rw [← HTw.out.c, ← HTw.out.sum] at hsb
        have HCA := Aside0.mk hsa
        have HCB := Aside0.mk hsb
        clear hsa hsb
        have hfl := fun a b c d e f W => fld_left a b c d e f W
        go_wp2_with (first
          | (go_at_call 13; (with_reducible refine (HCA.out _ ?side).mono ?_); (case side => exact HD.out.la); rintro e_ w3 ⟨rfl, hs, hb⟩; have HD3 := Aside0.mk (HD.out.below hb); have HB3 := Aside0.mk (below_step HB.out hb); clear hs hb)
          | (go_at_call 13; (with_reducible refine (HCB.out _ ?side).mono ?_); (case side => exact HD3.out.lb); rintro e_ w4 ⟨rfl, hs, hb⟩; have HB4 := Aside0.mk (below_step HB3.out hb); clear hs hb))
        go_ret
        exact ⟨rfl, HB4.out⟩
      · have hsa := fun W h => state_ls s W ba ma A h
        have hsb := fun W h => state_ls s W bb mb B h
        unfold stateA at hsa hsb
        rw [← HTw.out.c, ← HTw.out.sum] at hsb
        have HCA := Aside0.mk hsa
        have HCB := Aside0.mk hsb
        clear hsa hsb
        have hfl := fun a b c d e f W => fld_left a b c d e f W
        go_wp2_with (first
          | (go_at_call 13; (with_reducible refine (HCA.out _ ?side).mono ?_); (case side => exact HD.out.la); rintro e_ w3 ⟨rfl, hs, hb⟩; have HD3 := Aside0.mk (HD.out.below hb); have HB3 := Aside0.mk (below_step HB.out hb); clear hs hb)
          | (go_at_call 13; (with_reducible refine (HCB.out _ ?side).mono ?_); (case side => exact HD3.out.lb); rintro e_ w4 ⟨rfl, hs, hb⟩; have HB4 := Aside0.mk (below_step HB3.out hb); clear hs hb))
        go_ret
        exact ⟨rfl, HB4.out⟩
end Go.Proofs.Ytekjhfhlbkcklaa.L

/-
  LaneCredit, walked.
-/
import Derived.Test.YtekjhfhlbkcklaaCa
import Derived.Deep.DeepCutAuto
import Derived.Deep.CutBlock
set_option linter.unusedVariables false
set_option linter.unusedSimpArgs false
namespace Go.Proofs.Ytekjhfhlbkcklaa.L
open Go.RowKit Go.Proofs.Ytekjhfhlbkcklaa.K Go.Proofs.Ytekjhfhlbkcklaa.PA Go.Proofs.YtekjhfhlbkcklaaW.PrintWords
attribute [local go_sem ↓] Go.wp_at_zero Go.wp_at_succ

/-- A ticket's kind. -/
theorem kTicket_open {w : World} {p : Int × Int} {cs : List Value} (h : kTicket.K w p cs) : cs = [.int .u64 p.1, .int .u64 p.2] := by
  obtain ⟨_, _, rfl, rfl, rfl⟩ := h
  rfl
theorem kTicket_mkM (w : World) (base : Nat) (ok : Nat → Prop) (p : Int × Int) : kTicket.M w base ok p [.int .u64 p.1, .int .u64 p.2] := ⟨[.int .u64 p.1], [.int .u64 p.2], rfl, rfl, rfl⟩
theorem ticket_at {w : World} {A : Option Addr} {xs : List (Int × Int)} {k : Nat} (h : Kd.C kTicket w A xs.length xs) (hk : k < xs.length) : ∃ (ad : Addr) (o : Int × Int), A = some ad ∧ xs[k]? = some o ∧
    w.cell? (ad.add (k * 2)) = some (.int .u64 o.1) ∧ w.cell? ⟨(ad.add (k * 2)).block, (ad.add (k * 2)).off + 1, none⟩ = some (.int .u64 o.2) := by
  obtain ⟨ad, c, e, _, hK, hc0⟩ := Kd.C_get h (0, 0) (k : Int) (by omega) (by omega)
  rw [Int.toNat_natCast] at hK hc0
  have hsz : kTicket.sz = 2 := rfl
  rw [hsz] at hc0
  have ho : xs[k]? = some (xs.getD k (0, 0)) := by rw [List.getD_eq_getElem?_getD, List.getElem?_eq_getElem hk]; rfl
  generalize xs.getD k (0, 0) = o at hK ho
  obtain rfl := kTicket_open hK
  refine ⟨ad, o, e, ho, hc0 0 _ rfl, ?_⟩
  rw [← add_field _ _ _ (by omega)]
  exact hc0 1 _ rfl
theorem infoTicket : (Try.prog.info? 34).map (fun i => (i.zero, i.size, i.bytes)) = some (some (.agg #[.int .u64 0, .int .u64 0]), 2, 16) := by kernel_rfl
/-- Not in the lane's two blocks. -/
abbrev NotIn (b m : Nat) (k : Nat) : Prop := k ≠ b ∧ k ≠ m
theorem chg_grown {w w1 : World} {row : Option Nat} (h : w.grownBy w1 row) : Chg (fun k => some k = row) w w1 := ⟨h.os, h.tape, h.output, h.size, fun k hk hn => h.block k hk hn⟩
set_option maxHeartbeats 8000000 in
set_option maxRecDepth 100000 in
theorem credit_calls (w : World) (cr s : Int) (two : Bool) (hcr0 : 0 ≤ cr) (hcr1 : cr ≤ 255) (s0 : 0 ≤ s) (s1 : s < 18446744073709551616) (A0 : Option Addr) (cap : Nat) (xs : List OpT) (hxs : Kd.C kOp w A0 xs.length xs) (hok : ∀ o ∈ xs, okOp o) :
    Calls Try.prog 5 #[.int .u8 cr, .bool two, .int .u64 s, .slice A0 xs.length cap] w fun e_ w' => e_ = .returned (.bool true) ∧ Below w.heap.size w w' := by
  obtain ⟨n, hn⟩ : ∃ n : Nat, cr % 64 + 1 = n := ⟨(cr % 64 + 1).toNat, by omega⟩
  have hn1 : 1 ≤ n := by omega
  have hn2 : n ≤ 64 := by omega
  have hu := Try.underlying34
  have hu2 := Try.underlying36
  have hu3 := Try.underlying38
  have hu4 := Try.underlying42
  have hu5 := Try.underlying40
  have HX := Aside0.mk hxs
  have HOK := Aside0.mk hok
  have HS := Aside0.mk (And.intro s0 s1)
  clear hxs hok s0 s1
  go_enter Try.func5, Try.ntmps5
  go_upto_region 5 with (first
    | (go_at_call 9; refine (awake_calls _).mono ?_; rintro e_ w0 ⟨rfl, hb0⟩; have HB0 := Aside0.mk hb0; clear hb0)
    | (go_at_call 10; refine (new_ls _ n two s hn1 hn2 HS.out.1 HS.out.2).mono ?_; rintro e_ w1 ⟨b, m, rfl, h1, h2, h3, h4⟩; have L1 := Aside0.mk h1; have N1 := Aside0.mk (And.intro h2 h3); have HB1 := Aside0.mk h4; clear h1 h2 h3 h4))
  have HBw := Aside0.mk (below_then HB0.out HB0.out.size HB1.out)
  have HN : Aside0 (∀ k, (k = b ∨ k = m) → w.heap.size ≤ k) := by
    refine ⟨fun k hk => ?_⟩
    have h1 := N1.out; have h3 := HB0.out.size
    rcases hk with e | e <;> omega
  clear N1 HB0 HB1 hn hn1 hcr0 hcr1
  go_wp2
  go_loopw [12, 13] (fun v12 v13 wr => ∃ (k : Nat) (A : AL) (out : List (Int × Int)), v13 = .int .i64 k ∧ k ≤ 60 ∧ k ≤ xs.length ∧ A.t ≤ k ∧ A.c = n ∧ Aside0 (LS s wr b m A) ∧ Aside0 (CrI s A out) ∧ Aside0 (out.length ≤ k) ∧ Aside0 (kTicket.R 34 wr w.heap.size (NotIn b m) v12 out) ∧ Aside0 (Below w.heap.size w wr)) (fun _ v13 _ => 60 - (intOf v13).toNat)
  case atStart => exact ⟨0, _, [], rfl, Nat.zero_le _, Nat.zero_le _, Nat.le_refl _, rfl, L1, ⟨cr_new n two⟩, ⟨Nat.le_refl _⟩, ⟨Kd.R_nil _ _ _ _ _⟩, HBw⟩
  case round =>
    obtain ⟨k, A, out, rfl, hk60, hkx, hkt, hAc, HL, HCr, HLen, HR, HB⟩ := hrel
    by_cases h60 : k < 60
    · by_cases hlt : k < xs.length
      · obtain ⟨ad, o, hA0, hxk, c0, c1, c2, c3, c4, c5, c6⟩ := op_at HX.out hlt
        subst hA0
        have hoo := HOK.out o (List.mem_of_getElem? hxk)
        obtain ⟨ok, ⟨tq, te⟩, ⟨sn, sg⟩, ⟨at1, at2⟩⟩ := o
        dsimp only at c0 c1 c2 c3 c4 c5 c6
        have HTQ := Aside0.mk (show 0 ≤ tq ∧ tq < 18446744073709551616 by have h_ : 0 ≤ tq ∧ tq ≤ 18446744073709551615 := bounds_u64 hoo.2.1.1; omega)
        have HO := Aside0.mk (And.intro c0 (And.intro c1 (And.intro c2 (And.intro c3 (And.intro c4 (And.intro c5 c6))))))
        obtain ⟨vo, cv, hvo, hcv, HC⟩ := Kd.R_reads HR.out
        subst hvo
        clear hxk hoo c0 c1 c2 c3 c4 c5 c6
        have c0 : wr.cell? (ad.add (k * 7)) = some (.int .i64 ok) := pw_cell_below HB.out HO.out.1
        have HAc := Aside0.mk hAc
        clear hAc HC
        go_upto_block 2 with fail
        clear c0
        go_cut [12] (fun v12 wc => ∃ (A' : AL) (out' : List (Int × Int)), A'.t ≤ k + 1 ∧ Aside0 (A'.c = n) ∧ Aside0 (LS s wc b m A') ∧ Aside0 (CrI s A' out') ∧ Aside0 (out'.length ≤ k + 1) ∧ Aside0 (kTicket.R 34 wc w.heap.size (NotIn b m) v12 out') ∧ Aside0 (Below w.heap.size w wc))
        case first =>
          by_cases k1 : ok = 1
          · subst k1
            by_cases hf : A.c ≤ A.q.length + A.old.length
            · have hE : claimA s A = ((0, 0, 81), A) := by unfold claimA; rw [if_pos hf]
              have hca := fun W h => claim_ls s W b m A h (by omega)
              rw [hE] at hca
              dsimp only at hca
              have HCA := Aside0.mk hca
              clear hca hE hf
              go_wp2_with (first | (go_at_call 15; (with_reducible refine (HCA.out _ ?side).mono ?_); (case side => exact (by repeat (first | with_reducible exact HL.out | apply LS.alloc | apply LS.drewN | apply LS.drew))); rintro e_ w3 ⟨rfl, hs, hc0⟩; have hc : TwoB b m wr w3 := (by first | exact hc0 | exact Chg.of_drew hc0 | exact Chg.of_drewN hc0); have HL3 := Aside0.mk hs; have HB3 := Aside0.mk (below_chg HB.out hc HN.out); have HR3 := Aside0.mk (Kd.R_step HR.out (fun k_ hk hlt_ => hc.block k_ hlt_ (not_two hk.1 hk.2))); have hz_w3 := hc.size; clear hs hc0 hc))
              go_quiet (fail)
              go_wp2
              go_meet
              exact ⟨A, out, by omega, ⟨HAc.out⟩, ⟨(HL3.out.alloc _).drewN _⟩, ⟨HCr.out⟩, ⟨by have := HLen.out; omega⟩, ⟨Kd.R_drewN (Kd.R_alloc HR3.out _) _⟩, ⟨pw_below_drewN (HB3.out.alloc HB3.out.size _) _⟩⟩
            · obtain ⟨X, hX⟩ : ∃ X, sq s A.t = X := ⟨_, rfl⟩
              obtain ⟨A1, hA1⟩ : ∃ A1 : AL, { A with q := A.q ++ [⟨1, 0, 0, 0, 0⟩], t := A.t + 1 } = A1 := ⟨_, rfl⟩
              have hE : claimA s A = ((X, A.epoch, 0), A1) := by unfold claimA; rw [if_neg hf, hX, hA1]
              have hlay := claim_lay HL.out.wf (by omega) hf sn sg
              rw [hA1, hX] at hlay
              have hcr := cr_claim HL.out.wf HCr.out sn sg
              rw [hX] at hcr
              have hXin : 0 ≤ X ∧ X < 18446744073709551616 := by rw [← hX]; exact sq_in s A.t
              have hca := fun W h => claim_ls s W b m A h (by omega)
              rw [hE] at hca
              dsimp only at hca
              have hcb := fun W h => lay_ls s W b m A1 h X A.epoch sn sg hXin.1 hXin.2
              rw [hlay] at hcb
              dsimp only at hcb
              have HCA := Aside0.mk hca
              have HCB := Aside0.mk hcb
              have HCn := Aside0.mk hcr
              clear hca hcb hE hf hX hA1 hlay hcr hXin
              go_upto_region 15 with (first | (go_at_call 15; (with_reducible refine (HCA.out _ ?side).mono ?_); (case side => exact (by repeat (first | with_reducible exact HL.out | apply LS.alloc | apply LS.drewN | apply LS.drew))); rintro e_ w3 ⟨rfl, hs, hc0⟩; have hc : TwoB b m wr w3 := (by first | exact hc0 | exact Chg.of_drew hc0 | exact Chg.of_drewN hc0); have HL3 := Aside0.mk hs; have HB3 := Aside0.mk (below_chg HB.out hc HN.out); have HR3 := Aside0.mk (Kd.R_step HR.out (fun k_ hk hlt_ => hc.block k_ hlt_ (not_two hk.1 hk.2))); have hz_w3 := hc.size; clear hs hc0 hc))
              have HL5 := Aside0.mk (HL3.out.alloc (.cells #[.int .u64 X, .int .u64 A.epoch] 34))
              have HR5 := Aside0.mk (Kd.R_alloc HR3.out (.cells #[.int .u64 X, .int .u64 A.epoch] 34))
              have HB5 := Aside0.mk (HB3.out.alloc HB3.out.size (.cells #[.int .u64 X, .int .u64 A.epoch] 34))
              have BT5 := Aside0.mk (blk_new w3 [.int .u64 X, .int .u64 A.epoch] 34)
              have hNT : Aside0 (NotIn b m w3.heap.size) := by
                have h1 := HL3.out.lt; have h2 := HL3.out.mlt
                exact ⟨⟨by omega, by omega⟩⟩
              generalize hW : w3.alloc (.cells #[.int .u64 X, .int .u64 A.epoch] 34) = W5 at HL5 HR5 HB5 BT5 ⊢
              clear hW HL3 HR3 HB3 HL HR hz_w3
              have t0 : W5.cell? ⟨w3.heap.size, 0, none⟩ = some (.int .u64 X) := BT5.out.cell rfl
              have t1 : W5.cell? ⟨w3.heap.size, 1, none⟩ = some (.int .u64 A.epoch) := BT5.out.cell rfl
              have x3 : W5.cell? ⟨(ad.add (k * 7)).block, (ad.add (k * 7)).off + 3, none⟩ = some (.int .i64 sn) := pw_cell_below HB5.out HO.out.2.2.2.1
              have x4 : W5.cell? ⟨(ad.add (k * 7)).block, (ad.add (k * 7)).off + 4, none⟩ = some (.int .u64 sg) := pw_cell_below HB5.out HO.out.2.2.2.2.1
              go_region_held3 (fun w' => w'.cell? ⟨w3.heap.size, 0, none⟩ = some (.int .u64 X) ∧ w'.cell? ⟨w3.heap.size, 1, none⟩ = some (.int .u64 A.epoch) ∧ w'.cell? ⟨(ad.add (k * 7)).block, (ad.add (k * 7)).off + 3, none⟩ = some (.int .i64 sn) ∧ w'.cell? ⟨(ad.add (k * 7)).block, (ad.add (k * 7)).off + 4, none⟩ = some (.int .u64 sg))
                (first
                  | exact ⟨t0, t1, x3, x4⟩
                  | exact ⟨BT6.out.cell rfl, BT6.out.cell rfl, pw_cell_below HB6.out HO.out.2.2.2.1, pw_cell_below HB6.out HO.out.2.2.2.2.1⟩)
                (first
                  | (go_at_call 16; (with_reducible refine (HCB.out _ ?side).mono ?_); (case side => exact (by repeat (first | with_reducible exact HL5.out | apply LS.alloc | apply LS.drewN | apply LS.drew))); rintro e_ w6 ⟨rfl, hs, hc0⟩; have hc : TwoB b m W5 w6 := (by first | exact hc0 | exact Chg.of_drew hc0 | exact Chg.of_drewN hc0); have HL6 := Aside0.mk hs; have HB6 := Aside0.mk (below_chg HB5.out hc HN.out); have HR6 := Aside0.mk (Kd.R_step HR5.out (fun k_ hk hlt_ => hc.block k_ hlt_ (not_two hk.1 hk.2))); have hz_w6 := hc.size; have BT6 := Aside0.mk (BT5.out.chg hc (not_two hNT.out.1 hNT.out.2)); clear hs hc0 hc))
              have u0 : w6.cell? ⟨w3.heap.size, 0, none⟩ = some (.int .u64 X) := BT6.out.cell rfl
              have u1 : w6.cell? ⟨w3.heap.size, 1, none⟩ = some (.int .u64 A.epoch) := BT6.out.cell rfl
              clear t0 t1 x3 x4
              go_wp2_with (first
                | ((with_reducible refine gate_builtin (b := .append) (xs := #[.tmp 87, .tmp 89]) rfl ?_); at_builtin; refine Kd.R_append kTicket (w0 := w) w.heap.size rfl (.tmp 87) (.tmp 89) 45 34 (.agg #[.int .u64 0, .int .u64 0]) 16 rfl Try.underlying45 infoTicket rfl (by decide) (by omega) (.slice vo out.length cv) out (X, A.epoch) [.int .u64 X, .int .u64 A.epoch] (NotIn b m) (fun _ => False) rfl rfl ?aP (fun _ hk => hk.elim) ?aF ?aO ?aB ?aS ?aL ?_; (case aP => exact kTicket_mkM _ _ _ _); (case aF => exact (fun k_ hk => by have h1 := HL6.out.lt; have h2 := HL6.out.mlt; exact ⟨by omega, by omega⟩)); (case aO => exact HR6.out); (case aB => exact HB6.out); (case aS => exact HB6.out.size); (case aL => have := HLen.out; omega); intro v7 w7 ho hb hg hat; have HR7 := Aside0.mk ho; have HB7 := Aside0.mk hb; have HL7 := Aside0.mk (HL6.out.chg (chg_grown hg) (fun e_ => (HR6.out.1 b e_.symm).1 rfl) (fun e_ => (HR6.out.1 m e_.symm).2 rfl)); clear ho hb hg hat))
              go_meet
              exact ⟨claimLay A sn sg, out ++ [(X, A.epoch)], by rw [claimLay_t]; omega, ⟨HAc.out⟩, HL7, ⟨HCn.out⟩, ⟨by have := HLen.out; rw [List.length_append]; simp; omega⟩, HR7, HB7⟩
          · skip
            by_cases k6 : ok = 6
            · subst k6
              have HCA := Aside0.mk (fun W h => take_ls s W b m A h)
              have HCn := Aside0.mk (cr_take HL.out.wf HCr.out)
              go_wp2_with (first | (go_at_call 17; (with_reducible refine (HCA.out _ ?side).mono ?_); (case side => exact (by repeat (first | with_reducible exact HL.out | apply LS.alloc | apply LS.drewN | apply LS.drew))); rintro e_ w3 ⟨rfl, hs, hc0⟩; have hc : TwoB b m wr w3 := (by first | exact hc0 | exact Chg.of_drew hc0 | exact Chg.of_drewN hc0); have HL3 := Aside0.mk hs; have HB3 := Aside0.mk (below_chg HB.out hc HN.out); have HR3 := Aside0.mk (Kd.R_step HR.out (fun k_ hk hlt_ => hc.block k_ hlt_ (not_two hk.1 hk.2))); have hz_w3 := hc.size; clear hs hc0 hc))
              go_meet
              exact ⟨(takeA s A).2, out, by rw [take_t]; omega, ⟨(take_c s A).trans HAc.out⟩, HL3, ⟨HCn.out⟩, ⟨by have := HLen.out; omega⟩, HR3, HB3⟩
            · skip
              by_cases k7 : ok = 7
              · subst k7
                have x1 : wr.cell? ⟨(ad.add (k * 7)).block, (ad.add (k * 7)).off + 1, none⟩ = some (.int .u64 tq) := pw_cell_below HB.out HO.out.2.1
                have x2 : wr.cell? ⟨(ad.add (k * 7)).block, (ad.add (k * 7)).off + 2, none⟩ = some (.int .u64 te) := pw_cell_below HB.out HO.out.2.2.1
                have HCA := Aside0.mk (fun W h => retire_ls s W b m A h tq te)
                have HCn := Aside0.mk (cr_retire HCr.out tq te)
                go_wp2_with (first | (go_at_call 19; (with_reducible refine (HCA.out _ ?side).mono ?_); (case side => exact (by repeat (first | with_reducible exact HL.out | apply LS.alloc | apply LS.drewN | apply LS.drew))); rintro e_ w3 ⟨rfl, hs, hc0⟩; have hc : TwoB b m wr w3 := (by first | exact hc0 | exact Chg.of_drew hc0 | exact Chg.of_drewN hc0); have HL3 := Aside0.mk hs; have HB3 := Aside0.mk (below_chg HB.out hc HN.out); have HR3 := Aside0.mk (Kd.R_step HR.out (fun k_ hk hlt_ => hc.block k_ hlt_ (not_two hk.1 hk.2))); have hz_w3 := hc.size; clear hs hc0 hc))
                go_meet
                exact ⟨(retireA s A tq te).2, out, by rw [retire_t]; omega, ⟨(retire_c s A tq te).trans HAc.out⟩, HL3, ⟨HCn.out⟩, ⟨by have := HLen.out; omega⟩, HR3, HB3⟩
              · skip
                by_cases k8 : ok = 8
                · subst k8
                  have HCA := Aside0.mk (fun W h => reset_ls s W b m A h)
                  have HCn := Aside0.mk (cr_reset HCr.out)
                  go_wp2_with (first | (go_at_call 18; (with_reducible refine (HCA.out _ ?side).mono ?_); (case side => exact (by repeat (first | with_reducible exact HL.out | apply LS.alloc | apply LS.drewN | apply LS.drew))); rintro e_ w3 ⟨aA, nA, rfl, hs, hc0⟩; have hc : TwoB b m wr w3 := (by first | exact hc0 | exact Chg.of_drew hc0 | exact Chg.of_drewN hc0); have HL3 := Aside0.mk hs; have HB3 := Aside0.mk (below_chg HB.out hc HN.out); have HR3 := Aside0.mk (Kd.R_step HR.out (fun k_ hk hlt_ => hc.block k_ hlt_ (not_two hk.1 hk.2))); have hz_w3 := hc.size; clear hs hc0 hc))
                  go_meet
                  exact ⟨resetS A, out, by rw [reset_t]; omega, ⟨(reset_c A).trans HAc.out⟩, HL3, ⟨HCn.out⟩, ⟨by have := HLen.out; omega⟩, HR3, HB3⟩
                · skip
                  have x1 : wr.cell? ⟨(ad.add (k * 7)).block, (ad.add (k * 7)).off + 1, none⟩ = some (.int .u64 tq) := pw_cell_below HB.out HO.out.2.1
                  have x2 : wr.cell? ⟨(ad.add (k * 7)).block, (ad.add (k * 7)).off + 2, none⟩ = some (.int .u64 te) := pw_cell_below HB.out HO.out.2.2.1
                  have x5 : wr.cell? ⟨(ad.add (k * 7)).block, (ad.add (k * 7)).off + 5, none⟩ = some (.int .i64 at1) := pw_cell_below HB.out HO.out.2.2.2.2.2.1
                  have x6 : wr.cell? ⟨(ad.add (k * 7)).block, (ad.add (k * 7)).off + 6, none⟩ = some (.int .i64 at2) := pw_cell_below HB.out HO.out.2.2.2.2.2.2
                  have HCA := Aside0.mk (fun W h => publish_ls s W b m A h tq te at1 at2 HTQ.out.1 HTQ.out.2)
                  have HCn := Aside0.mk (cr_pub HL.out.wf HCr.out tq te at1 at2)
                  go_wp2
                  go_region_held3 (fun w' => w'.cell? ⟨(ad.add (k * 7)).block, (ad.add (k * 7)).off + 1, none⟩ = some (.int .u64 tq) ∧ w'.cell? ⟨(ad.add (k * 7)).block, (ad.add (k * 7)).off + 2, none⟩ = some (.int .u64 te) ∧ w'.cell? ⟨(ad.add (k * 7)).block, (ad.add (k * 7)).off + 5, none⟩ = some (.int .i64 at1) ∧ w'.cell? ⟨(ad.add (k * 7)).block, (ad.add (k * 7)).off + 6, none⟩ = some (.int .i64 at2))
                    (first
                      | exact ⟨x1, x2, x5, x6⟩
                      | exact ⟨pw_cell_below HB3.out HO.out.2.1, pw_cell_below HB3.out HO.out.2.2.1, pw_cell_below HB3.out HO.out.2.2.2.2.2.1, pw_cell_below HB3.out HO.out.2.2.2.2.2.2⟩)
                    (first
                      | (go_at_call 20; (with_reducible refine (HCA.out _ ?side).mono ?_); (case side => exact (by repeat (first | with_reducible exact HL.out | apply LS.alloc | apply LS.drewN | apply LS.drew))); rintro e_ w3 ⟨rfl, hs, hc0⟩; have hc : TwoB b m wr w3 := (by first | exact hc0 | exact Chg.of_drew hc0 | exact Chg.of_drewN hc0); have HL3 := Aside0.mk hs; have HB3 := Aside0.mk (below_chg HB.out hc HN.out); have HR3 := Aside0.mk (Kd.R_step HR.out (fun k_ hk hlt_ => hc.block k_ hlt_ (not_two hk.1 hk.2))); have hz_w3 := hc.size; clear hs hc0 hc))
                  go_wp2
                  go_meet
                  exact ⟨(pubA s A tq te at1 at2).1, out, by rw [pub_t]; omega, ⟨(pub_c s A tq te at1 at2).trans HAc.out⟩, HL3, ⟨HCn.out⟩, ⟨by have := HLen.out; omega⟩, HR3, HB3⟩
        case rest =>
          obtain ⟨A', out', hkt', hAc', HL', HCr', HLen', HR', HB'⟩ := hcut
          obtain ⟨vo', cv', hvo', hcv', HC'⟩ := Kd.R_reads HR'.out
          subst hvo'
          obtain ⟨lf, cl, pu, ta, he, hst, hsum, hc64, hcl⟩ := counts HL'.out.wf
          have hsa := fun W h => state_ls s W b m A' h
          rw [hst] at hsa
          have HCA := Aside0.mk hsa
          have HC1 := Aside0.mk HC'
          have HFin := Aside0.mk (And.intro hsum hcl)
          have e1 : ((lf : Int) + cl + pu + ta + he != (n : Int)) = false := by
            have h_ := hAc'.out
            rw [bne_eq_false_iff_eq]; omega
          have l1 : lf ≤ 64 := by omega
          have l2 : cl ≤ 64 := by omega
          have l3 : pu ≤ 64 := by omega
          have l4 : ta ≤ 64 := by omega
          have l5 : he ≤ 64 := by omega
          have hlen' := HLen'.out
          have hol : out'.length ≤ 61 := by omega
          clear hsa hst hsum hcl hc64 HC' HR HL hcv hcv' hlen'
          go_wp2_with (first
            | (go_at_call 13; (with_reducible refine (HCA.out _ HL'.out).mono ?_); rintro e_ w4 ⟨rfl, hs, hb⟩; have HL4 := Aside0.mk hs; have HB4 := Aside0.mk (below_step HB'.out hb); have HR4 := Aside0.mk (Kd.R_below HR'.out hb); have HC4 := Aside0.mk (Kd.C_below HC1.out hb); clear hs hb))
          have BS := Aside0.mk (blk_new w4 [.int .i64 (lf : Int), .int .i64 (cl : Int), .int .i64 (pu : Int), .int .i64 (ta : Int), .int .i64 (he : Int), .int .u64 A'.epoch] 42)
          have HL5 := Aside0.mk (HL4.out.alloc (.cells #[.int .i64 (lf : Int), .int .i64 (cl : Int), .int .i64 (pu : Int), .int .i64 (ta : Int), .int .i64 (he : Int), .int .u64 A'.epoch] 42))
          have HR5 := Aside0.mk (Kd.R_alloc HR4.out (.cells #[.int .i64 (lf : Int), .int .i64 (cl : Int), .int .i64 (pu : Int), .int .i64 (ta : Int), .int .i64 (he : Int), .int .u64 A'.epoch] 42))
          have HB5 := Aside0.mk (HB4.out.alloc HB4.out.size (.cells #[.int .i64 (lf : Int), .int .i64 (cl : Int), .int .i64 (pu : Int), .int .i64 (ta : Int), .int .i64 (he : Int), .int .u64 A'.epoch] 42))
          generalize hW : w4.alloc (.cells #[.int .i64 (lf : Int), .int .i64 (cl : Int), .int .i64 (pu : Int), .int .i64 (ta : Int), .int .i64 (he : Int), .int .u64 A'.epoch] 42) = W5 at BS HL5 HR5 HB5 ⊢
          clear hW HL4 HR4 HB4 HC4 HC1 HCA e1 l1 l3 l4 l5 HR' HB' HL'
          go_loopw [17, 18] (fun v17 v18 wr => ∃ (rd k2 : Nat), v17 = .int .i64 rd ∧ v18 = .int .i64 k2 ∧ k2 ≤ out'.length ∧ rd ≤ k2 ∧ Aside0 (∀ (j : Nat) (p : Int × Int), j < k2 → out'[j]? = some p → readyA s A' p.1 p.2 = true → 1 ≤ rd) ∧ Aside0 (LS s wr b m A') ∧ Aside0 (kTicket.R 34 wr w.heap.size (NotIn b m) (.slice vo' out'.length cv') out') ∧ Aside0 (Blk wr w4.heap.size [.int .i64 (lf : Int), .int .i64 (cl : Int), .int .i64 (pu : Int), .int .i64 (ta : Int), .int .i64 (he : Int), .int .u64 A'.epoch] 42) ∧ Aside0 (Below w.heap.size w wr)) (fun _ v18 _ => out'.length - (intOf v18).toNat)
          case atStart => exact ⟨0, 0, rfl, rfl, Nat.zero_le _, Nat.le_refl _, ⟨fun j p hj => absurd hj (Nat.not_lt_zero _)⟩, HL5, HR5, BS, HB5⟩
          case round =>
            obtain ⟨rd, k2, rfl, rfl, hk2, hrd, HRd, HL6, HR6, BS6, HB6⟩ := hrel
            by_cases hlt2 : k2 < out'.length
            · obtain ⟨vo2, cv2, hvo2, hcv2, HC2⟩ := Kd.R_reads HR6.out
              obtain ⟨rfl, -⟩ : vo' = vo2 ∧ cv' = cv2 := by simpa using hvo2
              obtain ⟨ad2, p, hA2, hp2, y0, y1⟩ := ticket_at HC2 hlt2
              subst hA2
              have hin := HCr'.out.inr p (List.mem_of_getElem? hp2)
              obtain ⟨x, hx⟩ : ∃ x, readyA s A' p.1 p.2 = x := ⟨_, rfl⟩
              have hca := fun W h => ready_ls s W b m A' h p.1 p.2 hin.1 hin.2
              rw [hx] at hca
              have HCA := Aside0.mk hca
              have HX2 := Aside0.mk hx
              have HP2 := Aside0.mk hp2
              clear hca hx hp2 hvo2 hcv2 HC2 hin
              cases x with
              | true =>
                go_wp2_with (first
                  | (go_at_call 21; (with_reducible refine (HCA.out _ HL6.out).mono ?_); rintro e_ w7 ⟨rfl, hs, hb⟩; have HL7 := Aside0.mk hs; have HB7 := Aside0.mk (below_step HB6.out hb); have HR7 := Aside0.mk (Kd.R_below HR6.out hb); have BS7 := Aside0.mk (BS6.out.chg (Chg.below hb (fun _ => False)) (fun f => f)); clear hs hb))
                go_roundw
                case rel => exact ⟨rd + 1, k2 + 1, by go_num, by go_num, by omega, by omega, ⟨fun _ _ _ _ _ => by omega⟩, HL7, HR7, BS7, HB7⟩
                case measure => simp [intOf]; omega
              | false =>
                go_wp2_with (first
                  | (go_at_call 21; (with_reducible refine (HCA.out _ HL6.out).mono ?_); rintro e_ w7 ⟨rfl, hs, hb⟩; have HL7 := Aside0.mk hs; have HB7 := Aside0.mk (below_step HB6.out hb); have HR7 := Aside0.mk (Kd.R_below HR6.out hb); have BS7 := Aside0.mk (BS6.out.chg (Chg.below hb (fun _ => False)) (fun f => f)); clear hs hb))
                go_roundw
                case rel =>
                  refine ⟨rd, k2 + 1, rfl, by go_num, by omega, by omega, ⟨fun j q hj hq hr => ?_⟩, HL7, HR7, BS7, HB7⟩
                  by_cases hjk : j = k2
                  · subst hjk
                    obtain rfl : p = q := by have h_ := HP2.out; rw [hq] at h_; exact (Option.some.inj h_).symm
                    rw [HX2.out] at hr; cases hr
                  · exact HRd.out j q (by omega) hq hr
                case measure => simp [intOf]; omega
            · have hk3 : out'.length ≤ k2 := by omega
              have d1 : wr.cell? ⟨w4.heap.size, 1, none⟩ = some (.int .i64 (cl : Int)) := BS6.out.cell rfl
              have HK3 := Aside0.mk hk3
              clear hk3
              by_cases hc0 : 0 < cl
              · have hrd1 : 1 ≤ rd := by
                  have h1 := HFin.out.2
                  have hin := HCr'.out.has A'.r (Nat.le_refl _) (by omega)
                  obtain ⟨j, hj, hje⟩ := List.getElem_of_mem hin
                  refine HRd.out j (sq s A'.r, A'.epoch) (by have := HK3.out; omega) ?_ (cr_ready HL6.out.wf HCr'.out (by omega))
                  rw [List.getElem?_eq_getElem hj, hje]
                have hrb : ((rd : Int) == 0) = false := by simp; omega
                go_wp2
                go_roundw
                case rel => exact ⟨k + 1, A', out', by go_num, by omega, by omega, hkt', hAc'.out, HL6, HCr', HLen', HR6, HB6⟩
                case measure => simp [intOf]; omega
              · go_wp2
                go_roundw
                case rel => exact ⟨k + 1, A', out', by go_num, by omega, by omega, hkt', hAc'.out, HL6, HCr', HLen', HR6, HB6⟩
                case measure => simp [intOf]; omega
      · go_wp2
        go_ret
        exact ⟨rfl, HB.out⟩
    · by_cases hlt : k < xs.length
      · go_wp2
        go_ret
        exact ⟨rfl, HB.out⟩
      · go_wp2
        go_ret
        exact ⟨rfl, HB.out⟩
end Go.Proofs.Ytekjhfhlbkcklaa.L

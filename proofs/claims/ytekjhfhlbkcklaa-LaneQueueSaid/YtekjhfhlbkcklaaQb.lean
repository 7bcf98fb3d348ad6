/-
  LaneQueue, walked.
-/
import Derived.Test.YtekjhfhlbkcklaaQa
import Derived.Test.YtekjhfhlbkcklaaCb
set_option linter.unusedVariables false
set_option linter.unusedSimpArgs false
namespace Go.Proofs.Ytekjhfhlbkcklaa.L
open Go.RowKit Go.Proofs.Ytekjhfhlbkcklaa.K Go.Proofs.Ytekjhfhlbkcklaa.PA Go.Proofs.YtekjhfhlbkcklaaW.PrintWords
attribute [local go_sem ↓] Go.wp_at_zero Go.wp_at_succ

theorem infoSlot : (Try.prog.info? 36).map (fun i => (i.zero, i.size, i.bytes)) = some (some (.agg #[.int .i64 0, .int .u64 0]), 2, 16) := by kernel_rfl
theorem kSlot_mkM (w : World) (base : Nat) (ok : Nat → Prop) (p : Int × Int) : kSlot.M w base ok p [.int .i64 p.1, .int .u64 p.2] := ⟨[.int .i64 p.1], [.int .u64 p.2], rfl, rfl, rfl⟩
theorem kSlot_openM {w : World} {base : Nat} {ok : Nat → Prop} {p : Int × Int} {cs : List Value} (h : kSlot.M w base ok p cs) : cs = [.int .i64 p.1, .int .u64 p.2] := by
  obtain ⟨_, _, rfl, rfl, rfl⟩ := h
  rfl
theorem kSlot_open {w : World} {p : Int × Int} {cs : List Value} (h : kSlot.K w p cs) : cs = [.int .i64 p.1, .int .u64 p.2] := by
  obtain ⟨_, _, rfl, rfl, rfl⟩ := h
  rfl
theorem kTicket_openM {w : World} {base : Nat} {ok : Nat → Prop} {p : Int × Int} {cs : List Value} (h : kTicket.M w base ok p cs) : cs = [.int .u64 p.1, .int .u64 p.2] := by
  obtain ⟨_, _, rfl, rfl, rfl⟩ := h
  rfl
set_option maxRecDepth 100000 in
theorem cut1 (W : World) (n c : Nat) (A : Option Addr) (hn : 0 < n) : (Instr.slice 45 (.slice A n c) (some (.int .i64 1)) none none).run Try.prog W = .ok (.slice (if c = 1 then A else A.map (·.add (1 * kTicket.sz))) (n - 1) (c - 1)) W := by
  have h := run_slice_l (P := Try.prog) W 45 A n c (by rw [Try.underlying45]; kernel_rfl) .i64 1 (by omega) (by omega)
  rw [h]
  have hs2 : (sizeOf (Try.prog.elem 45)).run Try.prog W = .ok 2 W := Try.sizeOf34 W
  rw [hs2]; rfl
set_option maxRecDepth 100000 in
theorem cut2 (W : World) (n c : Nat) (A : Option Addr) (hn : 0 < n) : (Instr.slice 46 (.slice A n c) (some (.int .i64 1)) none none).run Try.prog W = .ok (.slice (if c = 1 then A else A.map (·.add (1 * kSlot.sz))) (n - 1) (c - 1)) W := by
  have h := run_slice_l (P := Try.prog) W 46 A n c (by rw [Try.underlying46]; kernel_rfl) .i64 1 (by omega) (by omega)
  rw [h]
  have hs2 : (sizeOf (Try.prog.elem 46)).run Try.prog W = .ok 2 W := Try.sizeOf36 W
  rw [hs2]; rfl
/-- A row of another type's elements grows: this one stays. -/
theorem q_other {α β : Type} {d1 : Kd α} {d2 : Kd β} {e1 e2 base : Nat} {ok1 ok2 : Nat → Prop} {W w1 : World} {u v : Value} {ys : List α} {xs : List β} (h1 : d1.Q e1 W base ok1 u ys) (hE : d1.E = []) (h2 : d2.Q e2 W base ok2 v xs) (hne : e2 ≠ e1) (hg : W.grownBy w1 v.ownBlock) : d1.Q e1 w1 base ok1 u ys := by
  refine Kd.Q_mono (Kd.Q_grown (Kd.Q_bound h1) hg (fun k hk => ?_)) (fun _ hk => hk.1)
  obtain ⟨-, -, -, q, hq, cells, hc⟩ := hk
  rw [hE] at hq
  obtain rfl : q = e1 := by simpa using hq
  exact Kd.Q_ne h2 hc hne
set_option maxHeartbeats 8000000 in
set_option maxRecDepth 100000 in
theorem queue_calls (w : World) (cr s : Int) (two : Bool) (hcr0 : 0 ≤ cr) (hcr1 : cr ≤ 255) (s0 : 0 ≤ s) (s1 : s < 18446744073709551616) (A0 : Option Addr) (cap : Nat) (xs : List OpT) (hxs : Kd.C kOp w A0 xs.length xs) (hok : ∀ o ∈ xs, okOp o) :
    Calls Try.prog 4 #[.int .u8 cr, .bool two, .int .u64 s, .slice A0 xs.length cap] w fun e_ w' => e_ = .returned (.bool true) ∧ Below w.heap.size w w' := by
  obtain ⟨n, hn⟩ : ∃ n : Nat, cr % 64 + 1 = n := ⟨(cr % 64 + 1).toNat, by omega⟩
  have hn1 : 1 ≤ n := by omega
  have hn2 : n ≤ 64 := by omega
  have hu := Try.underlying34
  have hu2 := Try.underlying36
  have hu3 := Try.underlying38
  have hu5 := Try.underlying40
  have HX := Aside0.mk hxs
  have HOK := Aside0.mk hok
  have HS := Aside0.mk (And.intro s0 s1)
  clear hxs hok s0 s1
  go_enter Try.func4, Try.ntmps4
  go_upto_region 6 with (first
    | (go_at_call 9; refine (awake_calls _).mono ?_; rintro e_ w0 ⟨rfl, hb0⟩; have HB0 := Aside0.mk hb0; clear hb0)
    | (go_at_call 10; refine (new_ls _ n two s hn1 hn2 HS.out.1 HS.out.2).mono ?_; rintro e_ w1 ⟨b, m, rfl, h1, h2, h3, h4⟩; have L1 := Aside0.mk h1; have N1 := Aside0.mk (And.intro h2 h3); have HB1 := Aside0.mk h4; clear h1 h2 h3 h4))
  have HBw := Aside0.mk (below_then HB0.out HB0.out.size HB1.out)
  have HN : Aside0 (∀ k, (k = b ∨ k = m) → w.heap.size ≤ k) := by
    refine ⟨fun k hk => ?_⟩
    have h1 := N1.out; have h3 := HB0.out.size
    rcases hk with e | e <;> omega
  clear N1 HB0 HB1 hn hn1 hcr0 hcr1
  go_wp2
  go_loopw [11, 12, 13] (fun v11 v12 v13 wr => ∃ (k : Nat) (A : AL), v13 = .int .i64 k ∧ k ≤ 60 ∧ k ≤ xs.length ∧ A.t ≤ k ∧ Aside0 (LS s wr b m A) ∧ Aside0 (kTicket.Q 34 wr w.heap.size (NotIn b m) v11 (tickets s A)) ∧ Aside0 (kSlot.Q 36 wr w.heap.size (NotIn b m) v12 (slotsA A)) ∧ Aside0 (Below w.heap.size w wr)) (fun _ _ v13 _ => 60 - (intOf v13).toNat)
  case atStart => exact ⟨0, _, rfl, Nat.zero_le _, Nat.zero_le _, Nat.le_refl _, L1, ⟨Kd.Q_nil _ _ _ _ _⟩, ⟨Kd.Q_nil _ _ _ _ _⟩, HBw⟩
  case round =>
    obtain ⟨k, A, rfl, hk60, hkx, hkt, HL, HQ, HU, HB⟩ := hrel
    by_cases h60 : k < 60
    · by_cases hlt : k < xs.length
      · obtain ⟨ad, o, hA0, hxk, c0, c1, c2, c3, c4, c5, c6⟩ := op_at HX.out hlt
        subst hA0
        have hoo := HOK.out o (List.mem_of_getElem? hxk)
        obtain ⟨ok, ⟨tq, te⟩, ⟨sn, sg⟩, ⟨at1, at2⟩⟩ := o
        dsimp only at c0 c1 c2 c3 c4 c5 c6
        have HTQ := Aside0.mk (show 0 ≤ tq ∧ tq < 18446744073709551616 by have h_ : 0 ≤ tq ∧ tq ≤ 18446744073709551615 := bounds_u64 hoo.2.1.1; omega)
        have HO := Aside0.mk (And.intro c0 (And.intro c1 (And.intro c2 (And.intro c3 (And.intro c4 (And.intro c5 c6))))))
        obtain ⟨T, hT⟩ : ∃ T, tickets s A = T := ⟨_, rfl⟩
        obtain ⟨U, hU⟩ : ∃ U, slotsA A = U := ⟨_, rfl⟩
        have hTlen : T.length ≤ 64 := by rw [← hT, tickets_length]; have h_ := HL.out.bounds; omega
        have hUlen : U.length ≤ 64 := by rw [← hU, slotsA_length]; have h_ := HL.out.bounds; omega
        rw [hT] at HQ
        rw [hU] at HU
        have HTU := Aside0.mk (And.intro hT hU)
        obtain ⟨vo, cv, hvo, hcv, HC⟩ := Kd.Q_reads HQ.out
        subst hvo
        obtain ⟨vu, cu, hvu, hcu, HCu⟩ := Kd.Q_reads HU.out
        subst hvu
        have HLen := Aside0.mk (And.intro hTlen hUlen)
        clear hxk hoo c0 c1 c2 c3 c4 c5 c6 hT hU HC HCu hcv hcu
        have c0 : wr.cell? (ad.add (k * 7)) = some (.int .i64 ok) := pw_cell_below HB.out HO.out.1
        by_cases k1 : ok = 1
        · subst k1
          by_cases hf : A.c ≤ A.q.length + A.old.length
          · have hE : claimA s A = ((0, 0, 81), A) := by unfold claimA; rw [if_pos hf]
            have hca := fun W h => claim_ls s W b m A h (by omega)
            rw [hE] at hca
            dsimp only at hca
            have HCA := Aside0.mk hca
            clear hca hE hf
            go_wp2_with (first | (go_at_call 15; (with_reducible refine (HCA.out _ ?side).mono ?_); (case side => exact (by repeat (first | with_reducible exact HL.out | apply LS.alloc | apply LS.drewN | apply LS.drew))); rintro e_ w3 ⟨rfl, hs, hc0⟩; have hc : TwoB b m wr w3 := (by first | exact hc0 | exact Chg.of_drew hc0 | exact Chg.of_drewN hc0); have HL3 := Aside0.mk hs; have HB3 := Aside0.mk (below_chg HB.out hc HN.out); have HQ3 := Aside0.mk (Kd.Q_step HQ.out (fun k_ hk hlt_ => hc.block k_ hlt_ (not_two hk.1 hk.2))); have HU3 := Aside0.mk (Kd.Q_step HU.out (fun k_ hk hlt_ => hc.block k_ hlt_ (not_two hk.1 hk.2))); have hz_w3 := hc.size; clear hs hc0 hc))
            go_roundw
            case rel => exact ⟨k + 1, A, by go_num, by omega, by omega, by omega, ⟨(HL3.out.alloc _)⟩, (by rw [HTU.out.1]; exact ⟨(Kd.Q_alloc HQ3.out _)⟩), (by rw [HTU.out.2]; exact ⟨(Kd.Q_alloc HU3.out _)⟩), ⟨(below_alloc HB3.out _)⟩⟩
            case measure => simp [intOf]; omega
          · obtain ⟨X, hX⟩ : ∃ X, sq s A.t = X := ⟨_, rfl⟩
            obtain ⟨hq1, hq2⟩ := q_claim HL.out.wf
            obtain ⟨A1, hA1⟩ : ∃ A1 : AL, { A with q := A.q ++ [⟨1, 0, 0, 0, 0⟩], t := A.t + 1 } = A1 := ⟨_, rfl⟩
            have ht1 : A1.t = A.t + 1 := by rw [← hA1]
            rw [hA1, HTU.out.1, hX] at hq1
            rw [hA1, HTU.out.2] at hq2
            have hE : claimA s A = ((X, A.epoch, 0), A1) := by unfold claimA; rw [if_neg hf, hX, hA1]
            have hca := fun W h => claim_ls s W b m A h (by omega)
            rw [hE] at hca
            dsimp only at hca
            have HCA := Aside0.mk hca
            have HT1 := Aside0.mk (And.intro ht1 (And.intro hq1 hq2))
            clear hca hE hf hX hA1 hq1 hq2 ht1
            go_upto_region 16 with (first
              | (go_at_call 15; (with_reducible refine (HCA.out _ ?side).mono ?_); (case side => exact (by repeat (first | with_reducible exact HL.out | apply LS.alloc | apply LS.drewN | apply LS.drew))); rintro e_ w3 ⟨rfl, hs, hc0⟩; have hc : TwoB b m wr w3 := (by first | exact hc0 | exact Chg.of_drew hc0 | exact Chg.of_drewN hc0); have HL3 := Aside0.mk hs; have HB3 := Aside0.mk (below_chg HB.out hc HN.out); have HQ3 := Aside0.mk (Kd.Q_step HQ.out (fun k_ hk hlt_ => hc.block k_ hlt_ (not_two hk.1 hk.2))); have HU3 := Aside0.mk (Kd.Q_step HU.out (fun k_ hk hlt_ => hc.block k_ hlt_ (not_two hk.1 hk.2))); have hz_w3 := hc.size; have HL5 := Aside0.mk (HL3.out.alloc (.cells #[.int .u64 X, .int .u64 A.epoch] 34)); have HQ5 := Aside0.mk (Kd.Q_alloc HQ3.out (.cells #[.int .u64 X, .int .u64 A.epoch] 34)); have HU5 := Aside0.mk (Kd.Q_alloc HU3.out (.cells #[.int .u64 X, .int .u64 A.epoch] 34)); have HB5 := Aside0.mk (below_alloc HB3.out (.cells #[.int .u64 X, .int .u64 A.epoch] 34)); have BT5 := Aside0.mk (blk_new w3 [.int .u64 X, .int .u64 A.epoch] 34); clear hs hc0 hc))
            generalize hW : w3.alloc (.cells #[.int .u64 X, .int .u64 A.epoch] 34) = W5 at BT5 HL5 HQ5 HU5 HB5 ⊢
            have t0 : W5.cell? ⟨w3.heap.size, 0, none⟩ = some (.int .u64 X) := BT5.out.cell rfl
            have t1 : W5.cell? ⟨w3.heap.size, 1, none⟩ = some (.int .u64 A.epoch) := BT5.out.cell rfl
            clear hW HL3 HQ3 HU3 HB3 hz_w3
            go_wp2_with (first
              | ((with_reducible refine gate_builtin (b := .append) (xs := #[.tmp 77, .tmp 79]) rfl ?_); at_builtin; refine Kd.Q_append kTicket (w0 := w) w.heap.size rfl (.tmp 77) (.tmp 79) 45 34 (.agg #[.int .u64 0, .int .u64 0]) 16 rfl Try.underlying45 infoTicket rfl (by decide) (by omega) (.slice vo T.length cv) T (X, A.epoch) [.int .u64 X, .int .u64 A.epoch] (NotIn b m) (fun _ => False) rfl rfl ?aP (fun _ hk => hk.elim) ?aF ?aO ?aB ?aS ?aL ?_; (case aP => exact kTicket_mkM _ _ _ _); (case aF => exact (fun k_ hk => by have h1 := HL5.out.lt; have h2 := HL5.out.mlt; exact ⟨by omega, by omega⟩)); (case aO => exact HQ5.out); (case aB => exact HB5.out); (case aS => exact HB5.out.size); (case aL => have := HLen.out; omega); intro v7 w7 ho hb hg hat; have HQ7 := Aside0.mk ho; have HB7 := Aside0.mk hb; have HL7 := Aside0.mk (HL5.out.chg (chg_grown hg) (fun e_ => (HQ5.out.1 b e_.symm).1 rfl) (fun e_ => (HQ5.out.1 m e_.symm).2 rfl)); have HU7 := Aside0.mk (q_other HU5.out rfl HQ5.out (by decide) hg); clear ho hb hg hat)
              | ((with_reducible refine gate_builtin (b := .append) (xs := #[.tmp 81, .tmp 83]) rfl ?_); at_builtin; refine Kd.Q_append kSlot (w0 := w) w.heap.size rfl (.tmp 81) (.tmp 83) 46 36 (.agg #[.int .i64 0, .int .u64 0]) 16 rfl Try.underlying46 infoSlot rfl (by decide) (by omega) (.slice vu U.length cu) U (0, 0) [.int .i64 0, .int .u64 0] (NotIn b m) (fun _ => False) rfl rfl ?aP (fun _ hk => hk.elim) ?aF ?aO ?aB ?aS ?aL ?_; (case aP => exact kSlot_mkM _ _ _ _); (case aF => exact (fun k_ hk => by have h1 := HL7.out.lt; have h2 := HL7.out.mlt; exact ⟨by omega, by omega⟩)); (case aO => exact HU7.out); (case aB => exact HB7.out); (case aS => exact HB7.out.size); (case aL => have := HLen.out; omega); intro v8 w8 ho hb hg hat; have HU8 := Aside0.mk ho; have HB8 := Aside0.mk hb; have HL8 := Aside0.mk (HL7.out.chg (chg_grown hg) (fun e_ => (HU7.out.1 b e_.symm).1 rfl) (fun e_ => (HU7.out.1 m e_.symm).2 rfl)); have HQ8 := Aside0.mk (q_other HQ7.out rfl HU7.out (by decide) hg); clear ho hb hg hat))
            go_roundw
            case rel => exact ⟨k + 1, A1, by go_num, by omega, by omega, by have := HT1.out.1; omega, HL8, (by rw [HT1.out.2.1]; exact HQ8), (by rw [HT1.out.2.2]; exact HU8), HB8⟩
            case measure => simp [intOf]; omega
        · skip
          by_cases k2 : ok = 2
          · subst k2
            have x1 : wr.cell? ⟨(ad.add (k * 7)).block, (ad.add (k * 7)).off + 1, none⟩ = some (.int .u64 tq) := pw_cell_below HB.out HO.out.2.1
            have x2 : wr.cell? ⟨(ad.add (k * 7)).block, (ad.add (k * 7)).off + 2, none⟩ = some (.int .u64 te) := pw_cell_below HB.out HO.out.2.2.1
            have x3 : wr.cell? ⟨(ad.add (k * 7)).block, (ad.add (k * 7)).off + 3, none⟩ = some (.int .i64 sn) := pw_cell_below HB.out HO.out.2.2.2.1
            have x4 : wr.cell? ⟨(ad.add (k * 7)).block, (ad.add (k * 7)).off + 4, none⟩ = some (.int .u64 sg) := pw_cell_below HB.out HO.out.2.2.2.2.1
            obtain ⟨fd, hfd⟩ : ∃ fd, findA s A tq te = fd := ⟨_, rfl⟩
            cases fd with
            | none =>
              have hE := q_lay_none (s := s) (A := A) sn sg hfd
              have hca := fun W h => lay_ls s W b m A h tq te sn sg HTQ.out.1 HTQ.out.2
              rw [hE] at hca
              dsimp only at hca
              have HCA := Aside0.mk hca
              clear hca hE hfd
              go_wp2
              go_region_held3 (fun w' => w'.cell? ⟨(ad.add (k * 7)).block, (ad.add (k * 7)).off + 1, none⟩ = some (.int .u64 tq) ∧ w'.cell? ⟨(ad.add (k * 7)).block, (ad.add (k * 7)).off + 2, none⟩ = some (.int .u64 te) ∧ w'.cell? ⟨(ad.add (k * 7)).block, (ad.add (k * 7)).off + 3, none⟩ = some (.int .i64 sn) ∧ w'.cell? ⟨(ad.add (k * 7)).block, (ad.add (k * 7)).off + 4, none⟩ = some (.int .u64 sg))
                (first
                  | exact ⟨x1, x2, x3, x4⟩
                  | exact ⟨pw_cell_below HB3.out HO.out.2.1, pw_cell_below HB3.out HO.out.2.2.1, pw_cell_below HB3.out HO.out.2.2.2.1, pw_cell_below HB3.out HO.out.2.2.2.2.1⟩)
                (first
                  | (go_at_call 16; (with_reducible refine (HCA.out _ ?side).mono ?_); (case side => exact (by repeat (first | with_reducible exact HL.out | apply LS.alloc | apply LS.drewN | apply LS.drew))); rintro e_ w3 ⟨rfl, hs, hc0⟩; have hc : TwoB b m wr w3 := (by first | exact hc0 | exact Chg.of_drew hc0 | exact Chg.of_drewN hc0); have HL3 := Aside0.mk hs; have HB3 := Aside0.mk (below_chg HB.out hc HN.out); have HQ3 := Aside0.mk (Kd.Q_step HQ.out (fun k_ hk hlt_ => hc.block k_ hlt_ (not_two hk.1 hk.2))); have HU3 := Aside0.mk (Kd.Q_step HU.out (fun k_ hk hlt_ => hc.block k_ hlt_ (not_two hk.1 hk.2))); have hz_w3 := hc.size; clear hs hc0 hc))
              clear x1 x2 x3 x4
              go_wp2
              go_loopw [17] (fun v17 wr => ∃ (j : Nat), v17 = .int .i64 j ∧ j ≤ T.length ∧ Aside0 (LS s wr b m A) ∧ Aside0 (kTicket.Q 34 wr w.heap.size (NotIn b m) (.slice vo T.length cv) T) ∧ Aside0 (kSlot.Q 36 wr w.heap.size (NotIn b m) (.slice vu U.length cu) U) ∧ Aside0 (Below w.heap.size w wr)) (fun v17 _ => T.length - (intOf v17).toNat)
              case atStart => exact ⟨0, rfl, Nat.zero_le _, HL3, HQ3, HU3, HB3⟩
              case round =>
                obtain ⟨j, rfl, hj, HL4, HQ4, HU4, HB4⟩ := hrel
                by_cases hjl : j < T.length
                · go_wp2
                  go_quiet (fail)
                  go_wp2
                  go_roundw
                  case rel => exact ⟨j + 1, by go_num, by omega, ⟨HL4.out.drewN _⟩, ⟨Kd.Q_drewN HQ4.out _⟩, ⟨Kd.Q_drewN HU4.out _⟩, ⟨pw_below_drewN HB4.out _⟩⟩
                  case measure => simp [intOf]; omega
                · go_wp2
                  go_roundw
                  case rel => exact ⟨k + 1, A, by go_num, by omega, by omega, by omega, HL4, (by rw [HTU.out.1]; exact HQ4), (by rw [HTU.out.2]; exact HU4), HB4⟩
                  case measure => simp [intOf]; omega
            | some i =>
              obtain ⟨g1, g2, g3, g4, g5, g6⟩ := q_lay_some HL.out.wf sn sg HTQ.out.1 HTQ.out.2 hfd
              have ht' := lay_t s A tq te sn sg
              have hca := fun W h => lay_ls s W b m A h tq te sn sg HTQ.out.1 HTQ.out.2
              obtain ⟨⟨A1, x⟩, hx⟩ : ∃ x, layA s A tq te sn sg = x := ⟨_, rfl⟩
              rw [hx] at hca g1 g2 g3 ht'
              dsimp only at hca g1 g2 g3 ht'
              subst g1
              rw [HTU.out.1] at g2
              rw [HTU.out.2] at g3
              have hTl : T.length = A.q.length := by rw [← HTU.out.1, tickets_length]
              have hUl : U.length = A.q.length := by rw [← HTU.out.2, slotsA_length]
              have HCA := Aside0.mk hca
              have HG := Aside0.mk (And.intro g2 (And.intro g3 (And.intro g4 (And.intro g5 (And.intro g6 ht')))))
              obtain ⟨gu, ou, cu', hvu, hgu1, hgu2, -⟩ := Kd.Q_form HU.out (by omega)
              obtain ⟨rfl, rfl⟩ : vu = some ⟨gu, ou, none⟩ ∧ cu = cu' := by simpa using hvu
              have HTl := Aside0.mk (And.intro hTl hUl)
              have hi1 : i < T.length := by omega
              have hnb : NotIn b m gu := HU.out.1 gu rfl
              have HNB := Aside0.mk hnb
              clear hca hx hfd g2 g3 g4 g5 g6 ht' hTl hUl hvu hgu1 hgu2 hnb
              go_wp2
              go_region_held3 (fun w' => w'.cell? ⟨(ad.add (k * 7)).block, (ad.add (k * 7)).off + 1, none⟩ = some (.int .u64 tq) ∧ w'.cell? ⟨(ad.add (k * 7)).block, (ad.add (k * 7)).off + 2, none⟩ = some (.int .u64 te) ∧ w'.cell? ⟨(ad.add (k * 7)).block, (ad.add (k * 7)).off + 3, none⟩ = some (.int .i64 sn) ∧ w'.cell? ⟨(ad.add (k * 7)).block, (ad.add (k * 7)).off + 4, none⟩ = some (.int .u64 sg))
                (first
                  | exact ⟨x1, x2, x3, x4⟩
                  | exact ⟨pw_cell_below HB3.out HO.out.2.1, pw_cell_below HB3.out HO.out.2.2.1, pw_cell_below HB3.out HO.out.2.2.2.1, pw_cell_below HB3.out HO.out.2.2.2.2.1⟩)
                (first
                  | (go_at_call 16; (with_reducible refine (HCA.out _ ?side).mono ?_); (case side => exact (by repeat (first | with_reducible exact HL.out | apply LS.alloc | apply LS.drewN | apply LS.drew))); rintro e_ w3 ⟨rfl, hs, hc0⟩; have hc : TwoB b m wr w3 := (by first | exact hc0 | exact Chg.of_drew hc0 | exact Chg.of_drewN hc0); have HL3 := Aside0.mk hs; have HB3 := Aside0.mk (below_chg HB.out hc HN.out); have HQ3 := Aside0.mk (Kd.Q_step HQ.out (fun k_ hk hlt_ => hc.block k_ hlt_ (not_two hk.1 hk.2))); have HU3 := Aside0.mk (Kd.Q_step HU.out (fun k_ hk hlt_ => hc.block k_ hlt_ (not_two hk.1 hk.2))); have hz_w3 := hc.size; clear hs hc0 hc))
              clear x1 x2 x3 x4
              go_wp2
              go_loopw [17] (fun v17 wr => ∃ (j : Nat), v17 = .int .i64 j ∧ j ≤ T.length ∧ Aside0 (LS s wr b m A1) ∧ Aside0 (kTicket.Q 34 wr w.heap.size (NotIn b m) (.slice vo T.length cv) T) ∧ Aside0 (kSlot.Q 36 wr w.heap.size (NotIn b m) (.slice (some ⟨gu, ou, none⟩) U.length cu) (if i < j then U.set i (sn, sg) else U)) ∧ Aside0 (Below w.heap.size w wr)) (fun v17 _ => T.length - (intOf v17).toNat)
              case atStart => exact ⟨0, rfl, Nat.zero_le _, HL3, HQ3, ⟨by rw [if_neg (Nat.not_lt_zero _)]; exact HU3.out⟩, HB3⟩
              case round =>
                obtain ⟨j, rfl, hj, HL4, HQ4, HU4, HB4⟩ := hrel
                by_cases hjl : j < T.length
                · obtain ⟨vo2, cv2, hvo2, hcv2, HC2⟩ := Kd.Q_reads HQ4.out
                  obtain ⟨rfl, -⟩ : vo = vo2 ∧ cv = cv2 := by simpa using hvo2
                  obtain ⟨ad2, p, hA2, hp2, y0, y1⟩ := ticket_at HC2 hjl
                  subst hA2
                  have hp3 : p = (sq s (A.h + j), A.epoch) := by
                    have h_ := tickets_get (s := s) (A := A) (i := j) (by have := HTl.out.1; omega)
                    rw [HTU.out.1, hp2] at h_
                    exact Option.some.inj h_
                  have hpe : (p.2 == te) = true := by rw [hp3, HG.out.2.2.2.2.1]; simp
                  have hpq : (p.1 == tq) = true ↔ j = i := by rw [hp3]; exact HG.out.2.2.2.1 j (by have := HTl.out.1; omega)
                  have x1 : wr.cell? ⟨(ad.add (k * 7)).block, (ad.add (k * 7)).off + 1, none⟩ = some (.int .u64 tq) := pw_cell_below HB4.out HO.out.2.1
                  have x2 : wr.cell? ⟨(ad.add (k * 7)).block, (ad.add (k * 7)).off + 2, none⟩ = some (.int .u64 te) := pw_cell_below HB4.out HO.out.2.2.1
                  clear hvo2 hcv2 HC2 hp2 hp3
                  by_cases hij : j = i
                  · have hb1 := hpq.2 hij
                    clear hpq
                    have HU5 : kSlot.Q 36 wr w.heap.size (NotIn b m) (.slice (some ⟨gu, ou, none⟩) U.length cu) U := by have h_ := HU4.out; rw [if_neg (by omega)] at h_; exact h_
                    have hjU : j < U.length := by have := HTl.out; omega
                    obtain ⟨c_, hcl, hcM, hcc, hcf⟩ := Kd.Q_elem HU5 (0, 0) (j : Int) (by omega) (by omega)
                    obtain rfl := kSlot_openM hcM
                    rw [Int.toNat_natCast] at hcc hcf
                    have z0 := hcc 0 _ rfl
                    have z1 := hcc 1 _ rfl
                    have hsz : kSlot.sz = 2 := rfl
                    rw [hsz] at z0 z1 hcf
                    have f0 := hcf 0
                    have f1 := hcf 1
                    simp only [Nat.add_zero] at z0 f0
                    have hseg := Kd.Q_seg (okp := fun _ => False) (seg := [.int .i64 sn, .int .u64 sg]) (j := 0) (x' := (sn, sg)) HU5 (j : Int) (by omega) (by omega) hcl (by rw [Int.toNat_natCast]; exact hcc) (Nat.le_refl 2) (kSlot_mkM _ _ _ (sn, sg)) (fun _ h_ => h_.elim)
                    rw [Int.toNat_natCast, hsz] at hseg
                    simp only [Nat.add_zero, World.setCells] at hseg
                    have HSG := Aside0.mk hseg
                    have x3 : wr.cell? ⟨(ad.add (k * 7)).block, (ad.add (k * 7)).off + 3, none⟩ = some (.int .i64 sn) := pw_cell_below HB4.out HO.out.2.2.2.1
                    have x4 : wr.cell? ⟨(ad.add (k * 7)).block, (ad.add (k * 7)).off + 4, none⟩ = some (.int .u64 sg) := pw_cell_below HB4.out HO.out.2.2.2.2.1
                    have HIJ := Aside0.mk hij
                    have HU6 := Aside0.mk HU5
                    clear hcl hcM hcc hcf hseg hij HU5 hsz
                    go_wp2
                    go_quiet (fail)
                    go_wp2
                    go_roundw
                    case rel =>
                      refine ⟨j + 1, by go_num, by omega, ⟨?_⟩, ⟨?_⟩, ⟨?_⟩, ⟨?_⟩⟩
                      · exact (HL4.out.chg (chg_grown HSG.out.2) (fun e_ => HNB.out.1 (Option.some.inj e_).symm) (fun e_ => HNB.out.2 (Option.some.inj e_).symm)).drewN nq
                      · exact Kd.Q_drewN (q_other HQ4.out rfl HU6.out (by decide) HSG.out.2) nq
                      · rw [if_pos (by have := HIJ.out; omega), ← HIJ.out]; exact Kd.Q_drewN HSG.out.1 nq
                      · exact pw_below_drewN (pw_below_grown HB4.out (some gu) HB4.out.size HSG.out.2 (fun k_ e_ => by cases e_; exact Kd.Q_base HU6.out gu rfl)) nq
                    case measure => simp [intOf]; omega
                  · have hb1 : (p.1 == tq) = false := by
                      cases hb : (p.1 == tq) with
                      | false => rfl
                      | true => exact absurd (hpq.1 hb) hij
                    have HIJ := Aside0.mk hij
                    clear hpq hij
                    go_wp2
                    go_quiet (fail)
                    go_wp2
                    go_roundw
                    case rel =>
                      refine ⟨j + 1, by go_num, by omega, ⟨HL4.out.drewN _⟩, ⟨Kd.Q_drewN HQ4.out _⟩, ⟨?_⟩, ⟨pw_below_drewN HB4.out _⟩⟩
                      have h_ := Kd.Q_drewN HU4.out nq
                      have h1 := HIJ.out
                      by_cases hlt2 : i < j
                      · rw [if_pos hlt2] at h_; rw [if_pos (by omega)]; exact h_
                      · rw [if_neg hlt2] at h_; rw [if_neg (by omega)]; exact h_
                    case measure => simp [intOf]; omega
                · have hji : i < j := by omega
                  have HJI := Aside0.mk hji
                  clear hji
                  go_wp2
                  go_roundw
                  case rel => exact ⟨k + 1, A1, by go_num, by omega, by omega, by have := HG.out.2.2.2.2.2; omega, HL4, (by rw [HG.out.1]; exact HQ4), (by rw [HG.out.2.1]; have h_ := HU4.out; rw [if_pos HJI.out] at h_; exact ⟨h_⟩), HB4⟩
                  case measure => simp [intOf]; omega
          · skip
            by_cases k6 : ok = 6
            · subst k6
              by_cases hf : A.h = A.r
              · have hE : takeA s A = ((0, 0, 0, 0, 82), A) := by unfold takeA; rw [if_pos hf]
                have hca := fun W h => take_ls s W b m A h
                rw [hE] at hca
                dsimp only at hca
                have HCA := Aside0.mk hca
                clear hca hE hf
                go_wp2_with (first | (go_at_call 17; (with_reducible refine (HCA.out _ ?side).mono ?_); (case side => exact (by repeat (first | with_reducible exact HL.out | apply LS.alloc | apply LS.drewN | apply LS.drew))); rintro e_ w3 ⟨rfl, hs, hc0⟩; have hc : TwoB b m wr w3 := (by first | exact hc0 | exact Chg.of_drew hc0 | exact Chg.of_drewN hc0); have HL3 := Aside0.mk hs; have HB3 := Aside0.mk (below_chg HB.out hc HN.out); have HQ3 := Aside0.mk (Kd.Q_step HQ.out (fun k_ hk hlt_ => hc.block k_ hlt_ (not_two hk.1 hk.2))); have HU3 := Aside0.mk (Kd.Q_step HU.out (fun k_ hk hlt_ => hc.block k_ hlt_ (not_two hk.1 hk.2))); have hz_w3 := hc.size; clear hs hc0 hc))
                go_roundw
                case rel => exact ⟨k + 1, A, by go_num, by omega, by omega, by omega, ⟨((HL3.out.alloc _).alloc _)⟩, (by rw [HTU.out.1]; exact ⟨(Kd.Q_alloc (Kd.Q_alloc HQ3.out _) _)⟩), (by rw [HTU.out.2]; exact ⟨(Kd.Q_alloc (Kd.Q_alloc HU3.out _) _)⟩), ⟨(below_alloc (below_alloc HB3.out _) _)⟩⟩
                case measure => simp [intOf]; omega
              · obtain ⟨en, q', A1, hE, hT, hU, ht1⟩ := q_take HL.out.wf hf
                rw [HTU.out.1] at hT
                rw [HTU.out.2] at hU
                obtain ⟨X, hX⟩ : ∃ X, sq s A.h = X := ⟨_, rfl⟩
                rw [hX] at hE hT
                have hca := fun W h => take_ls s W b m A h
                rw [hE] at hca
                dsimp only at hca
                have HCA := Aside0.mk hca
                have hT1 : 0 < T.length := by rw [hT]; simp
                have hU1 : 0 < U.length := by rw [hU]; simp
                have hTd : T.drop 1 = tickets s A1 := by rw [hT]; rfl
                have hUd : U.drop 1 = slotsA A1 := by rw [hU]; rfl
                obtain ⟨gt, ot, ct', hvt, -, -, -⟩ := Kd.Q_form HQ.out hT1
                obtain ⟨rfl, rfl⟩ : vo = some ⟨gt, ot, none⟩ ∧ cv = ct' := by simpa using hvt
                obtain ⟨gu, ou, cu', hvu, -, -, -⟩ := Kd.Q_form HU.out hU1
                obtain ⟨rfl, rfl⟩ : vu = some ⟨gu, ou, none⟩ ∧ cu = cu' := by simpa using hvu
                have hTx : T[0]? = some (X, A.epoch) := by rw [hT]; rfl
                have hUx : U[0]? = some (en.n, en.gen) := by rw [hU]; rfl
                have HT1 := Aside0.mk (And.intro ht1 (And.intro hTd (And.intro hUd (And.intro hTx hUx))))
                have cvl := (Kd.Q_reads' HQ.out).2.1
                have cul := (Kd.Q_reads' HU.out).2.1
                have HCL := Aside0.mk (And.intro cvl cul)
                have HT0 := Aside0.mk (And.intro hT1 hU1)
                clear hca hE hf hT hU hX ht1 hTd hUd hTx hUx hvt hvu cvl cul hT1 hU1
                go_upto_region 26 with (first
                  | (go_at_call 17; (with_reducible refine (HCA.out _ ?side).mono ?_); (case side => exact (by repeat (first | with_reducible exact HL.out | apply LS.alloc | apply LS.drewN | apply LS.drew))); rintro e_ w3 ⟨rfl, hs, hc0⟩; have hc : TwoB b m wr w3 := (by first | exact hc0 | exact Chg.of_drew hc0 | exact Chg.of_drewN hc0); have HL3 := Aside0.mk hs; have HB3 := Aside0.mk (below_chg HB.out hc HN.out); have HQ3 := Aside0.mk (Kd.Q_step HQ.out (fun k_ hk hlt_ => hc.block k_ hlt_ (not_two hk.1 hk.2))); have HU3 := Aside0.mk (Kd.Q_step HU.out (fun k_ hk hlt_ => hc.block k_ hlt_ (not_two hk.1 hk.2))); have hz_w3 := hc.size; have HL5 := Aside0.mk ((HL3.out.alloc (.cells #[.int .i64 en.n, .int .u64 en.gen] 36)).alloc (.cells #[.int .u64 X, .int .u64 A.epoch] 34)); have HQ5 := Aside0.mk (Kd.Q_alloc (Kd.Q_alloc HQ3.out (.cells #[.int .i64 en.n, .int .u64 en.gen] 36)) (.cells #[.int .u64 X, .int .u64 A.epoch] 34)); have HU5 := Aside0.mk (Kd.Q_alloc (Kd.Q_alloc HU3.out (.cells #[.int .i64 en.n, .int .u64 en.gen] 36)) (.cells #[.int .u64 X, .int .u64 A.epoch] 34)); have HB5 := Aside0.mk (below_alloc (below_alloc HB3.out (.cells #[.int .i64 en.n, .int .u64 en.gen] 36)) (.cells #[.int .u64 X, .int .u64 A.epoch] 34)); have BT5 := Aside0.mk ((blk_new w3 [.int .i64 en.n, .int .u64 en.gen] 36).alloc (.cells #[.int .u64 X, .int .u64 A.epoch] 34)); have BU5 := Aside0.mk (blk_new1 w3 (.cells #[.int .i64 en.n, .int .u64 en.gen] 36) [.int .u64 X, .int .u64 A.epoch] 34); clear hs hc0 hc))
                generalize hW : (w3.alloc (.cells #[.int .i64 en.n, .int .u64 en.gen] 36)).alloc (.cells #[.int .u64 X, .int .u64 A.epoch] 34) = W5 at BT5 BU5 HL5 HQ5 HU5 HB5 ⊢
                have t0 : W5.cell? ⟨w3.heap.size, 0, none⟩ = some (.int .i64 en.n) := BT5.out.cell rfl
                have t1 : W5.cell? ⟨w3.heap.size, 1, none⟩ = some (.int .u64 en.gen) := BT5.out.cell rfl
                have s0 : W5.cell? ⟨w3.heap.size + 1, 0, none⟩ = some (.int .u64 X) := BU5.out.cell rfl
                have s1 : W5.cell? ⟨w3.heap.size + 1, 1, none⟩ = some (.int .u64 A.epoch) := BU5.out.cell rfl
                have p0 : W5.cell? ⟨gt, ot, none⟩ = some (.int .u64 X) ∧ W5.cell? ⟨gt, ot + 1, none⟩ = some (.int .u64 A.epoch) := by
                  obtain ⟨c_, hcl, hcM, hcc, -⟩ := Kd.Q_elem HQ5.out (0, 0) 0 (by omega) (by have := HT0.out.1; omega)
                  have e_ : T.getD (0 : Int).toNat (0, 0) = (X, A.epoch) := by rw [List.getD_eq_getElem?_getD]; show (T[0]?).getD _ = _; rw [HT1.out.2.2.2.1]; rfl
                  rw [e_] at hcM
                  obtain rfl := kTicket_openM hcM
                  exact ⟨by simpa using hcc 0 _ rfl, by simpa using hcc 1 _ rfl⟩
                have r0 : W5.cell? ⟨gu, ou, none⟩ = some (.int .i64 en.n) ∧ W5.cell? ⟨gu, ou + 1, none⟩ = some (.int .u64 en.gen) := by
                  obtain ⟨c_, hcl, hcM, hcc, -⟩ := Kd.Q_elem HU5.out (0, 0) 0 (by omega) (by have := HT0.out.2; omega)
                  have e_ : U.getD (0 : Int).toNat (0, 0) = (en.n, en.gen) := by rw [List.getD_eq_getElem?_getD]; show (U[0]?).getD _ = _; rw [HT1.out.2.2.2.2]; rfl
                  rw [e_] at hcM
                  obtain rfl := kSlot_openM hcM
                  exact ⟨by simpa using hcc 0 _ rfl, by simpa using hcc 1 _ rfl⟩
                obtain ⟨p0, p1⟩ := p0
                obtain ⟨r0, r1⟩ := r0
                have HQd := Kd.Q_drop HQ5.out (k := 1) HT0.out.1
                have HUd := Kd.Q_drop HU5.out (k := 1) HT0.out.2
                rw [HT1.out.2.1] at HQd
                rw [HT1.out.2.2.1] at HUd
                obtain ⟨V1, hV1⟩ : ∃ V, Value.slice (if cv = 1 then some ⟨gt, ot, none⟩ else (some (⟨gt, ot, none⟩ : Addr)).map (·.add (1 * kTicket.sz))) (T.length - 1) (cv - 1) = V := ⟨_, rfl⟩
                obtain ⟨V2, hV2⟩ : ∃ V, Value.slice (if cu = 1 then some ⟨gu, ou, none⟩ else (some (⟨gu, ou, none⟩ : Addr)).map (·.add (1 * kSlot.sz))) (U.length - 1) (cu - 1) = V := ⟨_, rfl⟩
                have hs1 := fun W => cut1 W T.length cv (some ⟨gt, ot, none⟩) HT0.out.1
                have hs2 := fun W => cut2 W U.length cu (some ⟨gu, ou, none⟩) HT0.out.2
                rw [hV1] at HQd hs1
                rw [hV2] at HUd hs2
                have HQe := Aside0.mk HQd
                have HUe := Aside0.mk HUd
                have n0 : ((T.length : Int) == 0) = false := by have := HT0.out.1; rw [beq_eq_false_iff_ne]; omega
                have n1 : (T.length == 0) = false := by have := HT0.out.1; rw [beq_eq_false_iff_ne]; omega
                have n2 : 0 < T.length := HT0.out.1
                have n3 : 0 < U.length := HT0.out.2
                clear hW HQd HUd hV1 hV2 HL3 HQ3 HU3 HB3 hz_w3
                go_wp2
                go_quiet (fail)
                go_wp2
                go_quiet (fail)
                go_wp2
                go_roundw
                case rel => exact ⟨k + 1, A1, by go_num, by omega, by omega, by have := HT1.out.1; omega, ⟨by repeat (first | with_reducible exact HL5.out | apply LS.drewN | apply LS.drew)⟩, ⟨by repeat (first | with_reducible exact HQe.out | apply Kd.Q_drewN | apply Kd.Q_drew)⟩, ⟨by repeat (first | with_reducible exact HUe.out | apply Kd.Q_drewN | apply Kd.Q_drew)⟩, ⟨by repeat (first | with_reducible exact HB5.out | apply pw_below_drewN | apply below_drew)⟩⟩
                case measure => simp [intOf]; omega
            · skip
              by_cases k8 : ok = 8
              · subst k8
                by_cases hr : A.r = A.t
                · have hca := fun W h => reset_yes_ls s W b m A h hr
                  have HCA := Aside0.mk hca
                  clear hca
                  go_wp2_with (first | (go_at_call 18; (with_reducible refine (HCA.out _ ?side).mono ?_); (case side => exact (by repeat (first | with_reducible exact HL.out | apply LS.alloc | apply LS.drewN | apply LS.drew))); rintro e_ w3 ⟨gg, rfl, -, -, hs, hc0⟩; have hc : TwoB b m wr w3 := (by first | exact hc0 | exact Chg.of_drew hc0 | exact Chg.of_drewN hc0); have HL3 := Aside0.mk hs; have HB3 := Aside0.mk (below_chg HB.out hc HN.out); have HQ3 := Aside0.mk (Kd.Q_step HQ.out (fun k_ hk hlt_ => hc.block k_ hlt_ (not_two hk.1 hk.2))); have HU3 := Aside0.mk (Kd.Q_step HU.out (fun k_ hk hlt_ => hc.block k_ hlt_ (not_two hk.1 hk.2))); have hz_w3 := hc.size; clear hs hc0 hc))
                  go_roundw
                  case rel => exact ⟨k + 1, resetA A, by go_num, by omega, by omega, by show A.t ≤ k + 1; omega, HL3, ⟨Kd.Q_nil _ _ _ _ _⟩, ⟨Kd.Q_nil _ _ _ _ _⟩, HB3⟩
                  case measure => simp [intOf]; omega
                · have hca := fun W h => reset_no_ls s W b m A h hr
                  have HCA := Aside0.mk hca
                  clear hca
                  go_wp2_with (first | (go_at_call 18; (with_reducible refine (HCA.out _ ?side).mono ?_); (case side => exact (by repeat (first | with_reducible exact HL.out | apply LS.alloc | apply LS.drewN | apply LS.drew))); rintro e_ w3 ⟨rfl, hs, hc0⟩; have hc : TwoB b m wr w3 := (by first | exact hc0 | exact Chg.of_drew hc0 | exact Chg.of_drewN hc0); have HL3 := Aside0.mk hs; have HB3 := Aside0.mk (below_chg HB.out hc HN.out); have HQ3 := Aside0.mk (Kd.Q_step HQ.out (fun k_ hk hlt_ => hc.block k_ hlt_ (not_two hk.1 hk.2))); have HU3 := Aside0.mk (Kd.Q_step HU.out (fun k_ hk hlt_ => hc.block k_ hlt_ (not_two hk.1 hk.2))); have hz_w3 := hc.size; clear hs hc0 hc))
                  go_roundw
                  case rel => exact ⟨k + 1, A, by go_num, by omega, by omega, by omega, HL3, (by rw [HTU.out.1]; exact HQ3), (by rw [HTU.out.2]; exact HU3), HB3⟩
                  case measure => simp [intOf]; omega
              · skip
                by_cases k7 : ok = 7
                · subst k7
                  have x1 : wr.cell? ⟨(ad.add (k * 7)).block, (ad.add (k * 7)).off + 1, none⟩ = some (.int .u64 tq) := pw_cell_below HB.out HO.out.2.1
                  have x2 : wr.cell? ⟨(ad.add (k * 7)).block, (ad.add (k * 7)).off + 2, none⟩ = some (.int .u64 te) := pw_cell_below HB.out HO.out.2.2.1
                  have HCA := Aside0.mk (fun W h => retire_ls s W b m A h tq te)
                  have HCn := Aside0.mk (q_retire (s := s) (A := A) tq te)
                  go_wp2_with (first | (go_at_call 19; (with_reducible refine (HCA.out _ ?side).mono ?_); (case side => exact (by repeat (first | with_reducible exact HL.out | apply LS.alloc | apply LS.drewN | apply LS.drew))); rintro e_ w3 ⟨rfl, hs, hc0⟩; have hc : TwoB b m wr w3 := (by first | exact hc0 | exact Chg.of_drew hc0 | exact Chg.of_drewN hc0); have HL3 := Aside0.mk hs; have HB3 := Aside0.mk (below_chg HB.out hc HN.out); have HQ3 := Aside0.mk (Kd.Q_step HQ.out (fun k_ hk hlt_ => hc.block k_ hlt_ (not_two hk.1 hk.2))); have HU3 := Aside0.mk (Kd.Q_step HU.out (fun k_ hk hlt_ => hc.block k_ hlt_ (not_two hk.1 hk.2))); have hz_w3 := hc.size; clear hs hc0 hc))
                  go_roundw
                  case rel => exact ⟨k + 1, (retireA s A tq te).2, by go_num, by omega, by omega, by rw [retire_t]; omega, HL3, (by rw [HCn.out.1, HTU.out.1]; exact HQ3), (by rw [HCn.out.2, HTU.out.2]; exact HU3), HB3⟩
                  case measure => simp [intOf]; omega
                · skip
                  have x1 : wr.cell? ⟨(ad.add (k * 7)).block, (ad.add (k * 7)).off + 1, none⟩ = some (.int .u64 tq) := pw_cell_below HB.out HO.out.2.1
                  have x2 : wr.cell? ⟨(ad.add (k * 7)).block, (ad.add (k * 7)).off + 2, none⟩ = some (.int .u64 te) := pw_cell_below HB.out HO.out.2.2.1
                  have x5 : wr.cell? ⟨(ad.add (k * 7)).block, (ad.add (k * 7)).off + 5, none⟩ = some (.int .i64 at1) := pw_cell_below HB.out HO.out.2.2.2.2.2.1
                  have x6 : wr.cell? ⟨(ad.add (k * 7)).block, (ad.add (k * 7)).off + 6, none⟩ = some (.int .i64 at2) := pw_cell_below HB.out HO.out.2.2.2.2.2.2
                  have HCA := Aside0.mk (fun W h => publish_ls s W b m A h tq te at1 at2 HTQ.out.1 HTQ.out.2)
                  have HCn := Aside0.mk (q_pub (s := s) (A := A) tq te at1 at2)
                  go_wp2
                  go_region_held3 (fun w' => w'.cell? ⟨(ad.add (k * 7)).block, (ad.add (k * 7)).off + 1, none⟩ = some (.int .u64 tq) ∧ w'.cell? ⟨(ad.add (k * 7)).block, (ad.add (k * 7)).off + 2, none⟩ = some (.int .u64 te) ∧ w'.cell? ⟨(ad.add (k * 7)).block, (ad.add (k * 7)).off + 5, none⟩ = some (.int .i64 at1) ∧ w'.cell? ⟨(ad.add (k * 7)).block, (ad.add (k * 7)).off + 6, none⟩ = some (.int .i64 at2))
                    (first
                      | exact ⟨x1, x2, x5, x6⟩
                      | exact ⟨pw_cell_below HB3.out HO.out.2.1, pw_cell_below HB3.out HO.out.2.2.1, pw_cell_below HB3.out HO.out.2.2.2.2.2.1, pw_cell_below HB3.out HO.out.2.2.2.2.2.2⟩)
                    (first
                      | (go_at_call 20; (with_reducible refine (HCA.out _ ?side).mono ?_); (case side => exact (by repeat (first | with_reducible exact HL.out | apply LS.alloc | apply LS.drewN | apply LS.drew))); rintro e_ w3 ⟨rfl, hs, hc0⟩; have hc : TwoB b m wr w3 := (by first | exact hc0 | exact Chg.of_drew hc0 | exact Chg.of_drewN hc0); have HL3 := Aside0.mk hs; have HB3 := Aside0.mk (below_chg HB.out hc HN.out); have HQ3 := Aside0.mk (Kd.Q_step HQ.out (fun k_ hk hlt_ => hc.block k_ hlt_ (not_two hk.1 hk.2))); have HU3 := Aside0.mk (Kd.Q_step HU.out (fun k_ hk hlt_ => hc.block k_ hlt_ (not_two hk.1 hk.2))); have hz_w3 := hc.size; clear hs hc0 hc))
                  go_wp2
                  go_roundw
                  case rel => exact ⟨k + 1, (pubA s A tq te at1 at2).1, by go_num, by omega, by omega, by rw [pub_t]; omega, HL3, (by rw [HCn.out.1, HTU.out.1]; exact HQ3), (by rw [HCn.out.2, HTU.out.2]; exact HU3), HB3⟩
                  case measure => simp [intOf]; omega
      · go_wp2
        go_ret
        exact ⟨rfl, HB.out⟩
    · by_cases hlt : k < xs.length
      · go_wp2
        go_ret
        exact ⟨rfl, HB.out⟩
      · go_wp2
        go_ret
        exact ⟨rfl, HB.out⟩
end Go.Proofs.Ytekjhfhlbkcklaa.L

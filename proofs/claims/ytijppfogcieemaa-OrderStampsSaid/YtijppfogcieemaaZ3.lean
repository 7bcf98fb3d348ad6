import Derived.Test.YtijppfogcieemaaZ2
import Derived.Deep.DrawnRows
namespace Go.Proofs.Ytijppfogcieemaa.Z
open Go.RowKit Go.Shelf Go.Lib Go.Sort
open Go.Proofs.YtijppfogcieemaaW.PrintWords Go.Proofs.YtijppfogcieemaaW.PrintLast Go.Proofs.YtijppfogcieemaaW.PrintMore
open Go.Proofs.Ytijppfogcieemaa.PA
attribute [local go_sem high] eqA24 eqA31
attribute [local go_sem ↓] Go.wp_at_zero Go.wp_at_succ

/-- The place where an element goes. -/
def placeOf (p : S24) : List S24 → Nat
  | [] => 0
  | x :: l => if ltS x p then placeOf p l + 1 else 0
def insS (out : List S24) (p : S24) : List S24 := let k := placeOf p out; if k = out.length ∨ out[k]? ≠ some p then out.take k ++ [p] ++ out.drop k else out
def refSorted (xs : List S24) : List S24 := xs.foldl insS []
theorem placeOf_le (p : S24) : ∀ l, placeOf p l ≤ l.length
  | [] => Nat.le_refl _
  | x :: l => by
    have := placeOf_le p l
    simp only [placeOf]
    split <;> simp <;> omega
theorem placeOf_lt (p : S24) : ∀ (l : List S24) k x, k < placeOf p l → l[k]? = some x → ltS x p = true
  | [], k, x, h, _ => by simp [placeOf] at h
  | y :: l, 0, x, h, e => by
    simp only [placeOf] at h
    split at h
    · rename_i hl
      obtain rfl : y = x := by simpa using e
      exact hl
    · omega
  | y :: l, k + 1, x, h, e => by
    simp only [placeOf] at h
    split at h
    · exact placeOf_lt p l k x (by omega) (by simpa using e)
    · omega
theorem placeOf_at (p : S24) : ∀ (l : List S24) x, l[placeOf p l]? = some x → ltS x p = false
  | [], x, h => by simp at h
  | y :: l, x, h => by
    simp only [placeOf] at h
    split at h
    · exact placeOf_at p l x (by simpa using h)
    · rename_i hl
      obtain rfl : y = x := by simpa using h
      simpa using hl
theorem placeOf_gt (p : S24) (l : List S24) (k : Nat) (x : S24) (hk : k ≤ placeOf p l) (e : l[k]? = some x) (h : ltS x p = true) : k + 1 ≤ placeOf p l := by
  rcases Nat.lt_or_ge k (placeOf p l) with h1 | h1
  · exact h1
  · obtain rfl : k = placeOf p l := by omega
    rw [placeOf_at p l x e] at h; simp at h
theorem placeOf_eq (p : S24) (l : List S24) (k : Nat) (x : S24) (hk : k ≤ placeOf p l) (e : l[k]? = some x) (h : ltS x p = false) : k = placeOf p l := by
  rcases Nat.lt_or_ge k (placeOf p l) with h1 | h1
  · rw [placeOf_lt p l k x h1 e] at h; simp at h
  · omega
theorem insS_len (out : List S24) (p : S24) : (insS out p).length ≤ out.length + 1 := by
  unfold insS; simp only; split
  · simp; have := placeOf_le p out; omega
  · omega

theorem take_run (A : Option Addr) (n c m : Nat) (hm : m ≤ n) (hc : n ≤ c) (W : World) : (Instr.slice 22 (.slice A n c) none (some (.int .i64 m)) none).run Try.prog W = .ok (.slice A m c) W := by
  have ha : (A.map fun x => x.add 0) = A := by cases A <;> simp [Addr.add]
  have hel : Try.prog.elem 22 = 24 := by simp [Program.elem, Try.underlying22]
  have hu : Try.prog.underlying 22 = some (.slice (Try.prog.elem 22)) := by rw [hel]; exact Try.underlying22
  rw [run_slice_h W 22 A n c hu .i64 m (by omega) (by omega), hel]
  simp [Try.sizeOf24, sliced, Result.andThen, ha]
theorem drop_run (A : Option Addr) (n c m : Nat) (hm : m ≤ n) (W : World) : (Instr.slice 22 (.slice A n c) (some (.int .i64 m)) none none).run Try.prog W = .ok (.slice (if c = m then A else A.map (·.add (m * 2))) (n - m) (c - m)) W := by
  have hel : Try.prog.elem 22 = 24 := by simp [Program.elem, Try.underlying22]
  have hu : Try.prog.underlying 22 = some (.slice (Try.prog.elem 22)) := by rw [hel]; exact Try.underlying22
  rw [run_slice_l W 22 A n c hu .i64 m (by omega) (by omega), hel]
  simp [Try.sizeOf24, sliced, Result.andThen]
theorem R_zero {W : World} {base g : Nat} (h : W.heap[g]? = some (.cells #[] 24 (0, 0))) (hg : base ≤ g) : Kd.R k24 24 W base (fun _ => True) (.slice (some ⟨g, 0, none⟩) 0 0) [] :=
  ⟨fun _ _ => trivial, [], ⟨rfl, .inr ⟨g, 0, #[], rfl, hg, h, Nat.le_refl _, by simp [maxLen], rfl, rfl⟩⟩, Reps.none _ _⟩
theorem R_one {W : World} {g : Nat} {p : S24} {fr : Nat × Nat} (h : W.heap[g]? = some (.cells #[.int .i64 p.f0, .int .i64 p.f1] 24 fr)) : Kd.C k24 W (some ⟨g, 0, none⟩) 1 [p] := by
  refine ⟨rfl, by omega, fun _ => ⟨_, rfl, fun j q hq => ?_⟩⟩
  obtain ⟨rfl, rfl⟩ : j = 0 ∧ p = q := by
    rcases j with _ | j
    · exact ⟨rfl, by simpa using hq⟩
    · simp at hq
  refine ⟨enc2 p, rfl, k24_mk W p, fun i u hu => ?_⟩
  have ha : ∀ k, Addr.add ⟨g, 0, none⟩ k = ⟨g, k, none⟩ := fun k => by unfold Addr.add; split <;> simp_all
  rw [ha]
  match i, hu with
  | 0, hu => rw [← (show _ = u by simpa [enc2] using hu)]; simp [World.cell?, h]
  | 1, hu => rw [← (show _ = u by simpa [enc2] using hu)]; simp [World.cell?, h]
  | i + 2, hu => simp [enc2] at hu
theorem k24_KM {W : World} {base : Nat} (x : S24) (cs : List Value) (h : k24.K W x cs) : k24.M W base (fun _ => False) x cs := by
  rw [k24_open h]; exact k24_mkM _ _ _ x
theorem cmp_lt (q p : S24) : decide (cmp2 (q.f0, q.f1) (p.f0, p.f1) < 0) = ltS q p := congrFun (congrFun lt_eq q) p
set_option maxHeartbeats 4000000 in
set_option maxRecDepth 100000 in
theorem ref_sorted (A : Option Addr) (c : Nat) (xs : List S24) (w : World) (hr : Kd.C k24 w A xs.length xs) (hc : xs.length ≤ c) (hn : xs.length ≤ 1000) :
    Calls Try.prog 8 #[.slice A xs.length c] w fun e w' => ∃ v, e = .returned v ∧ Kd.R k24 24 w' w.heap.size (fun _ => True) v (refSorted xs) ∧ Go.RowKit.Below w.heap.size w w' := by
  have HR := Aside0.mk hr
  have HB := Aside0.mk (Go.RowKit.Below.refl w.heap.size w)
  clear hr
  go_enter Try.func8, Try.ntmps8
  go_wp2
  go_loopw [3, 4, 5] (fun v i _ wr => ∃ k : Nat, k ≤ xs.length ∧ i = .int .i64 k ∧ Aside0 ((refSorted (xs.take k)).length ≤ k) ∧ Aside0 (Kd.R k24 24 wr w.heap.size (fun _ => True) v (refSorted (xs.take k))) ∧ Aside0 (Go.RowKit.Below w.heap.size w wr)) (fun _ i _ _ => xs.length - (intOf i).toNat)
  case atStart => exact ⟨0, Nat.zero_le _, rfl, ⟨by simp [refSorted]⟩, ⟨Kd.R_nil _ _ _ _ _⟩, HB⟩
  case round =>
    obtain ⟨i, hi, rfl, HL, HO, HB'⟩ := hrel
    by_cases hlt : i < xs.length
    · have hlt' : (i : Int) < (xs.length : Int) := by omega
      obtain ⟨ad, e, x0, x1⟩ := at_T24 HR.out (i : Int) (by omega) (by omega)
      cases e
      obtain ⟨p, hp⟩ : ∃ p : S24, rd_T24 xs (i : Int) = p := ⟨_, rfl⟩
      have hsnoc : refSorted (xs.take (i + 1)) = insS (refSorted (xs.take i)) p := by
        rw [← hp, rd_T24, Int.toNat_natCast, List.take_succ_eq_append_getElem hlt, List.getD_eq_getElem?_getD, List.getElem?_eq_getElem hlt, refSorted, List.foldl_append]; rfl
      rw [hp] at x0 x1
      simp only [Int.toNat_natCast] at x0 x1
      have X := Aside0.mk (And.intro x0 x1)
      have HS := Aside0.mk hsnoc
      clear hsnoc hp x0 x1
      generalize hout : refSorted (xs.take i) = out at HS HL HO
      have hol : out.length ≤ 1000 := by have := HL.out; omega
      go_upto_block 2 with fail
      go_cut [5] (fun v5 wc => v5 = .int .i64 (placeOf p out) ∧ Aside0 (Kd.R k24 24 wc w.heap.size (fun _ => True) u3 out) ∧ Aside0 (Go.RowKit.Below w.heap.size w wc))
      case first =>
        go_wp2_with fail
        go_loopw [5] (fun kv wq => ∃ k : Nat, k ≤ placeOf p out ∧ kv = .int .i64 k ∧ Aside0 (Kd.R k24 24 wq w.heap.size (fun _ => True) u3 out) ∧ Aside0 (Go.RowKit.Below w.heap.size w wq)) (fun kv _ => out.length - (intOf kv).toNat)
        case atStart => exact ⟨0, Nat.zero_le _, rfl, HO, HB'⟩
        case round =>
          obtain ⟨k, hk, rfl, HO2, HB2⟩ := hrel
          obtain ⟨x0, x1⟩ := X.out
          replace x0 := (HB2.out.cell (World.block_lt_of_cell? w _ x0)).trans x0
          replace x1 := (HB2.out.cell (World.block_lt_of_cell? w _ x1)).trans x1
          obtain ⟨A3, c3, e3, hc3, HC3⟩ := Kd.R_reads HO2.out
          subst e3
          have hpl := placeOf_le p out
          by_cases hko : k < out.length
          · obtain ⟨ad3, e3, y0, y1⟩ := at_T24 HC3 (k : Int) (by omega) (by omega)
            cases e3
            obtain ⟨q, hq⟩ : ∃ q : S24, rd_T24 out (k : Int) = q := ⟨_, rfl⟩
            have hq' : out[k]? = some q := by rw [← hq, rd_T24, Int.toNat_natCast, List.getD_eq_getElem?_getD, List.getElem?_eq_getElem hko]; rfl
            rw [hq] at y0 y1
            simp only [Int.toNat_natCast] at y0 y1
            have HC3' := Aside0.mk HC3
            have HQ := Aside0.mk hq'
            clear HC3 hq hq'
            have hkoi : (k : Int) < (out.length : Int) := by omega
            have hlq := cmp_lt q p
            have h5 := fun W => ref_compare_b (q.f0, q.f1) (p.f0, p.f1) W
            generalize cmp2 (q.f0, q.f1) (p.f0, p.f1) = r at h5 hlq
            have H5 := Aside0.mk h5
            clear h5
            by_cases hqp : ltS q p
            · have hr : r < 0 := by rw [hqp] at hlq; simpa using hlq
              clear hlq
              go_wp2_with fail
              go_region_held3 (fun w' => w'.cell? (ad3.add (k * 2)) = some (.int .i64 q.f0) ∧ w'.cell? ⟨(ad3.add (k * 2)).block, (ad3.add (k * 2)).off + 1, none⟩ = some (.int .i64 q.f1) ∧ w'.cell? (ad.add (i * 2)) = some (.int .i64 p.f0) ∧ w'.cell? ⟨(ad.add (i * 2)).block, (ad.add (i * 2)).off + 1, none⟩ = some (.int .i64 p.f1)) (first | go_keep | (go_split_ands; refine ⟨?_, ?_, ?_, ?_⟩ <;> (exact pw_cell_below hb5 (by go_simp))))
                (first | (go_at_call 5; refine (H5.out _).mono ?_; rintro e w' ⟨rfl, hb5⟩))
              go_wp2
              exact ⟨⟨k + 1, placeOf_gt p out k q hk HQ.out hqp, by go_num, ⟨Kd.R_below HO2.out ⟨hb5.os, hb5.tape, hb5.output, hb5.size, hb5.block⟩⟩, ⟨HB2.out.trans ⟨hb5.os, hb5.tape, hb5.output, hb5.size, (hb5.mono HB2.out.size).block⟩⟩⟩, by simp [intOf]; omega⟩
            · have hr : ¬ r < 0 := by rw [Bool.eq_false_iff.2 hqp] at hlq; simpa using hlq
              clear hlq
              go_wp2_with fail
              go_region_held3 (fun w' => w'.cell? (ad3.add (k * 2)) = some (.int .i64 q.f0) ∧ w'.cell? ⟨(ad3.add (k * 2)).block, (ad3.add (k * 2)).off + 1, none⟩ = some (.int .i64 q.f1) ∧ w'.cell? (ad.add (i * 2)) = some (.int .i64 p.f0) ∧ w'.cell? ⟨(ad.add (i * 2)).block, (ad.add (i * 2)).off + 1, none⟩ = some (.int .i64 p.f1)) (first | go_keep | (go_split_ands; refine ⟨?_, ?_, ?_, ?_⟩ <;> (exact pw_cell_below hb5 (by go_simp))))
                (first | (go_at_call 5; refine (H5.out _).mono ?_; rintro e w' ⟨rfl, hb5⟩))
              go_wp2
              go_meet
              case rel => exact ⟨by rw [placeOf_eq p out k q hk HQ.out (Bool.eq_false_iff.2 hqp)], ⟨Kd.R_below HO2.out ⟨hb5.os, hb5.tape, hb5.output, hb5.size, hb5.block⟩⟩, ⟨HB2.out.trans ⟨hb5.os, hb5.tape, hb5.output, hb5.size, (hb5.mono HB2.out.size).block⟩⟩⟩
          · have hkl : k = out.length := by omega
            subst hkl
            have hpe : placeOf p out = out.length := by omega
            have HC3' := Aside0.mk HC3
            clear HC3
            go_wp2_with fail
            go_region
            go_wp2
            go_meet
            case rel => exact ⟨by rw [hpe], ⟨HO2.out⟩, ⟨HB2.out.drew⟩⟩
      case rest =>
        obtain ⟨rfl, HO2, HB2⟩ := hcut
        have hpl := placeOf_le p out
        obtain ⟨kp, hkp⟩ : ∃ kp, placeOf p out = kp := ⟨_, rfl⟩
        rw [hkp] at hpl ⊢
        obtain ⟨b, hb⟩ : ∃ b : Bool, b = decide (kp = out.length ∨ out[kp]? ≠ some p) := ⟨_, rfl⟩
        go_upto_region 8 with fail
        go_cut [44] (fun v44 wc => v44 = .bool b ∧ Aside0 (Kd.R k24 24 wc w.heap.size (fun _ => True) u3 out) ∧ Aside0 (Go.RowKit.Below w.heap.size w wc))
        case first =>
          obtain ⟨A3, c3, e3, hc3, HC3⟩ := Kd.R_reads HO2.out
          subst e3
          by_cases hko : kp < out.length
          · obtain ⟨x0, x1⟩ := X.out
            replace x0 := (HB2.out.cell (World.block_lt_of_cell? w _ x0)).trans x0
            replace x1 := (HB2.out.cell (World.block_lt_of_cell? w _ x1)).trans x1
            obtain ⟨ad3, e3, y0, y1⟩ := at_T24 HC3 (kp : Int) (by omega) (by omega)
            cases e3
            obtain ⟨q, hq⟩ : ∃ q : S24, rd_T24 out (kp : Int) = q := ⟨_, rfl⟩
            have hq' : out[kp]? = some q := by rw [← hq, rd_T24, Int.toNat_natCast, List.getD_eq_getElem?_getD, List.getElem?_eq_getElem hko]; rfl
            have hb' : b = (q.f0 != p.f0 || q.f1 != p.f1) := by
              rw [hb, hq']
              by_cases hqp : q = p
              · subst hqp; simp; omega
              · have h1 : ¬ (q.f0 = p.f0 ∧ q.f1 = p.f1) := fun h => hqp (by cases q; cases p; simp at h; rw [h.1, h.2])
                by_cases h2 : q.f0 = p.f0
                · have h3 : q.f1 ≠ p.f1 := fun h => h1 ⟨h2, h⟩
                  simp [hqp, h2, h3]
                · simp [hqp, h2]
            rw [hq] at y0 y1
            simp only [Int.toNat_natCast] at y0 y1
            have HC3' := Aside0.mk HC3
            clear HC3 hq hq' hb
            have hkoi : (kp : Int) < (out.length : Int) := by omega
            have hne : ((kp : Int) == (out.length : Int)) = false := by simp; omega
            go_wp2_with fail
            go_quiet (fail)
            go_wp2
            go_meet
            case rel => exact ⟨by rw [hb']; simp only [hne, Bool.false_or, bne], ⟨HO2.out⟩, ⟨⟨HB2.out.os, HB2.out.tape, HB2.out.output, HB2.out.size, HB2.out.block⟩⟩⟩
          · have hkl : kp = out.length := by omega
            subst hkl
            have HC3' := Aside0.mk HC3
            have hb' : b = true := by rw [hb]; simp
            clear HC3
            go_wp2_with fail
            go_quiet (fail)
            go_wp2
            go_meet
            case rel => exact ⟨by rw [hb'], ⟨HO2.out⟩, ⟨⟨HB2.out.os, HB2.out.tape, HB2.out.output, HB2.out.size, HB2.out.block⟩⟩⟩
        case rest =>
          clear HO2 HB2
          obtain ⟨rfl, HO2, HB2⟩ := hcut
          have hins : insS out p = if b then out.take kp ++ [p] ++ out.drop kp else out := by unfold insS; rw [hkp, hb]; simp only [decide_eq_true_eq]
          have HI := Aside0.mk hins
          clear hins
          clear hb
          cases b with
          | false =>
            go_wp2
            go_roundw
            case rel => exact ⟨i + 1, by omega, by go_num, ⟨by rw [HS.out, HI.out]; have := HL.out; simpa using by omega⟩, ⟨by rw [HS.out, HI.out]; exact HO2.out⟩, HB2⟩
            case measure => simp [intOf]; omega
          | true =>
            replace HI : Aside0 (insS out p = out.take kp ++ [p] ++ out.drop kp) := ⟨by simpa using HI.out⟩
            obtain ⟨x0, x1⟩ := X.out
            replace x0 := (HB2.out.cell (World.block_lt_of_cell? w _ x0)).trans x0
            replace x1 := (HB2.out.cell (World.block_lt_of_cell? w _ x1)).trans x1
            obtain ⟨A3, c3, e3, hc3, HC3⟩ := Kd.R_reads HO2.out
            subst e3
            have HT : ∀ W, Bel wc.heap.size wc W → Kd.C k24 W A3 kp (out.take kp) := fun W hW => by
              have h1 := Kd.C_take (Kd.C_below HC3 hW) hpl
              rwa [List.length_take, Nat.min_eq_left hpl] at h1
            have hcut1 := take_run A3 out.length c3 kp hpl hc3
            have hcut2 := drop_run A3 out.length c3 kp hpl
            obtain ⟨A4, hA4⟩ : ∃ A4, (if c3 = kp then A3 else A3.map (·.add (kp * 2))) = A4 := ⟨_, rfl⟩
            have HD : ∀ W, Bel wc.heap.size wc W → Kd.C k24 W A4 (out.length - kp) (out.drop kp) := fun W hW => by
              have h1 := Kd.C_drop (Kd.C_below HC3 hW) hpl hc3
              rw [List.length_drop, show k24.sz = 2 from rfl, hA4] at h1
              exact h1
            rw [hA4] at hcut2
            have XS : ∀ W, Bel wc.heap.size wc W → W.cell? (ad.add (i * 2)) = some (.int .i64 p.f0) ∧ W.cell? ⟨(ad.add (i * 2)).block, (ad.add (i * 2)).off + 1, none⟩ = some (.int .i64 p.f1) := fun W hW =>
              ⟨(hW.cell (World.block_lt_of_cell? wc _ x0)).trans x0, (hW.cell (World.block_lt_of_cell? wc _ x1)).trans x1⟩
            replace HT := Aside0.mk HT
            replace HD := Aside0.mk HD
            replace XS := Aside0.mk XS
            clear hA4 HC3
            go_wp2_with fail
            go_region_held3 (fun w' => w'.cell? (ad.add (i * 2)) = some (.int .i64 p.f0) ∧ w'.cell? ⟨(ad.add (i * 2)).block, (ad.add (i * 2)).off + 1, none⟩ = some (.int .i64 p.f1)) (exact XS.out _ (by repeat (first | exact hb3 | exact hb2 | exact hb1 | exact Go.RowKit.Below.refl _ _ | apply Go.RowKit.Below.drew | apply below_alloc)))
                (first
                  | (refine Kd.R_append_rows_step k24 (w0 := wc) wc.heap.size (by rfl) (.tmp 45) (.tmp 48) 22 24 (.agg #[.int .i64 0, .int .i64 0]) 16 rfl Try.underlying22 info24 (by rfl) (by decide) (by omega) _ [] (out.take kp) A3 kp c3 (fun _ => True) (fun _ => False) (by rfl) (by rfl)
                      (R_zero (by first | exact heap_alloc_new wc _ | exact (Go.RowKit.Below.heap_alloc (wc.alloc (.cells #[] 24)).drew _ _ (by simp)).trans (heap_alloc_new wc _) | (rw [show wc.heap.size + 1 = (wc.alloc (.cells #[.int .i64 p.f0, .int .i64 p.f1] 24)).heap.size by simp]; exact heap_alloc_new (wc.alloc (.cells #[.int .i64 p.f0, .int .i64 p.f1] 24)) _)) (by simp)) (HT.out _ (by repeat (first | exact hb2 | exact hb1 | exact Go.RowKit.Below.refl _ _ | apply Go.RowKit.Below.drew | apply below_alloc))) k24_KM (fun _ h => h.elim) (fun _ _ => trivial) (by repeat (first | exact hb2 | exact hb1 | exact Go.RowKit.Below.refl _ _ | apply Go.RowKit.Below.drew | apply below_alloc)) (Go.RowKit.Below.size (B := wc.heap.size) (w := wc) (by repeat (first | exact hb2 | exact hb1 | exact Go.RowKit.Below.refl _ _ | apply Go.RowKit.Below.drew | apply below_alloc))) (by simp; omega) ?_; intro v1 w1 ho1 hb1 hg1 hat1)
                  | (refine Kd.R_append_rows_step k24 (w0 := wc) wc.heap.size (by rfl) (.tmp 49) (.tmp 54) 22 24 (.agg #[.int .i64 0, .int .i64 0]) 16 rfl Try.underlying22 info24 (by rfl) (by decide) (by omega) _ ([] ++ out.take kp) [p] _ 1 1 (fun _ => True) (fun _ => False) (by rfl) (by rfl)
                      (Kd.R_below ho1 (by repeat (first | exact Go.RowKit.Below.refl _ _ | apply Go.RowKit.Below.drew | apply below_alloc)))
                      (R_one (by first | exact heap_alloc_new w1 _ | exact (hg1.block _ (by first | (simp; done) | (simp; omega)) (by simp [Value.ownBlock])).trans (heap_alloc_new wc _) | exact (hg1.block _ (by first | (simp; done) | (simp; omega)) (by simp [Value.ownBlock])).trans ((Go.RowKit.Below.heap_alloc (wc.alloc (.cells #[.int .i64 p.f0, .int .i64 p.f1] 24)).drew _ _ (by simp)).trans (heap_alloc_new wc _)) | (refine (hg1.block _ (by first | (simp; done) | (simp; omega)) (by simp [Value.ownBlock])).trans ?_; rw [show wc.heap.size + 1 = (wc.alloc (.cells #[] 24)).heap.size by simp]; exact heap_alloc_new (wc.alloc (.cells #[] 24)) _))) k24_KM (fun _ h => h.elim) (fun _ _ => trivial) (by repeat (first | exact hb2 | exact hb1 | exact Go.RowKit.Below.refl _ _ | apply Go.RowKit.Below.drew | apply below_alloc)) (Go.RowKit.Below.size (B := wc.heap.size) (w := wc) (by repeat (first | exact hb2 | exact hb1 | exact Go.RowKit.Below.refl _ _ | apply Go.RowKit.Below.drew | apply below_alloc))) (by simp; omega) ?_; intro v2 w2 ho2 hb2 hg2 hat2)
                  | (refine Kd.R_append_rows_step k24 (w0 := wc) wc.heap.size (by rfl) (.tmp 55) (.tmp 58) 22 24 (.agg #[.int .i64 0, .int .i64 0]) 16 rfl Try.underlying22 info24 (by rfl) (by decide) (by omega) _ ([] ++ out.take kp ++ [p]) (out.drop kp) A4 (out.length - kp) (c3 - kp) (fun _ => True) (fun _ => False) (by rfl) (by rfl)
                      (Kd.R_below ho2 (by repeat (first | exact Go.RowKit.Below.refl _ _ | apply Go.RowKit.Below.drew | apply below_alloc)))
                      (HD.out _ (by repeat (first | exact hb2 | exact hb1 | exact Go.RowKit.Below.refl _ _ | apply Go.RowKit.Below.drew | apply below_alloc))) k24_KM (fun _ h => h.elim) (fun _ _ => trivial) (by repeat (first | exact hb2 | exact hb1 | exact Go.RowKit.Below.refl _ _ | apply Go.RowKit.Below.drew | apply below_alloc)) (Go.RowKit.Below.size (B := wc.heap.size) (w := wc) (by repeat (first | exact hb2 | exact hb1 | exact Go.RowKit.Below.refl _ _ | apply Go.RowKit.Below.drew | apply below_alloc))) (by simp; omega) ?_; intro v3 w3 ho3 hb3 hg3 hat3))
            all_goals go_wp2
            all_goals exact ⟨⟨i + 1, by omega, by go_num, ⟨by rw [HS.out]; have h1 := HL.out; have h2 := insS_len out p; omega⟩, ⟨by rw [HS.out, HI.out]; simpa using Kd.R_lower ho3 HB2.out.size⟩, ⟨HB2.out.trans (hb3.mono HB2.out.size)⟩⟩, by simp [intOf]; omega⟩
    · have : i = xs.length := by omega
      subst this
      rw [List.take_length] at HO
      go_wp2
      go_ret
      exact ⟨_, rfl, HO.out, HB'.out⟩
end Go.Proofs.Ytijppfogcieemaa.Z

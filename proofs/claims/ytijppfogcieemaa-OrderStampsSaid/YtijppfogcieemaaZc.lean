import Derived.Test.YtijppfogcieemaaZ0
namespace Go.Proofs.Ytijppfogcieemaa.Z
open Go.RowKit Go.Shelf Go.Lib Go.Sort
open Go.Proofs.YtijppfogcieemaaW.PrintWords Go.Proofs.YtijppfogcieemaaW.PrintLast Go.Proofs.YtijppfogcieemaaW.PrintMore
open Go.Proofs.Ytijppfogcieemaa.PA
attribute [local go_sem high] eqA24 eqA31

def Sub (g : Nat) (w w' : World) : Prop := w.heap.size ≤ w'.heap.size ∧ ∀ B a, Bel B a w → B ≤ w.heap.size → B ≤ g → Bel B a w'
theorem Sub.refl (g : Nat) (w : World) : Sub g w w := ⟨Nat.le_refl _, fun _ _ h _ _ => h⟩
theorem Sub.drewN {g : Nat} {w w' : World} (h : Sub g w w') (n : Nat) : Sub g w (w'.drewN n) := ⟨h.1, fun B a x y z => let k := h.2 B a x y z; ⟨k.os, k.tape, k.output, k.size, k.block⟩⟩
theorem Sub.setCell {g : Nat} {w w' : World} (h : Sub g w w') (o : Nat) (v : Value) : Sub g w (w'.setCell ⟨g, o, none⟩ v) := ⟨by simpa using h.1, fun B a x y z => (h.2 B a x y z).setCell z v⟩
theorem Sub.setCells {g : Nat} {w w' : World} (h : Sub g w w') (o : Nat) (vs : List Value) : Sub g w (w'.setCells g o vs) := by
  refine ⟨?_, fun B a x y z => below_setCells z vs o _ (h.2 B a x y z)⟩
  exact Nat.le_trans h.1 (below_setCells (B := 0) (Nat.zero_le _) vs o _ (Go.RowKit.Below.refl 0 w')).size

set_option maxHeartbeats 4000000 in
set_option maxRecDepth 100000 in
theorem compact_calls (g cap : Nat) (d : Array S24) (w : World) (hH : HoldsK enc2 2 w g 0 d) (hcap : d.size ≤ cap) (hsz : d.size ≤ 1000) :
    Calls Try.prog 12 #[.slice (some ⟨g, 0, none⟩) d.size cap] w fun e w' => e = .returned (.slice (some ⟨g, 0, none⟩) (compactUpTo d d.size).length cap) ∧ Sub g w w' ∧
      ∀ j x, (compactUpTo d d.size)[j]? = some x → w'.cell? ⟨g, j * 2, none⟩ = some (.int .i64 x.f0) ∧ w'.cell? ⟨g, j * 2 + 1, none⟩ = some (.int .i64 x.f1) := by
  have HS : Aside0 (∀ wr, HoldsK enc2 2 wr g 0 d → (∀ j, j < d.size → keeps d j = true) → (compactUpTo d d.size).length = d.size ∧ ∀ j x, (compactUpTo d d.size)[j]? = some x → wr.cell? ⟨g, j * 2, none⟩ = some (.int .i64 x.f0) ∧ wr.cell? ⟨g, j * 2 + 1, none⟩ = some (.int .i64 x.f1)) := ⟨by
    intro wr h hall
    rw [compactUpTo_all d _ hall, range_map_get]
    refine ⟨by simp, fun j x hx => ?_⟩
    have hj : j < d.size := by have := (List.getElem?_eq_some_iff.1 hx).1; simpa using this
    have e : d[j]! = x := by rw [getElem!_pos d j hj]; simpa [hj] using hx
    rw [← e]
    exact ⟨(holds_c0 h hj).1, (holds_c1 h hj).1⟩⟩
  by_cases h2 : d.size < 2
  · have HH := Aside0.mk hH
    clear hH
    go_enter Try.func12, Try.ntmps12
    go_wp2
    go_ret
    obtain ⟨e1, e2⟩ := HS.out w HH.out (fun j hj => keeps_lt_one d j (by omega))
    exact ⟨by rw [e1]; rfl, Sub.refl _ _, e2⟩
  · have HH := Aside0.mk hH
    clear hH
    go_enter Try.func12, Try.ntmps12
    go_wp2
    go_loopg [3] d.size (fun gg s3 wr => ∃ k q : Nat, 1 ≤ k ∧ k ≤ d.size ∧ d.size - k ≤ gg ∧ s3 = .int .i64 k ∧ wr = w.drewN q ∧ ∀ j, j < k → keeps d j = true)
    case atStart => exact ⟨1, 0, Nat.le_refl _, by omega, by omega, rfl, rfl, keeps_lt_one d⟩
    case round =>
      obtain ⟨k, q, hk1, hk, hg, rfl, rfl, hall⟩ := hrel
      by_cases hlt : k < d.size
      · have A := Aside0.mk hall
        clear hall
        obtain ⟨c0, -⟩ := holds_c0 HH.out hlt
        obtain ⟨c1, -⟩ := holds_c1 HH.out hlt
        obtain ⟨p0, -⟩ := holds_c0 HH.out (i := k - 1) (by omega)
        obtain ⟨p1, -⟩ := holds_c1 HH.out (i := k - 1) (by omega)
        generalize hx : d[k]! = x at c0 c1
        generalize hy : d[k - 1]! = y at p0 p1
        have B := Aside0.mk (And.intro hx hy)
        clear hx hy
        have ek : ((k : Int) - 1).toNat = k - 1 := by omega
        by_cases hdup : x = y
        · subst hdup
          have hb : (x.f0 == x.f0 && (x.f1 == x.f1)) = true := by simp
          go_wp2_with fail
          go_quiet (fail)
          go_wp2
          clear c0 c1 p0 p1
          go_loopg [3, 5] d.size (fun gg s3 s5 wr => ∃ (kk k2 : Nat) (dk : Array S24), s3 = .int .i64 kk ∧ s5 = .int .i64 k2 ∧ 1 ≤ k2 ∧ k + k2 ≤ d.size ∧ d.size - (k + k2) ≤ gg ∧ Aside0 (Sub g w wr) ∧ Aside0 (HoldsK enc2 2 wr g 0 dk) ∧ CompInv d (k + k2) kk dk)
          case atStart => exact ⟨k, 1, d, rfl, rfl, Nat.le_refl _, by omega, by omega, ⟨(Sub.refl g w).drewN _⟩, ⟨HH.out⟩, CompInv.start A.out (keeps_neg (by omega) (by rw [B.out.1, B.out.2]))⟩
          case round =>
            obtain ⟨kk, k2, dk, rfl, rfl, h1, hle, hg2, hS, hHk, hI⟩ := hrel
            have hkk := hI.lt
            have hds := hI.size
            have I2 := Aside0.mk hI
            clear hI
            by_cases hlt2 : k + k2 < d.size
            · obtain ⟨cm0, -⟩ := holds_c0 hHk.out (i := k + k2) (by omega)
              obtain ⟨cm1, -⟩ := holds_c1 hHk.out (i := k + k2) (by omega)
              obtain ⟨cp0, -⟩ := holds_c0 hHk.out (i := k + k2 - 1) (by omega)
              obtain ⟨cp1, -⟩ := holds_c1 hHk.out (i := k + k2 - 1) (by omega)
              obtain ⟨ck0, fk0⟩ := holds_c0 hHk.out (i := kk) (by omega)
              obtain ⟨ck1, fk1⟩ := holds_c1 hHk.out (i := kk) (by omega)
              rw [I2.out.high (k + k2) (by omega)] at cm0 cm1
              rw [I2.out.high (k + k2 - 1) (by omega)] at cp0 cp1
              rw [show (k + k2) * 2 = k * 2 + k2 * 2 by omega] at cm0 cm1
              rw [show (k + k2 - 1) * 2 = k * 2 + (k2 - 1) * 2 by omega] at cp0 cp1
              have ek2 : ((k2 : Int) - 1).toNat = k2 - 1 := by omega
              generalize hu : d[k + k2]! = u at cm0 cm1
              generalize hv : d[k + k2 - 1]! = v at cp0 cp1
              generalize dk[kk]! = old at ck0 ck1
              have C := Aside0.mk (And.intro hu hv)
              clear hu hv
              by_cases huv : u = v
              · subst huv
                have hb2 : (u.f0 == u.f0 && (u.f1 == u.f1)) = true := by simp
                go_wp2_with fail
                go_quiet (fail)
                go_wp2
                go_roundg (d.size - (k + (k2 + 1)))
                case measure => omega
                case rel => exact ⟨kk, k2 + 1, dk, rfl, by go_num, by omega, by omega, Nat.le_refl _, ⟨hS.out.drewN _⟩, ⟨hHk.out⟩, I2.out.skip (keeps_neg (by omega) (by rw [C.out.1, C.out.2]))⟩
              · have hb2 : (u.f0 != v.f0 || (u.f1 != v.f1)) = true := by
                  cases u; cases v; simp at huv ⊢; omega
                have hb3 : (u.f0 == v.f0 && (u.f1 == v.f1)) = false := by
                  cases u; cases v; simp at huv ⊢; omega
                go_wp2_with fail
                go_quiet (fail)
                go_wp2
                go_roundg (d.size - (k + (k2 + 1)))
                case measure => omega
                case rel => exact ⟨kk + 1, k2 + 1, dk.setIfInBounds kk u, by go_num, by go_num, by omega, by omega, Nat.le_refl _, ⟨((hS.out.drewN _).setCell _ _).setCell _ _⟩, ⟨holds_set (holdsK_ahead enc2 2 wr _ g 0 dk hHk.out) (by omega) u⟩, by have := I2.out.keep hlt2 (keeps_pos (by rw [C.out.1, C.out.2]; exact huv)); rwa [C.out.1] at this⟩
            · have hend : k + k2 = d.size := by omega
              have hcl : ∀ ty, (Builtin.clear_ #[33] ty #[.slice (some ⟨g, kk * 2, none⟩) (d.size - kk) (cap - kk)]).run Try.prog wr = .ok (.tuple #[]) (wr.setCells g (kk * 2) (Builtin.zeroCells #[.int .i64 0, .int .i64 0] (d.size - kk)).toList) := by
                intro ty
                have hst := run_storeCells_cells (P := Try.prog) g (kk * 2) (Builtin.zeroCells #[.int .i64 0, .int .i64 0] (d.size - kk)).toList 0 wr
                  (by
                    intro j hj
                    have hj' : j < 2 * (d.size - kk) := by simpa [Builtin.zeroCells, Nat.mul_comm] using hj
                    have := (hHk.out (kk * 2 + j) (by simp; omega)).1
                    simp only [Nat.zero_add] at this
                    rw [Nat.add_zero, this]; rfl)
                  (by
                    intro j hj
                    have hj' : j < 2 * (d.size - kk) := by simpa [Builtin.zeroCells, Nat.mul_comm] using hj
                    have := (hHk.out (kk * 2 + j) (by simp; omega)).2
                    simpa only [Nat.zero_add, Nat.add_zero] using this)
                  (by
                    intro v hv
                    simp [Builtin.zeroCells] at hv
                    obtain ⟨i, _, rfl⟩ := hv
                    rcases Nat.mod_two_eq_zero_or_one i with h | h <;> simp [h, Value.oneCell'])
                obtain ⟨m, hm⟩ : ∃ m, d.size - kk = m + 1 := ⟨d.size - kk - 1, by omega⟩
                rw [hm] at hst ⊢
                simp only [Nat.add_zero] at hst
                have hz2 : (Value.agg #[.int .i64 0, .int .i64 0]).cells = #[.int .i64 0, .int .i64 0] := by simp [Value.cells]
                simp [Builtin.clear_, run_underlying Try.underlying33, hz2, hst]
              have hI := I2.out
              rw [hend] at hI
              go_wp2
              go_ret
              refine ⟨by rw [hI.len]; rfl, hS.out.setCells _ _, fun j x hx => ?_⟩
              have hj : j < kk := by have := (List.getElem?_eq_some_iff.1 hx).1; rwa [hI.len] at this
              have e1 := hI.low j hj
              rw [hx] at e1
              obtain rfl : x = dk[j]! := by simpa using e1
              exact holds_tail hHk.out (by omega) _ j hj
        · have hb : (x.f0 == y.f0 && (x.f1 == y.f1)) = false := by
            cases x; cases y; simp at hdup ⊢; omega
          go_wp2_with fail
          go_quiet (fail)
          go_wp2
          go_roundg (d.size - (k + 1))
          case measure => omega
          case rel =>
            refine ⟨k + 1, _, by omega, by omega, Nat.le_refl _, by go_num, rfl, fun j hj => ?_⟩
            by_cases e : j = k
            · subst e
              exact keeps_pos (by rw [B.out.1, B.out.2]; exact hdup)
            · exact A.out j (by omega)
      · have : k = d.size := by omega
        subst this
        go_wp2
        go_ret
        obtain ⟨e1, e2⟩ := HS.out _ (holdsK_ahead enc2 2 w q g 0 d HH.out) hall
        exact ⟨by rw [e1]; rfl, (Sub.refl g w).drewN q, e2⟩
end Go.Proofs.Ytijppfogcieemaa.Z

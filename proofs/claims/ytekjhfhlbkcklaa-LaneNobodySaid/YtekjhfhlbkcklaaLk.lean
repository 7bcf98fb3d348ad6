/-
  A lane that nobody made: nil, or all nought: every method refuses.
-/
import Derived.Test.YtekjhfhlbkcklaaLj
namespace Go.Proofs.Ytekjhfhlbkcklaa.L
open Go.RowKit Go.Proofs.Ytekjhfhlbkcklaa.K Go.Proofs.Ytekjhfhlbkcklaa.PA Go.Proofs.YtekjhfhlbkcklaaW.PrintWords

/-- No lane, or one of no credit. -/
def Bad (w : World) (v : Value) : Prop := v = .pointer none ∨ ∃ b, v = .pointer (some ⟨b, 0, none⟩) ∧ w.cell? ⟨b, 0, none⟩ = some (.int .i64 0)
theorem Bad.below {w w1 : World} {v : Value} (h : Bad w v) (hb : Below w.heap.size w w1) : Bad w1 v := by
  rcases h with rfl | ⟨b, rfl, hc⟩
  · exact .inl rfl
  · exact .inr ⟨b, rfl, pw_cell_below hb hc⟩
theorem Bad.alloc {w : World} {v : Value} (h : Bad w v) (o : Obj) : Bad (w.alloc o) v := h.below (below_alloc (Below.refl _ _) o)
theorem Bad.drewN {w : World} {v : Value} (h : Bad w v) (n : Nat) : Bad (w.drewN n) v := h
theorem Bad.drew {w : World} {v : Value} (h : Bad w v) : Bad w.drew v := h
theorem is_bad (w : World) (v : Value) (h : Bad w v) : Calls Try.prog 34 #[v] w fun e w' => e = .returned (.bool false) ∧ w' = w := by
  rcases h with rfl | ⟨b, rfl, hc⟩
  · exact is_nil w
  · go_enter Try.func34, Try.ntmps34
    go_wp2
    go_ret
    exact ⟨rfl, rfl⟩
set_option maxHeartbeats 1000000 in
set_option maxRecDepth 100000 in
theorem claimm_bad (w : World) (v : Value) (h : Bad w v) :
    Calls Try.prog 15 #[v] w fun e_ w' => e_ = .returned (.tuple #[.agg #[.int .u64 0, .int .u64 0], .int .i64 4]) ∧ Below w.heap.size w w' := by
  have HBAD := Aside0.mk h
  have hu := Try.underlying34
  clear h
  go_enter Try.func15, Try.ntmps15
  go_wp2_with (first | (go_at_call 34; refine (is_bad _ v ?side).mono ?_; (case side => exact (by repeat (first | with_reducible exact HBAD.out | apply Bad.alloc | apply Bad.drewN | apply Bad.drew))); rintro e_ w' ⟨rfl, rfl⟩))
  refine bodyPost_ret (v := .tuple #[.agg #[.int .u64 0, .int .u64 0], .int .i64 4]) (by simp [results, Try.results15, go_sem]) rfl ⟨rfl, (by repeat (first | (with_reducible exact Below.refl _ _) | refine Below.setCell ?_ (by simp) _ | apply pw_below_drewN | apply below_drew | apply below_alloc))⟩
set_option maxHeartbeats 1000000 in
set_option maxRecDepth 100000 in
theorem lay_bad (w : World) (v : Value) (seq ep n g : Int) (h : Bad w v) :
    Calls Try.prog 16 #[v, .agg #[.int .u64 seq, .int .u64 ep], .agg #[.int .i64 n, .int .u64 g]] w fun e_ w' => e_ = .returned (.int .i64 4) ∧ Below w.heap.size w w' := by
  have HBAD := Aside0.mk h
  have hu := Try.underlying34
  clear h
  go_enter Try.func16, Try.ntmps16
  go_wp2_with (first | (go_at_call 34; refine (is_bad _ v ?side).mono ?_; (case side => exact (by repeat (first | with_reducible exact HBAD.out | apply Bad.alloc | apply Bad.drewN | apply Bad.drew))); rintro e_ w' ⟨rfl, rfl⟩))
  refine bodyPost_ret (v := .int .i64 4) (by simp [results, Try.results16, go_sem]) rfl ⟨rfl, (by repeat (first | (with_reducible exact Below.refl _ _) | refine Below.setCell ?_ (by simp) _ | apply pw_below_drewN | apply below_drew | apply below_alloc))⟩
set_option maxHeartbeats 1000000 in
set_option maxRecDepth 100000 in
theorem ready_bad (w : World) (v : Value) (seq ep : Int) (h : Bad w v) :
    Calls Try.prog 21 #[v, .agg #[.int .u64 seq, .int .u64 ep]] w fun e_ w' => e_ = .returned (.bool false) ∧ Below w.heap.size w w' := by
  have HBAD := Aside0.mk h
  have hu := Try.underlying34
  clear h
  go_enter Try.func21, Try.ntmps21
  go_wp2_with (first | (go_at_call 34; refine (is_bad _ v ?side).mono ?_; (case side => exact (by repeat (first | with_reducible exact HBAD.out | apply Bad.alloc | apply Bad.drewN | apply Bad.drew))); rintro e_ w' ⟨rfl, rfl⟩))
  refine bodyPost_ret (v := .bool false) (by simp [results, Try.results21, go_sem]) rfl ⟨rfl, (by repeat (first | (with_reducible exact Below.refl _ _) | refine Below.setCell ?_ (by simp) _ | apply pw_below_drewN | apply below_drew | apply below_alloc))⟩
set_option maxHeartbeats 1000000 in
set_option maxRecDepth 100000 in
theorem publish_bad (w : World) (v : Value) (seq ep t s : Int) (h : Bad w v) :
    Calls Try.prog 20 #[v, .agg #[.int .u64 seq, .int .u64 ep], .agg #[.int .i64 t, .int .i64 s]] w fun e_ w' => e_ = .returned (.int .i64 4) ∧ Below w.heap.size w w' := by
  have HBAD := Aside0.mk h
  have hu := Try.underlying34
  clear h
  go_enter Try.func20, Try.ntmps20
  go_wp2_with (first | (go_at_call 34; refine (is_bad _ v ?side).mono ?_; (case side => exact (by repeat (first | with_reducible exact HBAD.out | apply Bad.alloc | apply Bad.drewN | apply Bad.drew))); rintro e_ w' ⟨rfl, rfl⟩))
  refine bodyPost_ret (v := .int .i64 4) (by simp [results, Try.results20, go_sem]) rfl ⟨rfl, (by repeat (first | (with_reducible exact Below.refl _ _) | refine Below.setCell ?_ (by simp) _ | apply pw_below_drewN | apply below_drew | apply below_alloc))⟩
set_option maxHeartbeats 1000000 in
set_option maxRecDepth 100000 in
theorem first_bad (w : World) (v : Value) (h : Bad w v) :
    Calls Try.prog 23 #[v] w fun e_ w' => e_ = .returned (.tuple #[.agg #[.int .i64 0, .int .i64 0], .agg #[.int .u64 0, .int .u64 0], .bool false]) ∧ Below w.heap.size w w' := by
  have HBAD := Aside0.mk h
  have hu := Try.underlying34
  clear h
  go_enter Try.func23, Try.ntmps23
  go_wp2
  go_quiet (first | (go_at_call 34; refine Calls.quiet_of_same (is_bad _ v ?side); (case side => exact (by repeat (first | with_reducible exact HBAD.out | apply Bad.alloc | apply Bad.drewN | apply Bad.drew)))))
  go_wp2
  refine bodyPost_ret (v := .tuple #[.agg #[.int .i64 0, .int .i64 0], .agg #[.int .u64 0, .int .u64 0], .bool false]) (by simp [results, Try.results23, go_sem]) rfl ⟨rfl, (by repeat (first | (with_reducible exact Below.refl _ _) | refine Below.setCell ?_ (by simp) _ | apply pw_below_drewN | apply below_drew | apply below_alloc))⟩
set_option maxHeartbeats 1000000 in
set_option maxRecDepth 100000 in
theorem take_bad (w : World) (v : Value) (h : Bad w v) :
    Calls Try.prog 17 #[v] w fun e_ w' => e_ = .returned (.tuple #[.agg #[.int .i64 0, .int .u64 0], .agg #[.int .u64 0, .int .u64 0], .int .i64 4]) ∧ Below w.heap.size w w' := by
  have HBAD := Aside0.mk h
  have hu := Try.underlying34
  clear h
  go_enter Try.func17, Try.ntmps17
  go_wp2_with (first | (go_at_call 34; refine (is_bad _ v ?side).mono ?_; (case side => exact (by repeat (first | with_reducible exact HBAD.out | apply Bad.alloc | apply Bad.drewN | apply Bad.drew))); rintro e_ w' ⟨rfl, rfl⟩))
  refine bodyPost_ret (v := .tuple #[.agg #[.int .i64 0, .int .u64 0], .agg #[.int .u64 0, .int .u64 0], .int .i64 4]) (by simp [results, Try.results17, go_sem]) rfl ⟨rfl, (by repeat (first | (with_reducible exact Below.refl _ _) | refine Below.setCell ?_ (by simp) _ | apply pw_below_drewN | apply below_drew | apply below_alloc))⟩
set_option maxHeartbeats 1000000 in
set_option maxRecDepth 100000 in
theorem retire_bad (w : World) (v : Value) (seq ep : Int) (h : Bad w v) :
    Calls Try.prog 19 #[v, .agg #[.int .u64 seq, .int .u64 ep]] w fun e_ w' => e_ = .returned (.tuple #[.agg #[.int .i64 0, .int .u64 0], .bool false, .int .i64 4]) ∧ Below w.heap.size w w' := by
  have HBAD := Aside0.mk h
  have hu := Try.underlying34
  clear h
  go_enter Try.func19, Try.ntmps19
  go_wp2_with (first | (go_at_call 34; refine (is_bad _ v ?side).mono ?_; (case side => exact (by repeat (first | with_reducible exact HBAD.out | apply Bad.alloc | apply Bad.drewN | apply Bad.drew))); rintro e_ w' ⟨rfl, rfl⟩))
  refine bodyPost_ret (v := .tuple #[.agg #[.int .i64 0, .int .u64 0], .bool false, .int .i64 4]) (by simp [results, Try.results19, go_sem]) rfl ⟨rfl, (by repeat (first | (with_reducible exact Below.refl _ _) | refine Below.setCell ?_ (by simp) _ | apply pw_below_drewN | apply below_drew | apply below_alloc))⟩
set_option maxHeartbeats 1000000 in
set_option maxRecDepth 100000 in
theorem reset_bad (w : World) (v : Value) (h : Bad w v) :
    Calls Try.prog 18 #[v] w fun e_ w' => e_ = .returned (.tuple #[.slice none 0 0, .int .i64 4]) ∧ Below w.heap.size w w' := by
  have HBAD := Aside0.mk h
  rcases h with rfl | ⟨b, rfl, hc⟩
  all_goals go_enter Try.func18, Try.ntmps18
  · go_wp2_with (first | (go_at_call 34; refine (is_bad _ (.pointer none) ?side).mono ?_; (case side => exact (by repeat (first | with_reducible exact HBAD.out | apply Bad.alloc | apply Bad.drewN | apply Bad.drew))); rintro e_ w' ⟨rfl, rfl⟩))
    refine bodyPost_ret (v := .tuple #[.slice none 0 0, .int .i64 4]) (by simp [results, Try.results18, go_sem]) rfl ⟨rfl, (by repeat (first | (with_reducible exact Below.refl _ _) | refine Below.setCell ?_ (by simp) _ | apply pw_below_drewN | apply below_drew | apply below_alloc))⟩
  · go_wp2_with (first | (go_at_call 34; refine (is_bad _ (.pointer (some ⟨b, 0, none⟩)) ?side).mono ?_; (case side => exact (by repeat (first | with_reducible exact HBAD.out | apply Bad.alloc | apply Bad.drewN | apply Bad.drew))); rintro e_ w' ⟨rfl, rfl⟩))
    refine bodyPost_ret (v := .tuple #[.slice none 0 0, .int .i64 4]) (by simp [results, Try.results18, go_sem]) rfl ⟨rfl, (by repeat (first | (with_reducible exact Below.refl _ _) | refine Below.setCell ?_ (by simp) _ | apply pw_below_drewN | apply below_drew | apply below_alloc))⟩
set_option maxHeartbeats 1000000 in
set_option maxRecDepth 100000 in
theorem state_bad (w : World) (v : Value) (h : Bad w v) :
    Calls Try.prog 13 #[v] w fun e_ w' => e_ = .returned (.agg #[.int .i64 0, .int .i64 0, .int .i64 0, .int .i64 0, .int .i64 0, .int .u64 0]) ∧ Below w.heap.size w w' := by
  have HBAD := Aside0.mk h
  have hu := Try.underlying34
  clear h
  go_enter Try.func13, Try.ntmps13
  go_wp2_with (first | (go_at_call 34; refine (is_bad _ v ?side).mono ?_; (case side => exact (by repeat (first | with_reducible exact HBAD.out | apply Bad.alloc | apply Bad.drewN | apply Bad.drew))); rintro e_ w' ⟨rfl, rfl⟩))
  refine bodyPost_ret (v := .agg #[.int .i64 0, .int .i64 0, .int .i64 0, .int .i64 0, .int .i64 0, .int .u64 0]) (by simp [results, Try.results13, go_sem]) rfl ⟨rfl, (by repeat (first | (with_reducible exact Below.refl _ _) | refine Below.setCell ?_ (by simp) _ | apply pw_below_drewN | apply below_drew | apply below_alloc))⟩
end Go.Proofs.Ytekjhfhlbkcklaa.L

/-
  The kinds of the lane's laws' arguments: a call, a row of calls.
-/
import Derived.Test.YtekjhfhlbkcklaaOp
import Derived.Test.YtekjhfhlbkcklaaProg
import Derived.KernelRfl
set_option linter.unusedVariables false
set_option linter.unusedSimpArgs false
namespace Go.Proofs.Ytekjhfhlbkcklaa.L
open Go.RowKit Go.Proofs.Ytekjhfhlbkcklaa.Op Go.Proofs.YtekjhfhlbkcklaaW.PrintWords

abbrev wfI (k : IntKind) (n : Int) : Prop := (Lit.int k n).wf = true
def kTicket : Kd (Int × Int) := Kd.iso (Kd.pair (Kd.int .u64) (Kd.int .u64)) id
def kSlot : Kd (Int × Int) := Kd.iso (Kd.pair (Kd.int .i64) (Kd.int .u64)) id
def kStamp : Kd (Int × Int) := Kd.iso (Kd.pair (Kd.int .i64) (Kd.int .i64)) id
abbrev OpT := Int × (Int × Int) × (Int × Int) × (Int × Int)
def kOp : Kd OpT := Kd.iso (Kd.pair (Kd.int .i64) (Kd.pair kTicket (Kd.pair kSlot kStamp))) id
abbrev okPair (k l : IntKind) (p : Int × Int) : Prop := wfI k p.1 ∧ wfI l p.2
abbrev okOp (o : OpT) : Prop := wfI .i64 o.1 ∧ okPair .u64 .u64 o.2.1 ∧ okPair .i64 .u64 o.2.2.1 ∧ okPair .i64 .i64 o.2.2.2
def opCells (o : OpT) : List Value := [.int .i64 o.1, .int .u64 o.2.1.1, .int .u64 o.2.1.2, .int .i64 o.2.2.1.1, .int .u64 o.2.2.1.2, .int .i64 o.2.2.2.1, .int .i64 o.2.2.2.2]
theorem kOp_open {w : World} {o : OpT} {cs : List Value} (h : kOp.K w o cs) : cs = opCells o := by
  obtain ⟨_, _, rfl, rfl, ⟨_, _, rfl, ⟨_, _, rfl, rfl, rfl⟩, ⟨_, _, rfl, ⟨_, _, rfl, rfl, rfl⟩, ⟨_, _, rfl, rfl, rfl⟩⟩⟩⟩ := h
  rfl
set_option maxRecDepth 10000 in
theorem opensTicket : Opens Try.prog 34 kTicket (okPair .u64 .u64) :=
  opens_struct (g := id) id (fun _ => rfl) Try.underlying34 (by kernel_rfl) (opensF_cons (ok := wfI .u64) (ok2 := wfI .u64) rfl (by kernel_rfl) (opens_int Try.underlying22) (opensF_last rfl (by kernel_rfl) (opens_int Try.underlying22)))
set_option maxRecDepth 10000 in
theorem opensSlot : Opens Try.prog 36 kSlot (okPair .i64 .u64) :=
  opens_struct (g := id) id (fun _ => rfl) Try.underlying36 (by kernel_rfl) (opensF_cons (ok := wfI .i64) (ok2 := wfI .u64) rfl (by kernel_rfl) (opens_int Try.underlying3) (opensF_last rfl (by kernel_rfl) (opens_int Try.underlying22)))
set_option maxRecDepth 10000 in
theorem opensStamp : Opens Try.prog 38 kStamp (okPair .i64 .i64) :=
  opens_struct (g := id) id (fun _ => rfl) Try.underlying38 (by kernel_rfl) (opensF_cons (ok := wfI .i64) (ok2 := wfI .i64) rfl (by kernel_rfl) (opens_int Try.underlying3) (opensF_last rfl (by kernel_rfl) (opens_int Try.underlying3)))
set_option maxRecDepth 10000 in
theorem opensOp : Opens Try.prog 40 kOp okOp :=
  opens_struct (g := id) id (fun _ => rfl) Try.underlying40 (by kernel_rfl)
    (opensF_cons (ok := wfI .i64) (ok2 := fun p : (Int × Int) × (Int × Int) × (Int × Int) => okPair .u64 .u64 p.1 ∧ okPair .i64 .u64 p.2.1 ∧ okPair .i64 .i64 p.2.2) rfl (by kernel_rfl) (opens_int Try.underlying3)
      (opensF_cons (ok := okPair .u64 .u64) (ok2 := fun p : (Int × Int) × (Int × Int) => okPair .i64 .u64 p.1 ∧ okPair .i64 .i64 p.2) rfl (by kernel_rfl) opensTicket
        (opensF_cons (ok := okPair .i64 .u64) (ok2 := okPair .i64 .i64) rfl (by kernel_rfl) opensSlot (opensF_last rfl (by kernel_rfl) opensStamp))))
theorem cells_op : Try.prog.cellsOf 40 = kOp.sz := by kernel_rfl
end Go.Proofs.Ytekjhfhlbkcklaa.L

/-
  The lane in memory: its block of 330 cells, and the map of what was taken.
-/
import Derived.Test.YtekjhfhlbkcklaaProg
import Derived.Test.YtekjhfhlbkcklaaKa
namespace Go.Proofs.Ytekjhfhlbkcklaa.L
open Go.RowKit Go.Proofs.Ytekjhfhlbkcklaa.K

structure Ent where
  is : Int
  n : Int
  gen : Int
  tick : Int
  step : Int
def ent0 : Ent := ⟨0, 0, 0, 0, 0⟩
def Ent.cells (e : Ent) : List Value := [.int .i64 e.is, .int .i64 e.n, .int .u64 e.gen, .int .i64 e.tick, .int .i64 e.step]

structure Lane where
  credit : Int
  two : Bool
  left : Int
  size : Int
  ring : List Ent
  base : Int
  head : Int
  ready : Int
  tail : Int
  epoch : Int
  m : Nat

def hdCells (L : Lane) : List Value := [.int .i64 L.credit, .bool L.two, .int .i64 L.left, .int .i64 L.size]
def ringCells (r : List Ent) : List Value := r.flatMap Ent.cells
def tlCells (L : Lane) : List Value := [.int .u64 L.base, .int .u64 L.head, .int .u64 L.ready, .int .u64 L.tail, .int .u64 L.epoch, .map (some L.m)]
def laneCells (L : Lane) : List Value := hdCells L ++ (ringCells L.ring ++ tlCells L)

theorem ringCells_length : ∀ r : List Ent, (ringCells r).length = 5 * r.length
  | [] => rfl
  | e :: r => by simp only [ringCells, List.flatMap_cons, List.length_append, List.length_cons] at *; have := ringCells_length r; simp only [ringCells] at this; rw [this]; simp [Ent.cells]; omega
theorem ringCells_get : ∀ (r : List Ent) (j i : Nat) (e : Ent), r[j]? = some e → i < 5 → (ringCells r)[5 * j + i]? = e.cells[i]?
  | [], j, i, e, h, _ => by simp at h
  | x :: r, 0, i, e, h, hi => by
    obtain rfl : x = e := by simpa using h
    rw [ringCells, List.flatMap_cons, List.getElem?_append_left (by simp [Ent.cells]; omega)]
    simp
  | x :: r, j + 1, i, e, h, hi => by
    have hl : x.cells.length = 5 := rfl
    rw [ringCells, List.flatMap_cons, List.getElem?_append_right (by rw [hl]; omega), hl, show 5 * (j + 1) + i - 5 = 5 * j + i by omega]
    exact ringCells_get r j i e (by simpa using h) hi
theorem ringCells_set : ∀ (r : List Ent) (j i : Nat) (e : Ent) (v : Value) (e' : Ent), r[j]? = some e → i < 5 → e.cells.set i v = e'.cells → (ringCells r).set (5 * j + i) v = ringCells (r.set j e')
  | [], j, i, e, v, e', h, _, _ => by simp at h
  | x :: r, 0, i, e, v, e', h, hi, he => by
    obtain rfl : x = e := by simpa using h
    simp only [ringCells, List.flatMap_cons, List.set_cons_zero]
    rw [List.set_append_left _ _ (by simp [Ent.cells]; omega), Nat.mul_zero, Nat.zero_add, he]
  | x :: r, j + 1, i, e, v, e', h, hi, he => by
    have hl : x.cells.length = 5 := rfl
    simp only [ringCells, List.flatMap_cons, List.set_cons_succ]
    rw [List.set_append_right _ _ (by rw [hl]; omega), hl, show 5 * (j + 1) + i - 5 = 5 * j + i by omega]
    have := ringCells_set r j i e v e' (by simpa using h) hi he
    simp only [ringCells] at this
    rw [this]
end Go.Proofs.Ytekjhfhlbkcklaa.L

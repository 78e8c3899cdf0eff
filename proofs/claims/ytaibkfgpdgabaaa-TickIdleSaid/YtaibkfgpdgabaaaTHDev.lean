/- A part of the proof of T: what its last text uses; conditions: see there. -/
import Derived.Test.YtaibkfgpdgabaaaTHAwk20
import Derived.Test.YtaibkfgpdgabaaaTP1x0
section
namespace Go.Proofs.Ytaibkfgpdgabaaa.P
open Go.RowKit Go.Proofs.YtaibkfgpdgabaaaW.PrintWords Go.Proofs.YtaibkfgpdgabaaaW.PrintLast Go.Proofs.YtaibkfgpdgabaaaW.PrintMore
set_option linter.unusedVariables false
set_option linter.unusedSimpArgs false
def Dev (W : World) (B : Nat) (a0 a1 a2 a3 a4 : Int) (s : Value) : Prop := W.heap[B]? = some (.cells #[.int .i64 a0, .int .i64 a1, .int .i64 a2, .int .i64 a3, .int .i64 a4, s] 26 (0, 0))
theorem Dev.new (w : World) (a0 a1 a2 a3 a4 : Int) (s : Value) : Dev (w.alloc (.cells #[.int .i64 a0, .int .i64 a1, .int .i64 a2, .int .i64 a3, .int .i64 a4, s] 26)) w.heap.size a0 a1 a2 a3 a4 s := blk_new _ _
theorem Dev.below {W W' : World} {B : Nat} {a0 a1 a2 a3 a4 : Int} {s : Value} (h : Dev W B a0 a1 a2 a3 a4 s) (hb : Below W.heap.size W W') : Dev W' B a0 a1 a2 a3 a4 s := blk_below h hb
theorem Dev.lt {W : World} {B : Nat} {a0 a1 a2 a3 a4 : Int} {s : Value} (h : Dev W B a0 a1 a2 a3 a4 s) : B < W.heap.size := blk_lt h
theorem Dev.cells {W : World} {B : Nat} {a0 a1 a2 a3 a4 : Int} {s : Value} (h : Dev W B a0 a1 a2 a3 a4 s) : W.cell? ⟨B, 0, none⟩ = some (.int .i64 a0) ∧ W.cell? ⟨B, 1, none⟩ = some (.int .i64 a1) ∧ W.cell? ⟨B, 2, none⟩ = some (.int .i64 a2) ∧ W.cell? ⟨B, 3, none⟩ = some (.int .i64 a3) ∧ W.cell? ⟨B, 4, none⟩ = some (.int .i64 a4) ∧ W.cell? ⟨B, 5, none⟩ = some s :=
  ⟨blk_cell h 0, blk_cell h 1, blk_cell h 2, blk_cell h 3, blk_cell h 4, blk_cell h 5⟩
theorem Dev.free {W : World} {B : Nat} {a0 a1 a2 a3 a4 : Int} {s : Value} (h : Dev W B a0 a1 a2 a3 a4 s) : W.frozen? ⟨B, 0, none⟩ = false ∧ W.frozen? ⟨B, 1, none⟩ = false ∧ W.frozen? ⟨B, 2, none⟩ = false ∧ W.frozen? ⟨B, 3, none⟩ = false ∧ W.frozen? ⟨B, 4, none⟩ = false ∧ W.frozen? ⟨B, 5, none⟩ = false :=
  ⟨blk_frozen h 0, blk_frozen h 1, blk_frozen h 2, blk_frozen h 3, blk_frozen h 4, blk_frozen h 5⟩
theorem Dev.store {W : World} {B : Nat} {a0 a1 a2 a3 a4 : Int} {s : Value} (h : Dev W B a0 a1 a2 a3 a4 s) (b0 b1 b2 b3 b4 : Int) (t : Value) :
    Dev ((((((W.setCell ⟨B, 0, none⟩ (.int .i64 b0)).setCell ⟨B, 1, none⟩ (.int .i64 b1)).setCell ⟨B, 2, none⟩ (.int .i64 b2)).setCell ⟨B, 3, none⟩ (.int .i64 b3)).setCell ⟨B, 4, none⟩ (.int .i64 b4)).setCell ⟨B, 5, none⟩ t) B b0 b1 b2 b3 b4 t := by
  have e0 := blk_set h 0 (.int .i64 b0)
  have e1 := blk_set e0 1 (.int .i64 b1)
  have e2 := blk_set e1 2 (.int .i64 b2)
  have e3 := blk_set e2 3 (.int .i64 b3)
  have e4 := blk_set e3 4 (.int .i64 b4)
  exact blk_set e4 5 t
theorem Dev.far {W : World} {B g o : Nat} {a0 a1 a2 a3 a4 : Int} {s v : Value} (h : Dev W B a0 a1 a2 a3 a4 s) (hg : B ≠ g) : Dev (W.setCell ⟨g, o, none⟩ v) B a0 a1 a2 a3 a4 s := blk_far h hg v
theorem C_any {w : World} {A : Option Addr} (h : Kd.C k59 w A ([] : List SOp).length []) (w' : World) : Kd.C k59 w' A ([] : List SOp).length [] := ⟨h.1, h.2.1, fun h0 => absurd h0 (by simp)⟩
end Go.Proofs.Ytaibkfgpdgabaaa.P
end

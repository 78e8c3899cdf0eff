/- A part of the proof of V: what its last text uses; conditions: see there. -/
import Derived.Test.YtaibkfgpdgabaaaVHAwk20
import Derived.Test.YtaibkfgpdgabaaaVP1x0
section
namespace Go.Proofs.Ytaibkfgpdgabaaa.P
open Go.RowKit Go.Proofs.YtaibkfgpdgabaaaW.PrintWords Go.Proofs.YtaibkfgpdgabaaaW.PrintLast Go.Proofs.YtaibkfgpdgabaaaW.PrintMore
set_option linter.unusedVariables false
set_option linter.unusedSimpArgs false
def Dev (W : World) (B : Nat) (a0 a1 a2 a3 a4 : Int) (s : Value) : Prop := W.heap[B]? = some (.cells #[.int .i64 a0, .int .i64 a1, .int .i64 a2, .int .i64 a3, .int .i64 a4, s] 26 (0, 0))
theorem Dev.new (w : World) (a0 a1 a2 a3 a4 : Int) (s : Value) : Dev (w.alloc (.cells #[.int .i64 a0, .int .i64 a1, .int .i64 a2, .int .i64 a3, .int .i64 a4, s] 26)) w.heap.size a0 a1 a2 a3 a4 s := blk_new _ _
theorem Dev.below {W W' : World} {B : Nat} {a0 a1 a2 a3 a4 : Int} {s : Value} (h : Dev W B a0 a1 a2 a3 a4 s) (hb : Below W.heap.size W W') : Dev W' B a0 a1 a2 a3 a4 s := blk_below h hb
theorem Dev.lt {W : World} {B : Nat} {a0 a1 a2 a3 a4 : Int} {s : Value} (h : Dev W B a0 a1 a2 a3 a4 s) : B < W.heap.size := blk_lt h
theorem Dev.cells {W : World} {B : Nat} {a0 a1 a2 a3 a4 : Int} {s : Value} (h : Dev W B a0 a1 a2 a3 a4 s) : W.cell? ⟨B, 0, none⟩ = some (.int .i64 a0) ∧ W.cell? ⟨B, 1, none⟩ = some (.int .i64 a1) ∧ W.cell? ⟨B, 2, none⟩ = some (.int .i64 a2) ∧ W.cell? ⟨B, 3, none⟩ = some (.int .i64 a3) ∧ W.cell? ⟨B, 4, none⟩ = some (.int .i64 a4) ∧ W.cell? ⟨B, 5, none⟩ = some s :=
  ⟨blk_cell h 0, blk_cell h 1, blk_cell h 2, blk_cell h 3, blk_cell h 4, blk_cell h 5⟩
theorem Dev.free {W : World} {B : Nat} {a0 a1 a2 a3 a4 : Int} {s : Value} (h : Dev W B a0 a1 a2 a3 a4 s) : W.frozen? ⟨B, 0, none⟩ = false ∧ W.frozen? ⟨B, 1, none⟩ = false ∧ W.frozen? ⟨B, 2, none⟩ = false ∧ W.frozen? ⟨B, 3, none⟩ = false ∧ W.frozen? ⟨B, 4, none⟩ = false ∧ W.frozen? ⟨B, 5, none⟩ = false :=
  ⟨blk_frozen h 0, blk_frozen h 1, blk_frozen h 2, blk_frozen h 3, blk_frozen h 4, blk_frozen h 5⟩
theorem Dev.store {W : World} {B : Nat} {a0 a1 a2 a3 a4 : Int} {s : Value} (h : Dev W B a0 a1 a2 a3 a4 s) (b0 b1 b2 b3 b4 : Int) (t : Value) :
    Dev ((((((W.setCell ⟨B, 0, none⟩ (.int .i64 b0)).setCell ⟨B, 1, none⟩ (.int .i64 b1)).setCell ⟨B, 2, none⟩ (.int .i64 b2)).setCell ⟨B, 3, none⟩ (.int .i64 b3)).setCell ⟨B, 4, none⟩ (.int .i64 b4)).setCell ⟨B, 5, none⟩ t) B b0 b1 b2 b3 b4 t := by
  have e0 := blk_set h 0 (.int .i64 b0)
  have e1 := blk_set e0 1 (.int .i64 b1)
  have e2 := blk_set e1 2 (.int .i64 b2)
  have e3 := blk_set e2 3 (.int .i64 b3)
  have e4 := blk_set e3 4 (.int .i64 b4)
  exact blk_set e4 5 t
theorem Dev.far {W : World} {B g o : Nat} {a0 a1 a2 a3 a4 : Int} {s v : Value} (h : Dev W B a0 a1 a2 a3 a4 s) (hg : B ≠ g) : Dev (W.setCell ⟨g, o, none⟩ v) B a0 a1 a2 a3 a4 s := blk_far h hg v
theorem giveC_calls (f : ByteArray) (a0 a1 a2 a3 a4 b n r1 r2 r3 r4 r5 r8 : Int) (r7 : ByteArray) (A : Option Addr) (c : Nat) (w : World) (hC : Kd.C k59 w A ([] : List SOp).length []) (h : upload_Give.f f a0 a1 a2 a3 a4 [] b n = some (r1, r2, r3, r4, r5, [], r7, r8)) :
    Calls Try.prog 17 #[.string f, .agg #[.int .i64 a0, .int .i64 a1, .int .i64 a2, .int .i64 a3, .int .i64 a4, .slice A 0 c], .int .i64 b, .int .i64 n] w fun e w' => ∃ (A : Option Addr) (c : Nat), e = .returned (.tuple #[.agg #[.int .i64 r1, .int .i64 r2, .int .i64 r3, .int .i64 r4, .int .i64 r5, .slice A 0 c], .string r7, .int .i64 r8]) ∧ Aside0 (Kd.C k59 w' A ([] : List SOp).length []) ∧ Aside0 (Below w.heap.size w w') := by
  refine (upload_Give.calls f a0 a1 a2 a3 a4 A c [] b n r1 r2 r3 r4 r5 [] r7 r8 w hC (Nat.zero_le _) h).mono ?_
  rintro e w' ⟨v, rfl, hR, hB⟩
  obtain ⟨A, c, rfl, hc, hC⟩ := Kd.R_reads hR
  exact ⟨A, c, rfl, ⟨hC⟩, ⟨hB⟩⟩
theorem actR_calls (f : ByteArray) (p0 p1 p2 p3 p4 p5 : Int) (w : World) (h : skiffref1_Active.f 3000 f = some (p0, p1, p2, p3, p4, p5)) : Calls Try.prog 20 #[.string f] w fun e w' => e = .returned (.tuple #[.agg #[.int .i64 p0, .int .i64 p1, .int .i64 p2, .int .i64 p3, .int .i64 p4], .int .i64 p5]) ∧ Below w.heap.size w w' := skiffref1_Active.calls 3000 _ _ _ _ _ _ _ _ h
end Go.Proofs.Ytaibkfgpdgabaaa.P
end

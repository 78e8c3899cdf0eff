/- A part of the proof of T: what its last text uses; conditions: see there. -/
import Derived.Test.YtaibkfgpdgabaaaTHBase
section
namespace Go.Proofs.Ytaibkfgpdgabaaa.P
open Go.RowKit Go.Proofs.YtaibkfgpdgabaaaW.PrintWords Go.Proofs.YtaibkfgpdgabaaaW.PrintLast Go.Proofs.YtaibkfgpdgabaaaW.PrintMore
set_option linter.unusedVariables false
set_option linter.unusedSimpArgs false
def recMayB (a b c d : Int) : Bool := decide (1 ≤ a) && decide (a ≤ 1048576) && decide (0 ≤ b) && decide (b ≤ 1) && decide (1 ≤ c) && decide (c ≤ 288) && decide (0 ≤ d) && decide (d ≤ 4294967295)
def entry_May.f (a0_0 a0_1 a0_2 a0_3 : Int) : Option Bool := some (recMayB a0_0 a0_1 a0_2 a0_3)
def skiffref1_RecordMay.f (a0_0 a0_1 a0_2 a0_3 : Int) : Option Bool := some (recMayB a0_0 a0_1 a0_2 a0_3)
set_option maxHeartbeats 800000 in
theorem recMay_calls (a b c d : Int) (w : World) :
    Calls Try.prog 90 #[.agg #[.int .i64 a, .int .i64 b, .int .i64 c, .int .i64 d]] w fun e w' => e = .returned (.bool (recMayB a b c d)) ∧ Below w.heap.size w w' := by
  go_enter Try.func90, Try.ntmps90
  go_wp2
  all_goals
    go_ret
    refine ⟨ret_b ?_, (Below.refl _ _).alloc (Nat.le_refl _) _⟩
    first | (simp [recMayB, *]; done) | (simp [recMayB, *]; omega)
set_option maxHeartbeats 800000 in
theorem refRecMay_calls (a b c d : Int) (w : World) :
    Calls Try.prog 54 #[.agg #[.int .i64 a, .int .i64 b, .int .i64 c, .int .i64 d]] w fun e w' => e = .returned (.bool (recMayB a b c d)) ∧ Below w.heap.size w w' := by
  go_enter Try.func54, Try.ntmps54
  go_wp2
  all_goals
    go_ret
    refine ⟨ret_b ?_, (Below.refl _ _).alloc (Nat.le_refl _) _⟩
    first | (simp [recMayB, *]; done) | (simp [recMayB, *]; omega)
theorem entry_May.calls (a0_0 : Int) (a0_1 : Int) (a0_2 : Int) (a0_3 : Int) (r : Bool) (w : World) (h : entry_May.f a0_0 a0_1 a0_2 a0_3 = some r) :
    Calls Try.prog 90 #[.agg #[.int .i64 a0_0, .int .i64 a0_1, .int .i64 a0_2, .int .i64 a0_3]] w fun e w' => e = .returned (.bool r) ∧ Below w.heap.size w w' := by
  simp only [entry_May.f, Option.some.injEq] at h
  subst h
  exact recMay_calls _ _ _ _ _
theorem skiffref1_RecordMay.calls (a0_0 : Int) (a0_1 : Int) (a0_2 : Int) (a0_3 : Int) (r : Bool) (w : World) (h : skiffref1_RecordMay.f a0_0 a0_1 a0_2 a0_3 = some r) :
    Calls Try.prog 54 #[.agg #[.int .i64 a0_0, .int .i64 a0_1, .int .i64 a0_2, .int .i64 a0_3]] w fun e w' => e = .returned (.bool r) ∧ Below w.heap.size w w' := by
  simp only [skiffref1_RecordMay.f, Option.some.injEq] at h
  subst h
  exact refRecMay_calls _ _ _ _ _
end Go.Proofs.Ytaibkfgpdgabaaa.P
end

/- A part of the proof of T: what its last text uses; conditions: see there. -/
import Derived.Test.YtaibkfgpdgabaaaTLUploadRow
section
namespace Go.Proofs.Ytaibkfgpdgabaaa.P
open Go.RowKit Go.Proofs.YtaibkfgpdgabaaaW.PrintWords Go.Proofs.YtaibkfgpdgabaaaW.PrintLast Go.Proofs.YtaibkfgpdgabaaaW.PrintMore
set_option linter.unusedVariables false
set_option linter.unusedSimpArgs false
theorem modU (a m : Int) (hm : 1 ≤ m) (hm2 : m ≤ 1000) : ∃ x : Nat, (IntKind.u64.wrap a).tmod m = (x : Int) ∧ (x : Int) < m := by
  have h0 : 0 ≤ IntKind.u64.wrap a := by rw [IntKind.wrap_u64]; omega
  rw [Int.tmod_eq_emod_of_nonneg h0]
  have h1 := Int.emod_nonneg (IntKind.u64.wrap a) (by omega : m ≠ 0)
  have h2 := Int.emod_lt_of_pos (IntKind.u64.wrap a) (by omega : 0 < m)
  obtain ⟨x, hx⟩ := Int.eq_ofNat_of_zero_le h1
  exact ⟨x, hx, by omega⟩
end Go.Proofs.Ytaibkfgpdgabaaa.P
end

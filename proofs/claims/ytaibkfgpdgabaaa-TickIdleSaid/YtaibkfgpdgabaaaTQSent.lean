/- A part of the proof of T: what its last text uses; conditions: see there. -/
import Derived.Test.YtaibkfgpdgabaaaTHAwk18
import Derived.Test.YtaibkfgpdgabaaaTHTick
import Derived.Test.YtaibkfgpdgabaaaTQSame
section
namespace Go.Proofs.Ytaibkfgpdgabaaa.P
open Go.RowKit Go.Proofs.YtaibkfgpdgabaaaW.PrintWords Go.Proofs.YtaibkfgpdgabaaaW.PrintLast Go.Proofs.YtaibkfgpdgabaaaW.PrintMore
set_option linter.unusedVariables false
set_option linter.unusedSimpArgs false
def abcd : ByteArray := ⟨#[97, 98, 99, 100]⟩
def opA : SOp := ⟨false, 192, abcd⟩
def devA : DV := ⟨2, 0, 0, 0, 0, [opA]⟩
noncomputable def devS : DV := ⟨1, 0, 1, 32, 0, sentOps⟩
theorem okall_may {l : List SOp} (h : OkAll l) : opsMayB l = true := by
  rw [opsMayB, List.all_eq_true]
  exact fun o ho => (h o ho).may
theorem okall_app {l m : List SOp} (h : OkAll l) (h2 : OkAll m) : OkAll (l ++ m) := fun o ho => (List.mem_append.1 ho).elim (h o) (h2 o)
theorem erases_ok (a : Nat) (h : a + 192 ≤ 672) (ha : a % 96 = 0) : OkAll (erasesL a) := by
  intro o ho
  simp only [erasesL, List.mem_cons, List.not_mem_nil, or_false] at ho
  rcases ho with rfl | rfl | rfl <;> simp only [OpOk, if_true] <;> refine ⟨?_, ?_, ?_, rfl⟩ <;> omega
theorem baseN_0 : baseN 0 = 192 := rfl
theorem opA_ok : OkAll [opA] := fun o ho => by
  rw [List.mem_singleton.1 ho]
  simp only [OpOk, opA, if_neg (show ¬ false = true by decide)]
  exact ⟨by decide, by decide, by decide, rfl⟩
theorem devA_may : devA.may (ffB 768) = true := by
  simp only [DV.may, bothB, ffB_size, devA]
  decide
theorem devA_no : devA.may ⟨#[]⟩ = false := by
  simp only [DV.may, bothB]
  decide
theorem devA_tickF : tickF (ffB 768) devA = doB (ffB 768) false 192 abcd 96 := by
  show (if worksB 2 = true then doB (ffB 768) false 192 abcd 96 else ffB 768) = _
  rw [if_pos (by decide)]
theorem devA_tickD : tickD devA = ⟨1, 0, 0, 0, 0, []⟩ := rfl
theorem devA_cutF : cutF (ffB 768) devA 3 = doB (ffB 768) false 192 abcd 3 := by
  show (if worksB 2 = true then doB (ffB 768) false 192 abcd 3 else ffB 768) = _
  rw [if_pos (by decide)]
theorem padS : (padB sentT).size = 32 := by rw [padB_size]; rfl
theorem sentOps_ok : OkAll sentOps := by
  rw [sentOps, firstOps, sent_other, baseN_0]
  refine okall_app (erases_ok 192 (by decide) (by decide)) ?_
  rw [wordsOf]
  exact words_ok 192 _ _ (by decide) (by rw [padS]; decide) (by rw [padS]; decide)
theorem devS_may : devS.may (ffB 768) = true := by
  have h : (devS.ops.length : Int) = 11 := by
    show ((sentOps.length : Nat) : Int) = 11
    rw [sentOps_len]
    rfl
  have h2 : opsMayB devS.ops = true := okall_may sentOps_ok
  simp only [DV.may, bothB, devMayB, ffB_size, h, h2]
  decide
theorem opA_at : (ffB 768).extract 192 196 = ffB 4 := by
  refine bytes_ext fun i => ?_
  rw [get_ext]
  simp only [lst_ff, List.getElem?_replicate]
  repeat' split
  all_goals first | rfl | omega
theorem G_ext : (doB (ffB 768) false 192 abcd 96).extract 192 196 = ⟨#[97, 98, 99, 100]⟩ := by
  rw [do_word (ffB 768) 192 abcd (ffB_size _) (opA_ok opA (List.mem_singleton.2 rfl)) opA_at]
  exact ext_put_same (ffB 768) 192 abcd (by rw [ffB_size]; decide)
theorem H_get : (lst (doB (ffB 768) false 192 abcd 3))[192]? = some 249 := by
  have hz : (tornW (ffB 4) abcd (mn 3 32)).size = 4 := by rw [tornW_size, ffB_size]
  rw [doB, if_neg (by decide)]
  show (lst (putAt (ffB 768) 192 (tornW ((ffB 768).extract 192 196) abcd (mn 3 32))))[192]? = _
  rw [opA_at, get_put _ _ _ (by rw [ffB_size, hz]; decide), if_pos (by omega), Nat.sub_self, tornW_get _ _ _ 0 (by rw [ffB_size]; decide)]
  decide
end Go.Proofs.Ytaibkfgpdgabaaa.P
end

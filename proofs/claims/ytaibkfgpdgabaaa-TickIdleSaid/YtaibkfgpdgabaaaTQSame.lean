/- A part of the proof of T: what its last text uses; conditions: see there. -/
import Derived.Test.YtaibkfgpdgabaaaTQHeld
import Derived.Test.YtaibkfgpdgabaaaTP0x0
section
namespace Go.Proofs.Ytaibkfgpdgabaaa.P
open Go.RowKit Go.Proofs.YtaibkfgpdgabaaaW.PrintWords Go.Proofs.YtaibkfgpdgabaaaW.PrintLast Go.Proofs.YtaibkfgpdgabaaaW.PrintMore
set_option linter.unusedVariables false
set_option linter.unusedSimpArgs false
noncomputable instance : DecidableEq SOp := fun _ _ => Classical.propDecidable _
theorem same_one (x y : SOp) : (!(x.f0 == y.f0) || (!(x.f1 == y.f1) || (!(x.f2.toList == y.f2.toList)))) = !decide (x = y) := by
  rw [Bool.eq_iff_iff]
  simp only [Bool.or_eq_true, Bool.not_eq_true', beq_eq_false_iff_ne, ne_eq, decide_eq_false_iff_not]
  constructor
  · rintro (h | h | h) <;> intro he <;> exact h (by rw [he])
  · intro h
    by_cases h0 : x.f0 = y.f0
    · by_cases h1 : x.f1 = y.f1
      · refine .inr (.inr fun h2 => h ?_)
        obtain ⟨a, b, c⟩ := x
        obtain ⟨a', b', c'⟩ := y
        simp only at h0 h1 h2
        rw [h0, h1, of_decide_eq_true (bytes_toList.symm.trans (beq_iff_eq.2 h2))]
      · exact .inr (.inl h1)
    · exact .inl h0
theorem sameOps_l0 (l m : List SOp) (he : l.length = m.length) (hl : l.length ≤ 4611686018427387904) : ∀ (d i k : Nat), i + d = l.length → d < k → skifflaw0_SameOps.l0 k l m i = some (decide (l.drop i = m.drop i))
  | 0, i, k + 1, hi, hk => by
    rw [skifflaw0_SameOps.l0, if_neg (by omega), List.drop_eq_nil_of_le (by omega), List.drop_eq_nil_of_le (by omega)]
    simp
  | d + 1, i, k + 1, hi, hk => by
    have hil : i < l.length := by omega
    have him : i < m.length := by omega
    rw [skifflaw0_SameOps.l0, if_pos (by omega), if_pos (by omega), if_pos (by omega), rdO l i hil, rdO m i him, same_one]
    have ed : (l.drop i = m.drop i) = (l[i] = m[i] ∧ l.drop (i + 1) = m.drop (i + 1)) := by
      rw [← List.getElem_cons_drop hil, ← List.getElem_cons_drop him, List.cons.injEq]
    by_cases h : l[i] = m[i]
    · rw [if_neg (by simp [h]), show wrap64 ((i : Int) + 1) = ((i + 1 : Nat) : Int) from by rw [wr64 (by omega) (by omega)]; omega, sameOps_l0 l m he hl d (i + 1) k (by omega) (by omega)]
      congr 1
      exact decide_eq_decide.2 (by rw [ed]; exact ⟨fun hh => ⟨h, hh⟩, fun hh => hh.2⟩)
    · rw [if_pos (by simp [h])]
      congr 1
      exact (decide_eq_false (by rw [ed]; exact fun hh => h hh.1)).symm
theorem sameOps_f (l m : List SOp) (k : Nat) (hk : l.length < k) (hl : l.length ≤ 4611686018427387904) : skifflaw0_SameOps.f k l m = some (decide (l = m)) := by
  unfold skifflaw0_SameOps.f
  by_cases he : l.length = m.length
  · rw [if_pos (by omega)]
    exact sameOps_l0 l m he hl l.length 0 k (by omega) hk
  · rw [if_neg (by omega)]
    congr 1
    exact (decide_eq_false fun h => he (by rw [h])).symm
theorem sameDev_f (a0 a1 a2 a3 a4 b0 b1 b2 b3 b4 : Int) (l m : List SOp) (k : Nat) (hk : l.length < k) (hl : l.length ≤ 4611686018427387904) :
    skifflaw0_SameDevice.f k a0 a1 a2 a3 a4 l b0 b1 b2 b3 b4 m = some (decide (a0 = b0 ∧ a1 = b1 ∧ a2 = b2 ∧ a3 = b3 ∧ a4 = b4 ∧ l = m)) := by
  unfold skifflaw0_SameDevice.f
  rw [sameOps_f l m k hk hl, Option.bind_some]
  repeat' split
  all_goals simp_all
theorem sameD_calls (a0 a1 a2 a3 a4 b0 b1 b2 b3 b4 : Int) (A B : Option Addr) (c d : Nat) (l m : List SOp) (w : World) (hA : Kd.C k59 w A l.length l) (ha : l.length ≤ c) (hB : Kd.C k59 w B m.length m) (hb : m.length ≤ d) (hl : l.length ≤ 4611686018427387904) :
    Calls Try.prog 18 #[.agg #[.int .i64 a0, .int .i64 a1, .int .i64 a2, .int .i64 a3, .int .i64 a4, .slice A l.length c], .agg #[.int .i64 b0, .int .i64 b1, .int .i64 b2, .int .i64 b3, .int .i64 b4, .slice B m.length d]] w fun e w' => e = .returned (.bool (decide (a0 = b0 ∧ a1 = b1 ∧ a2 = b2 ∧ a3 = b3 ∧ a4 = b4 ∧ l = m))) ∧ Below w.heap.size w w' :=
  skifflaw0_SameDevice.calls (l.length + 1) a0 a1 a2 a3 a4 A c l b0 b1 b2 b3 b4 B d m _ w hA ha hB hb (sameDev_f _ _ _ _ _ _ _ _ _ _ l m _ (by omega) hl)
end Go.Proofs.Ytaibkfgpdgabaaa.P
end

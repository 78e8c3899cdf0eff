/- A part of the proof of T: what its last text uses; conditions: see there. -/
import Derived.Test.YtaibkfgpdgabaaaTHCut
import Derived.Test.YtaibkfgpdgabaaaTQAppend
import Derived.Test.YtaibkfgpdgabaaaTQHeld
section
namespace Go.Proofs.Ytaibkfgpdgabaaa.P
open Go.RowKit Go.Proofs.YtaibkfgpdgabaaaW.PrintWords Go.Proofs.YtaibkfgpdgabaaaW.PrintLast Go.Proofs.YtaibkfgpdgabaaaW.PrintMore
set_option linter.unusedVariables false
set_option linter.unusedSimpArgs false
structure DV where
  st : Int
  stat : Int
  nx : Int
  got : Int
  slot : Int
  ops : List SOp
def DV.zero : DV := ⟨0, 0, 0, 0, 0, []⟩
abbrev DV.val (d : DV) (v : Value) : Value := .agg #[.int .i64 d.st, .int .i64 d.stat, .int .i64 d.nx, .int .i64 d.got, .int .i64 d.slot, v]
abbrev DV.args (d : DV) (A : Option Addr) (c : Nat) : Value := .agg #[.int .i64 d.st, .int .i64 d.stat, .int .i64 d.nx, .int .i64 d.got, .int .i64 d.slot, .slice A d.ops.length c]
def DV.may (f : ByteArray) (d : DV) : Bool := bothB f d.st d.stat d.nx d.got d.slot d.ops
def tickF (f : ByteArray) (d : DV) : ByteArray := if worksB d.st = true then (match d.ops with
  | [] => f
  | o :: _ => doB f o.f0 o.f1 o.f2 96) else f
def tickD (d : DV) : DV := if worksB d.st = true then (if 0 < (d.ops.drop 1).length then { d with ops := d.ops.drop 1 } else if d.st = 5 then DV.zero else { d with st := 1, ops := d.ops.drop 1 }) else d
def cutF (f : ByteArray) (d : DV) (n : Int) : ByteArray := if worksB d.st = true then (match d.ops with
  | [] => f
  | o :: _ => doB f o.f0 o.f1 o.f2 n) else f
theorem may_parts {f : ByteArray} {d : DV} (h : d.may f = true) : (f.size : Int) = 768 ∧ devMayB d.st d.stat d.nx d.got d.slot d.ops = true := by
  simp only [DV.may, bothB, Bool.and_eq_true, decide_eq_true_eq] at h
  exact h
theorem step_no' (f : ByteArray) (d : DV) (A : Option Addr) (c : Nat) (w : World) (hr : Kd.C k59 w A d.ops.length d.ops) (hc : d.ops.length ≤ c) (h : d.may f = false) :
    Calls Try.prog 25 #[.string f, d.args A c] w fun e w' => e = .returned (.tuple #[.string ⟨#[]⟩, DV.zero.val (.slice none 0 0), .int .i64 1800]) ∧ Below w.heap.size w w' := step_no f _ _ _ _ _ A c d.ops w hr hc h
theorem tstep_calls (f : ByteArray) (d : DV) (A : Option Addr) (c : Nat) (w : World) (hr : Kd.C k59 w A d.ops.length d.ops) (hc : d.ops.length ≤ c) (h : d.may f = true) (ho : OkAll d.ops) :
    Calls Try.prog 25 #[.string f, d.args A c] w fun e w' => ∃ v : Value, e = .returned (.tuple #[.string (tickF f d), (tickD d).val v, .int .i64 0]) ∧ OwnOps w.heap.size w' v (tickD d).ops ∧ Below w.heap.size w w' := by
  obtain ⟨hf, hm⟩ := may_parts h
  obtain ⟨a0, a1, a2, a3, a4, l⟩ := d
  unfold tickF tickD
  simp only at hr hc hf hm ho ⊢
  cases hw : worksB a0 with
  | false =>
    rw [if_neg (by decide), if_neg (by decide)]
    exact step_idle f a0 a1 a2 a3 a4 A c l w hr hc h hw
  | true =>
    rw [if_pos rfl, if_pos rfl]
    cases l with
    | nil =>
      rw [if_neg (by decide)]
      by_cases h5 : a0 = 5
      · rw [if_pos h5]
        exact step_none5 f a0 a1 a2 a3 a4 A c [] w hr hc hf hm hw rfl h5
      · rw [if_neg h5]
        exact step_none2 f a0 a1 a2 a3 a4 A c [] w hr hc hf hm hw rfl h5
    | cons o l =>
      have hoo := ho o (List.mem_cons_self ..)
      have hd := do_f f o.f0 o.f1 o.f2 2 (Nat.le_refl _) (by omega) hoo
      have hrd : rd_T59 (o :: l) 0 = o := rdO (o :: l) 0 (Nat.zero_lt_succ _)
      rw [← hrd] at hd
      by_cases hmore : 0 < ((o :: l).drop 1).length
      · rw [if_pos hmore]
        exact step_more f a0 a1 a2 a3 a4 A c (o :: l) w hr hc hf hm hw (Nat.zero_lt_succ _) _ (by rw [hrd] at hd ⊢; exact hd) (by simpa using hmore)
      · rw [if_neg hmore]
        have hno : (o :: l).length - 1 = 0 := by simpa using hmore
        by_cases h5 : a0 = 5
        · rw [if_pos h5]
          exact step_last5 f a0 a1 a2 a3 a4 A c (o :: l) w hr hc hf hm hw (Nat.zero_lt_succ _) _ (by rw [hrd] at hd ⊢; exact hd) hno h5
        · rw [if_neg h5]
          exact step_last2 f a0 a1 a2 a3 a4 A c (o :: l) w hr hc hf hm hw (Nat.zero_lt_succ _) _ (by rw [hrd] at hd ⊢; exact hd) hno h5
theorem tcut_calls (f : ByteArray) (d : DV) (n : Int) (A : Option Addr) (c : Nat) (w : World) (hr : Kd.C k59 w A d.ops.length d.ops) (hc : d.ops.length ≤ c) (h : d.may f = true) (ho : OkAll d.ops) (hn0 : 0 ≤ n) (hn1 : n ≤ 96) :
    Calls Try.prog 27 #[.string f, d.args A c, .int .i64 n] w fun e w' => e = .returned (.tuple #[.string (cutF f d n), DV.zero.val (.slice none 0 0), .int .i64 0]) ∧ Below w.heap.size w w' := by
  obtain ⟨hf, hm⟩ := may_parts h
  obtain ⟨a0, a1, a2, a3, a4, l⟩ := d
  unfold cutF
  simp only at hr hc hf hm ho ⊢
  cases hw : worksB a0 with
  | false =>
    rw [if_neg (by decide)]
    exact cut_idle f a0 a1 a2 a3 a4 A c l n w hr hc hf hm hn0 hn1 (.inl hw)
  | true =>
    rw [if_pos rfl]
    cases l with
    | nil => exact cut_idle f a0 a1 a2 a3 a4 A c [] n w hr hc hf hm hn0 hn1 (.inr rfl)
    | cons o l =>
      have hoo := ho o (List.mem_cons_self ..)
      have hd : ops_Cut.f 2 f o.f0 o.f1 o.f2 n = some (doB f o.f0 o.f1 o.f2 n, 0) := by
        rw [cut_f f _ _ _ n 2 (Nat.le_refl _) hoo.le, if_pos]
        simp only [cutMayB, Bool.and_eq_true, decide_eq_true_eq]
        exact ⟨⟨⟨by omega, hoo.may⟩, hn0⟩, hn1⟩
      have hrd : rd_T59 (o :: l) 0 = o := rdO (o :: l) 0 (Nat.zero_lt_succ _)
      exact cut_works f a0 a1 a2 a3 a4 A c (o :: l) n w hr hc hf hm hn0 hn1 hw (Nat.zero_lt_succ _) _ (by rw [hrd]; exact hd)
end Go.Proofs.Ytaibkfgpdgabaaa.P
end

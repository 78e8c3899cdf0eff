/- A part of the proof of T: what its last text uses; conditions: see there. -/
import Derived.Deep.Slices
import Derived.Deep.Fields
import Derived.ChangeSame
import Derived.WalkKit
import Derived.ProofKit
import Derived.OpenShut
import Derived.Test.YtaibkfgpdgabaaaTHMay
section
namespace Go.Proofs.Ytaibkfgpdgabaaa.P
open Go.ChangeShapes Go.WideShapes Go.RowKit Go.Deep Go.Proofs.YtaibkfgpdgabaaaW.PrintWords Go.Proofs.YtaibkfgpdgabaaaW.PrintLast Go.Proofs.YtaibkfgpdgabaaaW.PrintMore
set_option linter.unusedVariables false
set_option linter.unusedSimpArgs false
section
variable {H : Type} {enc : TypeId × Value → H} {w : World} {base : Nat} {spare : Nat → Bool} {held : Bool}
theorem cells_op : Try.prog.cellsOf 59 = 3 := by kernel_rfl
theorem cells_dev : Try.prog.cellsOf 26 = 6 := by kernel_rfl
theorem cells_int : Try.prog.cellsOf 3 = 1 := by kernel_rfl
theorem cells_str : Try.prog.cellsOf 9 = 1 := by kernel_rfl
theorem cells_bool : Try.prog.cellsOf 4 = 1 := by kernel_rfl
theorem cells_ops : Try.prog.cellsOf 24 = 1 := by kernel_rfl
set_option maxRecDepth 100000 in
theorem open_op {n : Nat} {cs : List Value} {x : DataW H × List MemPlace} (h : DataW.trod enc Try.prog w base spare held n 59 cs = some x) : ∃ o : S59, cs = [.bool o.f0, .int .i64 o.f1, .string o.f2] ∧ (Lit.int .i64 o.f1).wf = true := by
  obtain ⟨xs, m, _, hx, hl, hlen, hg⟩ := DataW.trod_struct Try.underlying59 h
  rw [cells_op] at hl
  match cs, hl with
  | [c0, c1, c2], _ =>
    match xs, hlen with
    | [y0, y1, y2], _ =>
      have g0 := hg 0 _ rfl
      have g1 := hg 1 _ rfl
      have g2 := hg 2 _ rfl
      simp only [cells_int, cells_str, cells_bool, List.drop_zero, List.drop_succ_cons, List.take_succ_cons, List.take_zero, List.getElem?_cons_zero, List.getElem?_cons_succ] at g0 g1 g2
      obtain ⟨b, e0, _⟩ := DataW.trod_bool Try.underlying4 g0
      obtain ⟨i, e1, _, hw⟩ := DataW.trod_int Try.underlying3 g1
      obtain ⟨s, e2, _, _⟩ := DataW.trod_string Try.underlying9 g2
      injection e0 with e0
      injection e1 with e1
      injection e2 with e2
      subst e0 e1 e2
      exact ⟨⟨b, i, s⟩, rfl, hw⟩
set_option maxRecDepth 100000 in
theorem open_ops {n : Nat} {v : Value} {x : DataW H × List MemPlace} (h : DataW.trod enc Try.prog w base spare held n 24 [v] = some x) :
    ∃ (A : Option Addr) (c : Nat) (l : List S59), v = .slice A l.length c ∧ l.length ≤ c ∧ Kd.C k59 w A l.length l ∧ ∀ o ∈ l, (Lit.int .i64 o.f1).wf = true := by
  rcases Go.Deep.open_slice Try.underlying24 h with ⟨h0, _⟩ | ⟨a, len, cap, m, k, D, Pl, hcs, hb, hl, hm, hmm, hx, hi⟩
  · injection h0 with h0
    subst h0
    exact ⟨none, 0, [], rfl, Nat.le_refl _, ⟨rfl, by decide, fun h => absurd h (by decide)⟩, fun o ho => by cases ho⟩
  · injection hcs with hcs
    subst hcs
    have hlm : len ≤ m := by rw [hmm]; split <;> omega
    have hex : ∀ i, i < len → ∃ o : S59, (∀ (j : Nat) (u : Value), [Value.bool o.f0, .int .i64 o.f1, .string o.f2][j]? = some u → w.cell? (a.add (i * 3 + j)) = some u) ∧ (Lit.int .i64 o.f1).wf = true := by
      intro i hil
      obtain ⟨cs', hc, ht⟩ := hi i (by omega)
      rw [cells_op] at hc
      obtain ⟨o, rfl, hw⟩ := open_op ht
      obtain ⟨_, hcl, hat⟩ := World.cells?_some hc
      refine ⟨o, fun j u hj => ?_, hw⟩
      have hj3 : j < 3 := (List.getElem?_eq_some_iff.1 hj).1
      rw [← Go.Deep.add_add, hat j hj3, hj]
    obtain ⟨f, hf⟩ : ∃ f : Nat → S59, ∀ i, i < len → (∀ (j : Nat) (u : Value), [Value.bool (f i).f0, .int .i64 (f i).f1, .string (f i).f2][j]? = some u → w.cell? (a.add (i * 3 + j)) = some u) ∧ (Lit.int .i64 (f i).f1).wf = true :=
      ⟨fun i => if h : i < len then (hex i h).choose else ⟨false, 0, ⟨#[]⟩⟩, fun i h => by simp only [dif_pos h]; exact (hex i h).choose_spec⟩
    have hll : ((List.range len).map f).length = len := by rw [List.length_map, List.length_range]
    refine ⟨some a, cap, (List.range len).map f, by rw [hll], by rw [hll]; exact hl, ⟨rfl, by rw [hll]; exact Nat.le_trans hl (Nat.le_trans hm (by decide)), fun _ => ⟨a, rfl, fun j p hp => ?_⟩⟩, fun o ho => ?_⟩
    · have hj : j < len := by
        have := (List.getElem?_eq_some_iff.1 hp).1
        rw [hll] at this
        exact this
      rw [List.getElem?_map, List.getElem?_range hj, Option.map_some, Option.some.injEq] at hp
      subst hp
      exact ⟨_, rfl, k59_mk w (f j), (hf j hj).1⟩
    · obtain ⟨i, hi2, rfl⟩ := List.mem_map.1 ho
      exact (hf i (List.mem_range.1 hi2)).2
set_option maxRecDepth 100000 in
theorem open_dev {r : Reach} {b0 : Nat} {v : Value} {d : DataW H} {p : List MemPlace} (hv : Value.okWide Try.prog w r b0 26 v) (h : DataW.Trod enc Try.prog w base spare held 26 v d p) :
    ∃ (a0 a1 a2 a3 a4 : Int) (A : Option Addr) (c : Nat) (l : List S59), v = .agg #[.int .i64 a0, .int .i64 a1, .int .i64 a2, .int .i64 a3, .int .i64 a4, .slice A l.length c] ∧ l.length ≤ c ∧ Kd.C k59 w A l.length l ∧ ∀ o ∈ l, (Lit.int .i64 o.f1).wf = true := by
  obtain ⟨cs, rfl, hsz⟩ := okWide_struct Try.underlying26 hv
  obtain ⟨l⟩ := cs
  obtain ⟨fuel, hf⟩ := h
  obtain ⟨xs, m, _, hx, hl, hlen, hg⟩ := DataW.trod_struct Try.underlying26 hf
  rw [cells_dev] at hsz
  match l, hsz with
  | [c0, c1, c2, c3, c4, c5], _ =>
    match xs, hlen with
    | [y0, y1, y2, y3, y4, y5], _ =>
      have g0 := hg 0 _ rfl
      have g1 := hg 1 _ rfl
      have g2 := hg 2 _ rfl
      have g3 := hg 3 _ rfl
      have g4 := hg 4 _ rfl
      have g5 := hg 5 _ rfl
      simp only [Value.cells, cells_int, cells_ops, List.drop_zero, List.drop_succ_cons, List.take_succ_cons, List.take_zero, List.getElem?_cons_zero, List.getElem?_cons_succ] at g0 g1 g2 g3 g4 g5
      obtain ⟨i0, e0, _, _⟩ := DataW.trod_int Try.underlying3 g0
      obtain ⟨i1, e1, _, _⟩ := DataW.trod_int Try.underlying3 g1
      obtain ⟨i2, e2, _, _⟩ := DataW.trod_int Try.underlying3 g2
      obtain ⟨i3, e3, _, _⟩ := DataW.trod_int Try.underlying3 g3
      obtain ⟨i4, e4, _, _⟩ := DataW.trod_int Try.underlying3 g4
      obtain ⟨A, c, l, rfl, hc, hC, hw⟩ := open_ops g5
      injection e0 with e0
      injection e1 with e1
      injection e2 with e2
      injection e3 with e3
      injection e4 with e4
      subst e0 e1 e2 e3 e4
      exact ⟨i0, i1, i2, i3, i4, A, c, l, rfl, hc, hC, hw⟩
end
end Go.Proofs.Ytaibkfgpdgabaaa.P
end

/- A part of the proof of T: what its last text uses; conditions: see there. -/
import Derived.BigRegion
import Derived.Test.YtaibkfgpdgabaaaTHBase
section
namespace Go.Proofs.Ytaibkfgpdgabaaa.P
open Go.RowKit Go.Proofs.YtaibkfgpdgabaaaW.PrintWords Go.Proofs.YtaibkfgpdgabaaaW.PrintLast Go.Proofs.YtaibkfgpdgabaaaW.PrintMore
set_option linter.unusedVariables false
set_option linter.unusedSimpArgs false
abbrev SPl := S38
structure QRow (w : World) (g : Nat) (xs : List SPl) : Prop where
  cell : ∀ i p, xs[i]? = some p → w.cell? ⟨g, i * 5, none⟩ = some (.int .i64 p.f0) ∧ w.cell? ⟨g, i * 5 + 1, none⟩ = some (.int .i64 p.f1.f0) ∧ w.cell? ⟨g, i * 5 + 2, none⟩ = some (.int .i64 p.f1.f1) ∧ w.cell? ⟨g, i * 5 + 3, none⟩ = some (.int .i64 p.f1.f2) ∧ w.cell? ⟨g, i * 5 + 4, none⟩ = some (.int .i64 p.f1.f3)
  free : ∀ k, k < xs.length * 5 → w.frozen? ⟨g, k, none⟩ = false
theorem QRow.drew {w : World} {g : Nat} {xs : List SPl} (h : QRow w g xs) : QRow w.drew g xs := ⟨fun i p hi => h.cell i p hi, fun k hk => h.free k hk⟩
theorem QRow.put {w : World} {g : Nat} {xs : List SPl} (h : QRow w g xs) (i : Nat) (q : SPl) (hi : i < xs.length) :
    QRow (((((w.setCell ⟨g, i * 5, none⟩ (.int .i64 q.f0)).setCell ⟨g, i * 5 + 1, none⟩ (.int .i64 q.f1.f0)).setCell ⟨g, i * 5 + 2, none⟩ (.int .i64 q.f1.f1)).setCell ⟨g, i * 5 + 3, none⟩ (.int .i64 q.f1.f2)).setCell ⟨g, i * 5 + 4, none⟩ (.int .i64 q.f1.f3)) g (xs.set i q) := by
  have ne : ∀ a b : Nat, a ≠ b → (⟨g, a, none⟩ : Addr) ≠ ⟨g, b, none⟩ := fun a b hab he => by injection he with _ h2 _; exact hab h2
  obtain ⟨p, hp⟩ : ∃ p, xs[i]? = some p := ⟨_, List.getElem?_eq_getElem hi⟩
  obtain ⟨a0, a1, a2, a3, a4⟩ := h.cell i p hp
  refine ⟨fun k r hk => ?_, fun k hk => ?_⟩
  · by_cases e : i = k
    · subst e
      have hr : q = r := by
        rw [List.getElem?_set] at hk
        simpa [hi] using hk
      subst hr
      refine ⟨?_, ?_, ?_, ?_, ?_⟩
      · rw [World.cell?_setCell_other _ _ _ _ (ne _ _ (by omega)), World.cell?_setCell_other _ _ _ _ (ne _ _ (by omega)), World.cell?_setCell_other _ _ _ _ (ne _ _ (by omega)), World.cell?_setCell_other _ _ _ _ (ne _ _ (by omega)), World.cell?_setCell_same _ _ _ a0]
      · rw [World.cell?_setCell_other _ _ _ _ (ne _ _ (by omega)), World.cell?_setCell_other _ _ _ _ (ne _ _ (by omega)), World.cell?_setCell_other _ _ _ _ (ne _ _ (by omega))]
        exact World.cell?_setCell_same _ _ _ (u := .int .i64 p.f1.f0) (by rw [World.cell?_setCell_other _ _ _ _ (ne _ _ (by omega))]; exact a1)
      · rw [World.cell?_setCell_other _ _ _ _ (ne _ _ (by omega)), World.cell?_setCell_other _ _ _ _ (ne _ _ (by omega))]
        exact World.cell?_setCell_same _ _ _ (u := .int .i64 p.f1.f1) (by rw [World.cell?_setCell_other _ _ _ _ (ne _ _ (by omega)), World.cell?_setCell_other _ _ _ _ (ne _ _ (by omega))]; exact a2)
      · rw [World.cell?_setCell_other _ _ _ _ (ne _ _ (by omega))]
        exact World.cell?_setCell_same _ _ _ (u := .int .i64 p.f1.f2) (by rw [World.cell?_setCell_other _ _ _ _ (ne _ _ (by omega)), World.cell?_setCell_other _ _ _ _ (ne _ _ (by omega)), World.cell?_setCell_other _ _ _ _ (ne _ _ (by omega))]; exact a3)
      · exact World.cell?_setCell_same _ _ _ (u := .int .i64 p.f1.f3) (by rw [World.cell?_setCell_other _ _ _ _ (ne _ _ (by omega)), World.cell?_setCell_other _ _ _ _ (ne _ _ (by omega)), World.cell?_setCell_other _ _ _ _ (ne _ _ (by omega)), World.cell?_setCell_other _ _ _ _ (ne _ _ (by omega))]; exact a4)
    · rw [List.getElem?_set, if_neg e] at hk
      obtain ⟨b0, b1, b2, b3, b4⟩ := h.cell k r hk
      refine ⟨?_, ?_, ?_, ?_, ?_⟩ <;> (repeat rw [World.cell?_setCell_other _ _ _ _ (ne _ _ (by omega))]) <;> assumption
  · rw [List.length_set] at hk
    simp only [World.frozen?_setCell]
    exact h.free k hk
theorem grown_set {w w1 : World} {g o : Nat} {v : Value} (h : w.grownBy w1 (some g)) : w.grownBy (w1.setCell ⟨g, o, none⟩ v) (some g) :=
  ⟨h.os, h.tape, h.output, by simpa [World.setCell] using h.size, fun k hk hne => by rw [Below.heap_setCell w1 ⟨g, o, none⟩ v k (fun e => hne (by rw [e])), h.block k hk hne]⟩
theorem grown_drew {w w1 : World} {r : Option Nat} (h : w.grownBy w1 r) : w.grownBy w1.drew r := ⟨h.os, h.tape, h.output, h.size, h.block⟩
theorem grown_refl (w : World) (r : Option Nat) : w.grownBy w r := ⟨rfl, rfl, rfl, Nat.le_refl _, fun _ _ _ => rfl⟩
set_option maxHeartbeats 1600000 in
set_option maxRecDepth 100000 in
theorem swap_calls (g n cap i j : Nat) (xs : List SPl) (p q : SPl) (w : World) (hr : QRow w g xs) (hn : xs.length = n) (hi : xs[i]? = some p) (hj : xs[j]? = some q) (hij : i < j) (hjn : j < n) (hmax : n ≤ 8):
    Calls Try.prog 153 #[.slice (some ⟨g, 0, none⟩) n cap, .int .i64 i, .int .i64 j] w fun e w' => e = .returned (.tuple #[]) ∧ QRow w' g ((xs.set i q).set j p) ∧ w.grownBy w' (some g) := by
  obtain ⟨a0, a1, a2, a3, a4⟩ := hr.cell i p hi
  obtain ⟨b0, b1, b2, b3, b4⟩ := hr.cell j q hj
  have f0 := hr.free (i * 5) (by omega)
  have f1 := hr.free (i * 5 + 1) (by omega)
  have f2 := hr.free (i * 5 + 2) (by omega)
  have f3 := hr.free (i * 5 + 3) (by omega)
  have f4 := hr.free (i * 5 + 4) (by omega)
  have g0 := hr.free (j * 5) (by omega)
  have g1 := hr.free (j * 5 + 1) (by omega)
  have g2 := hr.free (j * 5 + 2) (by omega)
  have g3 := hr.free (j * 5 + 3) (by omega)
  have g4 := hr.free (j * 5 + 4) (by omega)
  have HR := Aside0.mk hr
  clear hr
  have HI := Lib.hid hi
  have HJ := Lib.hid hj
  have HN := Lib.hid hn
  clear hi hj hn
  have hin : i < n := by omega
  go_enter Try.func153, Try.ntmps153
  go_region
  go_end0
  refine ⟨rfl, ?_, ?_⟩
  · exact ((HR.out.put i q (by rw [HN.out]; exact hin)).put j p (by rw [List.length_set, HN.out]; exact hjn)).drew
  · exact grown_drew (grown_set (grown_set (grown_set (grown_set (grown_set (grown_set (grown_set (grown_set (grown_set (grown_set (grown_refl _ _)))))))))))
set_option maxHeartbeats 1600000 in
set_option maxRecDepth 100000 in
theorem swap_same (g n cap i : Nat) (xs : List SPl) (p : SPl) (w : World) (hr : QRow w g xs) (hn : xs.length = n) (hi : xs[i]? = some p) (hin : i < n) (hmax : n ≤ 8):
    Calls Try.prog 153 #[.slice (some ⟨g, 0, none⟩) n cap, .int .i64 i, .int .i64 i] w fun e w' => e = .returned (.tuple #[]) ∧ QRow w' g xs ∧ w.grownBy w' (some g) := by
  obtain ⟨a0, a1, a2, a3, a4⟩ := hr.cell i p hi
  have f0 := hr.free (i * 5) (by omega)
  have f1 := hr.free (i * 5 + 1) (by omega)
  have f2 := hr.free (i * 5 + 2) (by omega)
  have f3 := hr.free (i * 5 + 3) (by omega)
  have f4 := hr.free (i * 5 + 4) (by omega)
  have HR := Aside0.mk hr
  clear hr
  have HI := Lib.hid (show xs.set i p = xs by obtain ⟨h1, h2⟩ := List.getElem?_eq_some_iff.1 hi; rw [← h2]; exact List.set_getElem_self h1)
  have HN := Lib.hid hn
  clear hi hn
  go_enter Try.func153, Try.ntmps153
  go_region
  go_end0
  refine ⟨rfl, ?_, ?_⟩
  · have h1 := HR.out.put i p (by rw [HN.out]; exact hin)
    rw [HI.out] at h1
    have h2 := h1.put i p (by rw [HN.out]; exact hin)
    rw [HI.out] at h2
    exact h2.drew
  · exact grown_drew (grown_set (grown_set (grown_set (grown_set (grown_set (grown_set (grown_set (grown_set (grown_set (grown_set (grown_refl _ _)))))))))))
theorem meth_val (a : Addr) (w : World) : (method 275 109 (.pointer (some a)) "Len").run Try.prog w = ((loadVar 107 a) >>= fun v => pure (86, v) : Sem (FuncId × Value)).run Try.prog w := by kernel_rfl
theorem meth_less (a : Addr) (w : World) : (method 275 109 (.pointer (some a)) "Less").run Try.prog w = ((loadVar 107 a) >>= fun v => pure (152, v) : Sem (FuncId × Value)).run Try.prog w := by kernel_rfl
theorem meth_swap (a : Addr) (w : World) : (method 275 109 (.pointer (some a)) "Swap").run Try.prog w = ((loadVar 107 a) >>= fun v => pure (153, v) : Sem (FuncId × Value)).run Try.prog w := by kernel_rfl
theorem meth_pop (a : Addr) (w : World) : (method 275 109 (.pointer (some a)) "Pop").run Try.prog w = .ok (154, .pointer (some a)) w := by kernel_rfl
theorem load_queue (a : Addr) (w : World) (A : Option Addr) (n c : Nat) (hv : w.cell? a = some (.slice A n c)) (f : Nat) : ((loadVar 107 a) >>= fun v => pure (f, v) : Sem (FuncId × Value)).run Try.prog w = .ok (f, .slice A n c) w := by
  have hu := Try.underlying107
  go_simp
def lessP (a b : SPl) : Bool := if a.f1.f0 = b.f1.f0 then decide (b.f0 < a.f0) else decide (b.f1.f0 < a.f1.f0)
set_option maxHeartbeats 1600000 in
set_option maxRecDepth 100000 in
theorem less_calls (g n cap i j : Nat) (xs : List SPl) (p q : SPl) (w : World) (hr : QRow w g xs) (hn : xs.length = n) (hi : xs[i]? = some p) (hj : xs[j]? = some q) (hin : i < n) (hjn : j < n) (hmax : n ≤ 8):
    Calls Try.prog 152 #[.slice (some ⟨g, 0, none⟩) n cap, .int .i64 i, .int .i64 j] w fun e w' => e = .returned (.bool (lessP p q)) ∧ Below w.heap.size w w' := by
  obtain ⟨a0, a1, a2, a3, a4⟩ := hr.cell i p hi
  obtain ⟨b0, b1, b2, b3, b4⟩ := hr.cell j q hj
  have hlt : g < w.heap.size := World.block_lt_of_cell? w _ a0
  have hlt1 : ¬ g = w.heap.size := by omega
  have hlt2 : ¬ g = w.heap.size + 1 := by omega
  have hlt3 : g < w.heap.size + 1 := by omega
  clear hr hi hj hn
  go_enter Try.func152, Try.ntmps152
  go_wp2
  go_region
  go_wp2
  all_goals
    go_ret
    refine ⟨ret_b ?_, ?_⟩
    · unfold lessP
      split <;> first | rfl | (exfalso; omega) | (simp_all; done) | (simp_all; omega)
    · repeat (first | (with_reducible exact Below.refl _ _) | (with_reducible apply below_alloc) | (with_reducible apply below_drew1) | (with_reducible refine below_set ?_ (by omega)))
def atQ (xs : List SPl) (i : Nat) : SPl := xs.getD i z38
theorem getQ {xs : List SPl} {i : Nat} (h : i < xs.length) : xs[i]? = some (atQ xs i) := by rw [atQ, List.getD_eq_getElem?_getD, List.getElem?_eq_getElem h]; rfl
def swapQ (xs : List SPl) (i j : Nat) : List SPl := (xs.set i (atQ xs j)).set j (atQ xs i)
theorem swapQ_length (xs : List SPl) (i j : Nat) : (swapQ xs i j).length = xs.length := by rw [swapQ, List.length_set, List.length_set]
def childQ (xs : List SPl) (i n : Nat) : Nat := if 2 * i + 2 < n ∧ lessP (atQ xs (2 * i + 2)) (atQ xs (2 * i + 1)) = true then 2 * i + 2 else 2 * i + 1
def downL (n : Nat) : Nat → List SPl → Nat → List SPl
  | 0, xs, _ => xs
  | k + 1, xs, i => if 2 * i + 1 < n then (if lessP (atQ xs (childQ xs i n)) (atQ xs i) = true then downL n k (swapQ xs i (childQ xs i n)) (childQ xs i n) else xs) else xs
theorem less_int (g n cap : Nat) (i j : Int) (a b : Nat) (xs : List SPl) (w : World) (hr : QRow w g xs) (hn : xs.length = n) (ha : i = a) (hb : j = b) (hin : a < n) (hjn : b < n) (hmax : n ≤ 8) :
    Calls Try.prog 152 #[.slice (some ⟨g, 0, none⟩) n cap, .int .i64 i, .int .i64 j] w fun e w' => e = .returned (.bool (lessP (atQ xs a) (atQ xs b))) ∧ Below w.heap.size w w' := by
  subst ha
  subst hb
  exact less_calls g n cap a b xs _ _ w hr hn (getQ (by omega)) (getQ (by omega)) hin hjn hmax
theorem swap_int (g n cap : Nat) (i j : Int) (a b : Nat) (xs : List SPl) (w : World) (hr : QRow w g xs) (hn : xs.length = n) (ha : i = a) (hb : j = b) (hij : a < b) (hjn : b < n) (hmax : n ≤ 8) :
    Calls Try.prog 153 #[.slice (some ⟨g, 0, none⟩) n cap, .int .i64 i, .int .i64 j] w fun e w' => e = .returned (.tuple #[]) ∧ QRow w' g (swapQ xs a b) ∧ w.grownBy w' (some g) := by
  subst ha
  subst hb
  exact swap_calls g n cap a b xs _ _ w hr hn (getQ (by omega)) (getQ (by omega)) hij hjn hmax
theorem QRow.grown {w w1 : World} {g : Nat} {xs : List SPl} (h : QRow w g xs) (hb : Below w.heap.size w w1) : QRow w1 g xs := by
  rcases Nat.eq_zero_or_pos xs.length with h0 | h0
  · have : xs = [] := List.length_eq_zero_iff.1 h0
    subst this
    exact ⟨fun i p hi => by simp at hi, fun k hk => by simp at hk⟩
  · have hlt : g < w.heap.size := World.block_lt_of_cell? w _ (h.cell 0 _ (getQ h0)).1
    refine ⟨fun i p hi => ?_, fun k hk => (hb.frozen (p := ⟨g, k, none⟩) hlt).trans (h.free k hk)⟩
    obtain ⟨a0, a1, a2, a3, a4⟩ := h.cell i p hi
    exact ⟨pw_cell_below hb a0, pw_cell_below hb a1, pw_cell_below hb a2, pw_cell_below hb a3, pw_cell_below hb a4⟩
theorem grown_below {w w1 w2 : World} {g : Nat} (h : w.grownBy w1 (some g)) (hb : Below w1.heap.size w1 w2) : w.grownBy w2 (some g) :=
  ⟨hb.os.trans h.os, hb.tape.trans h.tape, hb.output.trans h.output, Nat.le_trans h.size hb.size, fun k hk hne => (hb.block k (Nat.lt_of_lt_of_le hk h.size)).trans (h.block k hk hne)⟩
end Go.Proofs.Ytaibkfgpdgabaaa.P
end

/- A part of the proof of T: what its last text uses; conditions: see there. -/
import Derived.Test.YtaibkfgpdgabaaaTHHeap2
section
namespace Go.Proofs.Ytaibkfgpdgabaaa.P
open Go.RowKit Go.Proofs.YtaibkfgpdgabaaaW.PrintWords Go.Proofs.YtaibkfgpdgabaaaW.PrintLast Go.Proofs.YtaibkfgpdgabaaaW.PrintMore
set_option linter.unusedVariables false
set_option linter.unusedSimpArgs false
theorem len_calls (A : Option Addr) (n c : Nat) (w : World) : Calls Try.prog 86 #[.slice A n c] w fun e w' => e = .returned (.int .i64 n) ∧ w = w' := by
  go_enter Try.func86, Try.ntmps86
  go_wp2
  go_ret
  exact ⟨rfl, rfl⟩
def initL (n : Nat) : Nat → List SPl → List SPl
  | 0, xs => xs
  | k + 1, xs => initL n k (downL n 8 xs k)
theorem downL_length (n : Nat) : ∀ (k : Nat) (xs : List SPl) (i : Nat), (downL n k xs i).length = xs.length
  | 0, _, _ => rfl
  | k + 1, xs, i => by
    rw [downL]
    split
    · split
      · rw [downL_length n k, swapQ_length]
      · rfl
    · rfl
set_option maxHeartbeats 1600000 in
set_option maxRecDepth 100000 in
theorem init_calls (B g n cap : Nat) (xs : List SPl) (w : World) (hv : w.cell? ⟨B, 0, none⟩ = some (.slice (some ⟨g, 0, none⟩) n cap)) (hB : B ≠ g) (hr : QRow w g xs) (hn : xs.length = n) (hmax : n ≤ 8) :
    Calls Try.prog 85 #[.iface 109 (.pointer (some ⟨B, 0, none⟩))] w fun e w' => e = .returned (.tuple #[]) ∧ QRow w' g (initL n (n / 2) xs) ∧ w.grownBy w' (some g) := by
  have hmL := fun (W : World) (h : W.cell? ⟨B, 0, none⟩ = some (.slice (some ⟨g, 0, none⟩) n cap)) => (meth_val ⟨B, 0, none⟩ W).trans (load_queue _ W _ _ _ h _)
  have HR := Aside0.mk hr
  have HN := Lib.hid hn
  have HBG := Aside0.mk hB
  clear hr hn hB
  go_enter Try.func85, Try.ntmps85
  go_wp2_with (go_at_call 86; refine (len_calls _ _ _ _).mono ?_; rintro e w1 ⟨rfl, rfl⟩)
  have HV := Aside0.mk hv
  clear hv
  go_loopw [3] (fun v wr => ∃ (k : Nat) (ys : List SPl), v = .int .i64 ((k : Int) - 1) ∧ k ≤ 4 ∧ Aside0 (QRow wr g ys) ∧ Hid (ys.length = n) ∧ Aside0 (w.grownBy wr (some g)) ∧ Hid (initL n k ys = initL n (n / 2) xs)) (fun v _ => (intOf v + 1).toNat)
  case atStart => exact ⟨n / 2, xs, by go_num, by omega, HR, HN, ⟨grown_refl _ _⟩, Lib.hid rfl⟩
  case round =>
    obtain ⟨k, ys, rfl, hk4, HQ, HYN, HG, HD⟩ := hrel
    have hv1 := HG.out.cell HV.out (by simpa using HBG.out)
    cases k with
    | zero =>
      go_wp2
      go_end0
      exact ⟨rfl, by rw [← HD.out]; exact HQ.out, HG.out⟩
    | succ k =>
      have e1 : (((k + 1 : Nat) : Int) - 1) = (k : Int) := by omega
      rw [e1]
      clear e1
      go_wp2_with (go_at_call 110; refine (down_calls B g n cap n k 8 ys _ hv1 HBG.out HQ.out HYN.out hmax (Nat.le_refl _) (by omega) (by omega)).mono ?_; rintro e w1 ⟨b, rfl, hq, hg⟩; have HQ2 := Aside0.mk hq; have HG2 := Aside0.mk (World.grownBy.trans HG.out hg); clear hq hg)
      go_roundw
      case rel => exact ⟨k, downL n 8 ys k, by go_num, by omega, HQ2, Lib.hid (by rw [downL_length]; exact HYN.out), HG2, Lib.hid (by rw [← HD.out, initL])⟩
      case measure => first | (simp [intOf]; done) | (simp [intOf]; omega)
structure Only2 (w w' : World) (B g : Nat) : Prop where
  os : w'.os = w.os
  tape : w'.tape = w.tape
  output : w'.output = w.output
  size : w.heap.size ≤ w'.heap.size
  block : ∀ k, k < w.heap.size → k ≠ B → k ≠ g → w'.heap[k]? = w.heap[k]?
theorem Only2.of_grown {w w' : World} {B g : Nat} (h : w.grownBy w' (some g)) : Only2 w w' B g := ⟨h.os, h.tape, h.output, h.size, fun k hk _ hg => h.block k hk (by simpa using hg)⟩
theorem Only2.of_below {w w' : World} {B g : Nat} (h : Below w.heap.size w w') : Only2 w w' B g := ⟨h.os, h.tape, h.output, h.size, fun k hk _ _ => h.block k hk⟩
theorem Only2.refl (w : World) (B g : Nat) : Only2 w w B g := ⟨rfl, rfl, rfl, Nat.le_refl _, fun _ _ _ _ => rfl⟩
theorem Only2.trans {w w1 w2 : World} {B g : Nat} (h : Only2 w w1 B g) (k : Only2 w1 w2 B g) : Only2 w w2 B g :=
  ⟨k.os.trans h.os, k.tape.trans h.tape, k.output.trans h.output, Nat.le_trans h.size k.size, fun i hi h1 h2 => (k.block i (Nat.lt_of_lt_of_le hi h.size) h1 h2).trans (h.block i hi h1 h2)⟩
theorem Only2.set {w w1 : World} {B g o : Nat} {v : Value} (h : Only2 w w1 B g) : Only2 w (w1.setCell ⟨B, o, none⟩ v) B g :=
  ⟨h.os, h.tape, h.output, by simpa [World.setCell] using h.size, fun k hk h1 h2 => by rw [Below.heap_setCell w1 ⟨B, o, none⟩ v k h1, h.block k hk h1 h2]⟩
theorem Only2.alloc {w w1 : World} {B g : Nat} (h : Only2 w w1 B g) (o : Obj) : Only2 w (w1.alloc o) B g := h.trans (Only2.of_below (below_alloc (Below.refl _ _) o))
theorem Only2.drew {w w1 : World} {B g : Nat} (h : Only2 w w1 B g) : Only2 w w1.drew B g := ⟨h.os, h.tape, h.output, h.size, h.block⟩
theorem Only2.below {w0 w w1 : World} {B g : Nat} (h : Only2 w w1 B g) (hb : Below w0.heap.size w0 w) (hB : w0.heap.size ≤ B) (hg : w0.heap.size ≤ g) : Below w0.heap.size w0 w1 :=
  ⟨h.os.trans hb.os, h.tape.trans hb.tape, h.output.trans hb.output, Nat.le_trans hb.size h.size, fun k hk => (h.block k (Nat.lt_of_lt_of_le hk hb.size) (by omega) (by omega)).trans (hb.block k hk)⟩
theorem QRow.far {w : World} {g B o : Nat} {v : Value} {xs : List SPl} (h : QRow w g xs) (hB : B ≠ g) : QRow (w.setCell ⟨B, o, none⟩ v) g xs := by
  have ne : ∀ b : Nat, (⟨B, o, none⟩ : Addr) ≠ ⟨g, b, none⟩ := fun b he => by injection he with h1 _ _; exact hB h1
  refine ⟨fun i p hi => ?_, fun k hk => by rw [World.frozen?_setCell]; exact h.free k hk⟩
  obtain ⟨a0, a1, a2, a3, a4⟩ := h.cell i p hi
  refine ⟨?_, ?_, ?_, ?_, ?_⟩ <;> rw [World.cell?_setCell_other _ _ _ _ (ne _)] <;> assumption
theorem QRow.take {w : World} {g : Nat} {xs : List SPl} (h : QRow w g xs) (n : Nat) : QRow w g (xs.take n) := by
  refine ⟨fun i p hi => h.cell i p ?_, fun k hk => h.free k ?_⟩
  · rw [List.getElem?_take] at hi
    split at hi
    · exact hi
    · cases hi
  · rw [List.length_take] at hk
    have : min n xs.length ≤ xs.length := Nat.min_le_right _ _
    omega
def boxP (p : SPl) : Value := .iface 38 (.agg #[.int .i64 p.f0, .int .i64 p.f1.f0, .int .i64 p.f1.f1, .int .i64 p.f1.f2, .int .i64 p.f1.f3])
set_option maxHeartbeats 1600000 in
set_option maxRecDepth 100000 in
theorem qpop_calls (B g n cap : Nat) (xs : List SPl) (w : World) (hv : w.cell? ⟨B, 0, none⟩ = some (.slice (some ⟨g, 0, none⟩) (n + 1) cap)) (hf : w.frozen? ⟨B, 0, none⟩ = false) (hB : B ≠ g) (hr : QRow w g xs) (hn : xs.length = n + 1) (hmax : n + 1 ≤ 8) (hcap : n + 1 ≤ cap) (hcm : cap ≤ maxLen):
    Calls Try.prog 154 #[.pointer (some ⟨B, 0, none⟩)] w fun e w' => e = .returned (boxP (atQ xs n)) ∧ QRow w' g (xs.take n) ∧ w'.cell? ⟨B, 0, none⟩ = some (.slice (some ⟨g, 0, none⟩) n cap) ∧ w'.frozen? ⟨B, 0, none⟩ = false ∧ Only2 w w' B g := by
  obtain ⟨a0, a1, a2, a3, a4⟩ := hr.cell n _ (getQ (by omega))
  have hlt : g < w.heap.size := World.block_lt_of_cell? w _ a0
  have hltB : B < w.heap.size := World.block_lt_of_cell? w _ hv
  have hne1 : ¬ g = w.heap.size := by omega
  have hne2 : ¬ B = w.heap.size := by omega
  have hm : n ≤ 9223372036854775807 := by omega
  have HR := Aside0.mk hr
  clear hr hn
  generalize hp : atQ xs n = p at *
  clear hp
  go_enter Try.func154, Try.ntmps154
  go_wp2
  go_ret
  refine ⟨rfl, ((HR.out.far hB).grown (below_alloc (Below.refl _ _) _)).take n, (World.cell?_alloc_lt _ _ _ (by simpa [World.setCell] using hltB)).trans (World.cell?_setCell_same _ _ _ hv), ?_, ((Only2.refl _ _ _).set).alloc _⟩
  rw [World.frozen?_alloc_old _ _ _ (by simpa [World.setCell] using hne2), World.frozen?_setCell]
  exact hf
theorem grown_frozen {w w' : World} {B g : Nat} {v : Value} (h : w.grownBy w' (some g)) (hv : w.cell? ⟨B, 0, none⟩ = some v) (hf : w.frozen? ⟨B, 0, none⟩ = false) (hB : B ≠ g) : w'.frozen? ⟨B, 0, none⟩ = false := by
  have hb := h.block B (World.block_lt_of_cell? w _ hv) (by simpa using hB)
  unfold World.frozen? at hf ⊢
  rw [hb]
  exact hf
def popL (n : Nat) (xs : List SPl) : List SPl := downL n 8 (if n = 0 then xs else swapQ xs 0 n) 0
theorem popL_length (n : Nat) (xs : List SPl) : (popL n xs).length = xs.length := by
  rw [popL, downL_length]
  split
  · rfl
  · rw [swapQ_length]
set_option maxHeartbeats 1600000 in
set_option maxRecDepth 100000 in
theorem pop_calls (B g n cap : Nat) (xs : List SPl) (w : World) (hv : w.cell? ⟨B, 0, none⟩ = some (.slice (some ⟨g, 0, none⟩) (n + 1) cap)) (hf : w.frozen? ⟨B, 0, none⟩ = false) (hB : B ≠ g) (hr : QRow w g xs) (hn : xs.length = n + 1) (hmax : n + 1 ≤ 8) (hcap : n + 1 ≤ cap) (hcm : cap ≤ maxLen):
    Calls Try.prog 87 #[.iface 109 (.pointer (some ⟨B, 0, none⟩))] w fun e w' => e = .returned (boxP (atQ (popL n xs) n)) ∧ QRow w' g ((popL n xs).take n) ∧ w'.cell? ⟨B, 0, none⟩ = some (.slice (some ⟨g, 0, none⟩) n cap) ∧ w'.frozen? ⟨B, 0, none⟩ = false ∧ Only2 w w' B g := by
  have hmL := fun (W : World) (h : W.cell? ⟨B, 0, none⟩ = some (.slice (some ⟨g, 0, none⟩) (n + 1) cap)) => (meth_val ⟨B, 0, none⟩ W).trans (load_queue _ W _ _ _ h _)
  have hmS := fun (W : World) (h : W.cell? ⟨B, 0, none⟩ = some (.slice (some ⟨g, 0, none⟩) (n + 1) cap)) => (meth_swap ⟨B, 0, none⟩ W).trans (load_queue _ W _ _ _ h _)
  have hmP := fun (W : World) => meth_pop ⟨B, 0, none⟩ W
  have HR := Aside0.mk hr
  have HN := Lib.hid hn
  have HBG := Aside0.mk hB
  clear hr hn hB
  have HPL := Lib.hid (show popL n xs = downL n 8 (if n = 0 then xs else swapQ xs 0 n) 0 from rfl)
  have HL := Lib.hid (popL_length n xs)
  generalize popL n xs = R at *
  go_enter Try.func87, Try.ntmps87
  rcases Nat.eq_zero_or_pos n with hn0 | hn0
  · subst hn0
    have HPZ : Aside0 (R = downL 0 8 xs 0) := ⟨by rw [HPL.out, if_pos rfl]⟩
    go_wp2_with (first | (go_at_call 86; refine (len_calls _ _ _ _).mono ?_; rintro e w1 ⟨rfl, rfl⟩) | (go_at_call 153; (refine (swap_same g 1 cap 0 xs (atQ xs 0) _ HR.out HN.out (getQ (by rw [HN.out]; omega)) (by omega) (by omega)).mono ?_); rintro e w2 ⟨rfl, hq, hg⟩; have HQ2 := Aside0.mk hq; have HG2 := Aside0.mk hg; have hv2 := hg.cell hv (by simpa using HBG.out); have hf2 := grown_frozen hg hv hf HBG.out; clear hq hg) | (go_at_call 110; (refine (down_calls B g 1 cap 0 0 8 xs w2 hv2 HBG.out HQ2.out HN.out (by omega) (by omega) (by omega) (by omega)).mono ?_); rintro e w3 ⟨b, rfl, hq, hg⟩; have HQ3 := Aside0.mk hq; have HG3 := Aside0.mk (World.grownBy.trans HG2.out hg); have hv3 := hg.cell hv2 (by simpa using HBG.out); have hf3 := grown_frozen hg hv2 hf2 HBG.out; clear hq hg) | (go_at_call 154; (refine (qpop_calls B g 0 cap R w3 hv3 hf3 HBG.out (HPZ.out ▸ HQ3.out) (by rw [HL.out]; exact HN.out) (by omega) hcap hcm).mono ?_); rintro e w4 ⟨rfl, hq, hv4, hf4, ho⟩))
    go_ret
    exact ⟨rfl, hq, hv4, hf4, (Only2.of_grown HG3.out).trans ho⟩
  · have hne := Nat.ne_of_gt hn0
    go_wp2_with (first | (go_at_call 86; refine (len_calls _ _ _ _).mono ?_; rintro e w1 ⟨rfl, rfl⟩) | (go_at_call 153; refine (swap_int g (n + 1) cap _ _ 0 n xs _ HR.out HN.out (by omega) (by omega) hn0 (by omega) hmax).mono ?_; rintro e w2 ⟨rfl, hq, hg⟩; have HQ2 := Aside0.mk hq; have HG2 := Aside0.mk hg; have hv2 := hg.cell hv (by simpa using HBG.out); have hf2 := grown_frozen hg hv hf HBG.out; clear hq hg) | (go_at_call 110; refine (down_calls B g (n + 1) cap n 0 8 (swapQ xs 0 n) w2 hv2 HBG.out HQ2.out (by rw [swapQ_length]; exact HN.out) hmax (by omega) (by omega) (by omega)).mono ?_; rintro e w3 ⟨b, rfl, hq, hg⟩; have HQ3 := Aside0.mk hq; have HG3 := Aside0.mk (World.grownBy.trans HG2.out hg); have hv3 := hg.cell hv2 (by simpa using HBG.out); have hf3 := grown_frozen hg hv2 hf2 HBG.out; clear hq hg) | (go_at_call 154; refine (qpop_calls B g n cap R w3 hv3 hf3 HBG.out (by rw [HPL.out, if_neg hne]; exact HQ3.out) (by rw [HL.out]; exact HN.out) hmax hcap hcm).mono ?_; rintro e w4 ⟨rfl, hq, hv4, hf4, ho⟩))
    go_ret
    exact ⟨rfl, hq, hv4, hf4, (Only2.of_grown HG3.out).trans ho⟩
end Go.Proofs.Ytaibkfgpdgabaaa.P
end

/- A part of the proof of T: what its last text uses; conditions: see there. -/
import Derived.Test.YtaibkfgpdgabaaaTHActive
import Derived.Test.YtaibkfgpdgabaaaTHMay
import Derived.Test.YtaibkfgpdgabaaaTHFailed
import Derived.Test.YtaibkfgpdgabaaaTP1x0
section
namespace Go.Proofs.Ytaibkfgpdgabaaa.P
open Go.RowKit Go.Proofs.YtaibkfgpdgabaaaW.PrintWords Go.Proofs.YtaibkfgpdgabaaaW.PrintLast Go.Proofs.YtaibkfgpdgabaaaW.PrintMore
set_option linter.unusedVariables false
set_option linter.unusedSimpArgs false
theorem norMay_calls (f : ByteArray) (w : World) : Calls Try.prog 42 #[.string f] w fun e w' => e = .returned (.bool (decide ((f.size : Int) = 768))) ∧ w = w' := by
  go_enter Try.func42, Try.ntmps42
  go_wp2
  go_ret
  exact ⟨ret_b (by rfl), rfl⟩
theorem value_calls (x : Int) (w : World) : Calls Try.prog 44 #[.int .i64 x] w fun e w' => e = .returned (.bool (decide (0 ≤ x) && decide (x ≤ 65535))) ∧ w = w' := by
  go_enter Try.func44, Try.ntmps44
  go_wp2
  all_goals
    go_ret
    exact ⟨ret_b (by first | (simp [*]; done) | (simp [*]; omega)), rfl⟩
theorem length_calls (x : Int) (w : World) : Calls Try.prog 45 #[.int .i64 x] w fun e w' => e = .returned (.bool (decide (0 ≤ x) && decide (x ≤ 32))) ∧ w = w' := by
  go_enter Try.func45, Try.ntmps45
  go_wp2
  all_goals
    go_ret
    exact ⟨ret_b (by first | (simp [*]; done) | (simp [*]; omega)), rfl⟩
structure GW (w W : World) (a0 a1 a2 a3 a4 : Int) (A : Option Addr) (n c : Nat) : Prop where
  size : W.heap.size = w.heap.size + 2
  below : Below w.heap.size w W
  d0 : W.cell? ⟨w.heap.size, 0, none⟩ = some (.int .i64 a0)
  d1 : W.cell? ⟨w.heap.size, 1, none⟩ = some (.int .i64 a1)
  d2 : W.cell? ⟨w.heap.size, 2, none⟩ = some (.int .i64 a2)
  d3 : W.cell? ⟨w.heap.size, 3, none⟩ = some (.int .i64 a3)
  d4 : W.cell? ⟨w.heap.size, 4, none⟩ = some (.int .i64 a4)
  d5 : W.cell? ⟨w.heap.size, 5, none⟩ = some (.slice A n c)
  z0 : W.cell? ⟨w.heap.size + 1, 0, none⟩ = some (.int .i64 0)
  z1 : W.cell? ⟨w.heap.size + 1, 1, none⟩ = some (.int .i64 0)
  z2 : W.cell? ⟨w.heap.size + 1, 2, none⟩ = some (.int .i64 0)
  z3 : W.cell? ⟨w.heap.size + 1, 3, none⟩ = some (.int .i64 0)
  z4 : W.cell? ⟨w.heap.size + 1, 4, none⟩ = some (.int .i64 0)
  z5 : W.cell? ⟨w.heap.size + 1, 5, none⟩ = some (.slice none 0 0)
  free : ∀ o, W.frozen? ⟨w.heap.size + 1, o, none⟩ = false
theorem gw_mk (w : World) (a0 a1 a2 a3 a4 : Int) (A : Option Addr) (n c : Nat) : GW w ((w.alloc (Obj.cells #[.int .i64 a0, .int .i64 a1, .int .i64 a2, .int .i64 a3, .int .i64 a4, .slice A n c] 26)).alloc (Obj.cells #[.int .i64 0, .int .i64 0, .int .i64 0, .int .i64 0, .int .i64 0, .slice none 0 0] 26)) a0 a1 a2 a3 a4 A n c := by
  have h1 : (w.alloc (Obj.cells #[.int .i64 a0, .int .i64 a1, .int .i64 a2, .int .i64 a3, .int .i64 a4, .slice A n c] 26)).heap.size = w.heap.size + 1 := Array.size_push _
  have hb : Below w.heap.size w (w.alloc (Obj.cells #[.int .i64 a0, .int .i64 a1, .int .i64 a2, .int .i64 a3, .int .i64 a4, .slice A n c] 26)) := below_alloc (Below.refl _ _) _
  have hl : ∀ o, (((w.alloc (Obj.cells #[.int .i64 a0, .int .i64 a1, .int .i64 a2, .int .i64 a3, .int .i64 a4, .slice A n c] 26)).alloc (Obj.cells #[.int .i64 0, .int .i64 0, .int .i64 0, .int .i64 0, .int .i64 0, .slice none 0 0] 26)).cell? ⟨w.heap.size, o, none⟩) = (w.alloc (Obj.cells #[.int .i64 a0, .int .i64 a1, .int .i64 a2, .int .i64 a3, .int .i64 a4, .slice A n c] 26)).cell? ⟨w.heap.size, o, none⟩ := fun o => (below_alloc (Below.refl _ _) _ : Below (w.alloc (Obj.cells #[.int .i64 a0, .int .i64 a1, .int .i64 a2, .int .i64 a3, .int .i64 a4, .slice A n c] 26)).heap.size (w.alloc (Obj.cells #[.int .i64 a0, .int .i64 a1, .int .i64 a2, .int .i64 a3, .int .i64 a4, .slice A n c] 26)) ((w.alloc (Obj.cells #[.int .i64 a0, .int .i64 a1, .int .i64 a2, .int .i64 a3, .int .i64 a4, .slice A n c] 26)).alloc (Obj.cells #[.int .i64 0, .int .i64 0, .int .i64 0, .int .i64 0, .int .i64 0, .slice none 0 0] 26))).cell (p := ⟨w.heap.size, o, none⟩) (by rw [h1]; exact Nat.lt_succ_self _)
  have hn : ∀ o, (((w.alloc (Obj.cells #[.int .i64 a0, .int .i64 a1, .int .i64 a2, .int .i64 a3, .int .i64 a4, .slice A n c] 26)).alloc (Obj.cells #[.int .i64 0, .int .i64 0, .int .i64 0, .int .i64 0, .int .i64 0, .slice none 0 0] 26)).cell? ⟨w.heap.size + 1, o, none⟩) = (#[.int .i64 0, .int .i64 0, .int .i64 0, .int .i64 0, .int .i64 0, .slice none 0 0] : Array Value)[o]? := fun o => by rw [← h1]; exact World.cell?_alloc_new _ _ _ _
  refine ⟨(Array.size_push _).trans (by rw [h1]), hb.trans ((below_alloc (Below.refl _ _) _ : Below (w.alloc (Obj.cells #[.int .i64 a0, .int .i64 a1, .int .i64 a2, .int .i64 a3, .int .i64 a4, .slice A n c] 26)).heap.size (w.alloc (Obj.cells #[.int .i64 a0, .int .i64 a1, .int .i64 a2, .int .i64 a3, .int .i64 a4, .slice A n c] 26)) ((w.alloc (Obj.cells #[.int .i64 a0, .int .i64 a1, .int .i64 a2, .int .i64 a3, .int .i64 a4, .slice A n c] 26)).alloc (Obj.cells #[.int .i64 0, .int .i64 0, .int .i64 0, .int .i64 0, .int .i64 0, .slice none 0 0] 26))).mono (by rw [h1]; exact Nat.le_succ _)), ?_, ?_, ?_, ?_, ?_, ?_, hn 0, hn 1, hn 2, hn 3, hn 4, hn 5, fun o => by rw [← h1]; exact World.frozen?_alloc_new _ _ _ _⟩ <;> rw [hl] <;> exact World.cell?_alloc_new _ _ _ _
theorem GW.to {w W wr : World} {a0 a1 a2 a3 a4 : Int} {A : Option Addr} {n c : Nat} (k : GW w W a0 a1 a2 a3 a4 A n c) (h : Below (w.heap.size + 2) W wr) :
    (wr.cell? ⟨w.heap.size, 0, none⟩ = some (.int .i64 a0) ∧ wr.cell? ⟨w.heap.size, 1, none⟩ = some (.int .i64 a1) ∧ wr.cell? ⟨w.heap.size, 2, none⟩ = some (.int .i64 a2) ∧ wr.cell? ⟨w.heap.size, 3, none⟩ = some (.int .i64 a3) ∧ wr.cell? ⟨w.heap.size, 4, none⟩ = some (.int .i64 a4) ∧ wr.cell? ⟨w.heap.size, 5, none⟩ = some (.slice A n c)) ∧ (wr.cell? ⟨w.heap.size + 1, 0, none⟩ = some (.int .i64 0) ∧ wr.cell? ⟨w.heap.size + 1, 1, none⟩ = some (.int .i64 0) ∧ wr.cell? ⟨w.heap.size + 1, 2, none⟩ = some (.int .i64 0) ∧ wr.cell? ⟨w.heap.size + 1, 3, none⟩ = some (.int .i64 0) ∧ wr.cell? ⟨w.heap.size + 1, 4, none⟩ = some (.int .i64 0) ∧ wr.cell? ⟨w.heap.size + 1, 5, none⟩ = some (.slice none 0 0)) ∧ (∀ o, wr.frozen? ⟨w.heap.size + 1, o, none⟩ = false) ∧ Below w.heap.size w wr ∧ w.heap.size + 2 ≤ wr.heap.size := by
  have hc : ∀ o, wr.cell? ⟨w.heap.size, o, none⟩ = W.cell? ⟨w.heap.size, o, none⟩ := fun o => h.cell (p := ⟨w.heap.size, o, none⟩) (Nat.lt_succ_of_lt (Nat.lt_succ_self _))
  have hz : ∀ o, wr.cell? ⟨w.heap.size + 1, o, none⟩ = W.cell? ⟨w.heap.size + 1, o, none⟩ := fun o => h.cell (p := ⟨w.heap.size + 1, o, none⟩) (Nat.lt_succ_self _)
  have hf : ∀ o, wr.frozen? ⟨w.heap.size + 1, o, none⟩ = W.frozen? ⟨w.heap.size + 1, o, none⟩ := fun o => h.frozen (p := ⟨w.heap.size + 1, o, none⟩) (Nat.lt_succ_self _)
  exact ⟨⟨(hc 0).trans k.d0, (hc 1).trans k.d1, (hc 2).trans k.d2, (hc 3).trans k.d3, (hc 4).trans k.d4, (hc 5).trans k.d5⟩, ⟨(hz 0).trans k.z0, (hz 1).trans k.z1, (hz 2).trans k.z2, (hz 3).trans k.z3, (hz 4).trans k.z4, (hz 5).trans k.z5⟩, fun o => (hf o).trans (k.free o), k.below.trans (h.mono (by omega)), k.size ▸ h.size⟩
def giveMayB (f : ByteArray) (a0 a1 a2 a3 a4 : Int) (l : List S59) (b n : Int) : Bool := decide ((f.size : Int) = 768) && devMayB a0 a1 a2 a3 a4 l && (decide (a0 = 0) || decide (a0 = 6)) && (decide (0 ≤ b) && decide (b ≤ 65535)) && (decide (0 ≤ n) && decide (n ≤ 32))
theorem give_contra {f : ByteArray} {a0 a1 a2 a3 a4 : Int} {l : List S59} {b n : Int} (h1 : (f.size : Int) = 768) (h2 : devMayB a0 a1 a2 a3 a4 l = true) (h3 : a0 = 0 ∨ a0 = 6) (h4 : 0 ≤ b ∧ b ≤ 65535) (h5 : (!decide (0 ≤ n)) = false ∧ (!decide (n ≤ 32)) = false) (H : giveMayB f a0 a1 a2 a3 a4 l b n = false) : False := by
  simp only [Bool.not_eq_false', decide_eq_true_eq] at h5
  rw [giveMayB, h2] at H
  simp [h1, h4, h5] at H
  omega
set_option maxHeartbeats 1600000 in
set_option maxRecDepth 100000 in
theorem give_no (f : ByteArray) (a0 a1 a2 a3 a4 : Int) (A : Option Addr) (c : Nat) (l : List S59) (b n : Int) (w : World) (hr : Kd.C k59 w A l.length l) (hc : l.length ≤ c) (h : giveMayB f a0 a1 a2 a3 a4 l b n = false) :
    Calls Try.prog 17 #[.string f, .agg #[.int .i64 a0, .int .i64 a1, .int .i64 a2, .int .i64 a3, .int .i64 a4, .slice A l.length c], .int .i64 b, .int .i64 n] w fun e w' => e = .returned (.tuple #[.agg #[.int .i64 0, .int .i64 0, .int .i64 0, .int .i64 0, .int .i64 0, .slice none 0 0], .string ⟨#[]⟩, .int .i64 2000]) ∧ Below w.heap.size w w' := by
  have H := Lib.hid h
  clear h
  have HW := Aside0.mk (gw_mk w a0 a1 a2 a3 a4 A l.length c)
  have HRC := Aside0.mk hr
  clear hr
  go_enter Try.func17, Try.ntmps17
  go_wp2_with (fail)
  generalize (w.alloc (Obj.cells #[.int .i64 a0, .int .i64 a1, .int .i64 a2, .int .i64 a3, .int .i64 a4, .slice A l.length c] 26)).alloc (Obj.cells #[.int .i64 0, .int .i64 0, .int .i64 0, .int .i64 0, .int .i64 0, .slice none 0 0] 26) = W at *
  have HB := Aside0.mk (Below.refl (w.heap.size + 2) W)
  obtain ⟨⟨d0, d1, d2, d3, d4, d5⟩, ⟨z0, z1, z2, z3, z4, z5⟩, zf, hb, hs⟩ := HW.out.to HB.out
  go_wp2_with (first | (go_at_call 42; refine (norMay_calls _ _).mono ?_; rintro e w' ⟨rfl, rfl⟩) | (go_at_call 44; refine (value_calls _ _).mono ?_; rintro e w' ⟨rfl, rfl⟩) | (go_at_call 45; refine (length_calls _ _).mono ?_; rintro e w' ⟨rfl, rfl⟩) | (go_at_call 43; refine (device_may a0 a1 a2 a3 a4 A c l _ (Kd.C_below HRC.out HW.out.below)).mono ?_; rintro e w1 ⟨rfl, hb1⟩; have HB := Aside0.mk (hb1.mono (Nat.le_of_eq HW.out.size.symm)); clear hb1; clear d0 d1 d2 d3 d4 d5 z0 z1 z2 z3 z4 z5 zf hb hs; obtain ⟨⟨d0, d1, d2, d3, d4, d5⟩, ⟨z0, z1, z2, z3, z4, z5⟩, zf, hb, hs⟩ := HW.out.to HB.out) | (go_at_call 46; exact (give_contra (by assumption) (by assumption) (by first | exact .inl (by assumption) | exact .inr (by assumption)) (by assumption) (by assumption) H.out).elim))
  all_goals
    refine bodyPost_ret (v := .tuple #[.agg #[.int .i64 0, .int .i64 0, .int .i64 0, .int .i64 0, .int .i64 0, .slice none 0 0], .string ⟨#[]⟩, .int .i64 2000]) (by simp [results, Try.results17, go_sem, *]) rfl ⟨rfl, ?_⟩
    repeat (first | (with_reducible exact hb) | (with_reducible refine below_set ?_ (Nat.le_succ _)))
theorem below5' {n : Nat} {W w1 X w5 : World} (h : Below n W w1) (h5 : Below X.heap.size X w5) (hX : Below w1.heap.size w1 X) (hn : n ≤ w1.heap.size) : Below n W w5 :=
  (h.trans (hX.mono hn)).trans (h5.mono (Nat.le_trans hn hX.size))
set_option maxHeartbeats 1600000 in
set_option maxRecDepth 100000 in
theorem give_file (f : ByteArray) (a0 a1 a2 a3 a4 : Int) (A : Option Addr) (c : Nat) (l : List S59) (b n : Int) (p0 p1 p2 p3 p4 p5 : Int) (w : World) (hr : Kd.C k59 w A l.length l) (hc : l.length ≤ c) (h : giveMayB f a0 a1 a2 a3 a4 l b n = true) (ha : choose_Active.f f = some (p0, p1, p2, p3, p4, p5)) (h5 : ¬ p5 = 0) :
    Calls Try.prog 17 #[.string f, .agg #[.int .i64 a0, .int .i64 a1, .int .i64 a2, .int .i64 a3, .int .i64 a4, .slice A l.length c], .int .i64 b, .int .i64 n] w fun e w' => e = .returned (.tuple #[.agg #[.int .i64 7, .int .i64 2, .int .i64 0, .int .i64 0, .int .i64 0, .slice none 0 0], .string ⟨#[]⟩, .int .i64 0]) ∧ Below w.heap.size w w' := by
  have HA := Aside0.mk ha
  simp only [giveMayB, Bool.and_eq_true, Bool.or_eq_true, decide_eq_true_eq] at h
  obtain ⟨⟨⟨⟨h1, h2⟩, h3⟩, h4, h4'⟩, h6, h6'⟩ := h
  have e5 : (p5 != 0) = true := by simp [h5]
  have e6 : (p5 == 0) = false := by simp [h5]
  clear ha
  rcases h3 with rfl | rfl
  · have HW := Aside0.mk (gw_mk w 0 a1 a2 a3 a4 A l.length c)
    have HRC := Aside0.mk hr
    clear hr
    go_enter Try.func17, Try.ntmps17
    go_wp2_with (fail)
    generalize (w.alloc (Obj.cells #[.int .i64 0, .int .i64 a1, .int .i64 a2, .int .i64 a3, .int .i64 a4, .slice A l.length c] 26)).alloc (Obj.cells #[.int .i64 0, .int .i64 0, .int .i64 0, .int .i64 0, .int .i64 0, .slice none 0 0] 26) = W at *
    have HB := Aside0.mk (Below.refl (w.heap.size + 2) W)
    obtain ⟨⟨d0, d1, d2, d3, d4, d5⟩, ⟨z0, z1, z2, z3, z4, z5⟩, zf, hb, hs⟩ := HW.out.to HB.out
    go_wp2_with (first | (go_at_call 42; refine (norMay_calls _ _).mono ?_; rintro e w' ⟨rfl, rfl⟩) | (go_at_call 44; refine (value_calls _ _).mono ?_; rintro e w' ⟨rfl, rfl⟩) | (go_at_call 45; refine (length_calls _ _).mono ?_; rintro e w' ⟨rfl, rfl⟩) | (go_at_call 43; refine (device_may 0 a1 a2 a3 a4 A c l _ (Kd.C_below HRC.out HW.out.below)).mono ?_; rintro e w1 ⟨rfl, hb1⟩; have HB := Aside0.mk (hb1.mono (Nat.le_of_eq HW.out.size.symm)); clear hb1; clear d0 d1 d2 d3 d4 d5 z0 z1 z2 z3 z4 z5 zf hb hs; obtain ⟨⟨d0, d1, d2, d3, d4, d5⟩, ⟨z0, z1, z2, z3, z4, z5⟩, zf, hb, hs⟩ := HW.out.to HB.out) | (go_at_call 46; refine (choose_Active.calls f _ _ _ _ _ _ _ HA.out).mono ?_; rintro e w2 ⟨rfl, hb2⟩; have HB0 := Aside0.mk (below5' HB.out hb2 (by repeat (first | (with_reducible exact Below.refl _ _) | (with_reducible apply below_alloc) | (with_reducible apply below_drew1) | (with_reducible refine below_set ?_ (Nat.le_refl _)))) hs); clear HB; have HB := HB0; clear HB0; clear d0 d1 d2 d3 d4 d5 z0 z1 z2 z3 z4 z5 zf hb hs; clear hb2; obtain ⟨⟨d0, d1, d2, d3, d4, d5⟩, ⟨z0, z1, z2, z3, z4, z5⟩, zf, hb, hs⟩ := HW.out.to HB.out; have q0 : ¬ w.heap.size = w2.heap.size := (by omega); have q1 : ¬ w.heap.size + 1 = w2.heap.size := (by omega); have q2 : w.heap.size < w2.heap.size := (by omega); have q3 : w.heap.size + 1 < w2.heap.size := (by omega)) | (go_at_call 47; refine (failed_calls 2 _).mono ?_; rintro e w9 ⟨rfl, hb9⟩; have HB0 := Aside0.mk (below5' HB.out hb9 (by repeat (first | (with_reducible exact Below.refl _ _) | (with_reducible apply below_alloc) | (with_reducible apply below_drew1) | (with_reducible refine below_set ?_ (Nat.le_refl _)))) hs); clear HB; have HB := HB0; clear HB0; clear d0 d1 d2 d3 d4 d5 z0 z1 z2 z3 z4 z5 zf hb hs; clear hb9; obtain ⟨⟨d0, d1, d2, d3, d4, d5⟩, ⟨z0, z1, z2, z3, z4, z5⟩, zf, hb, hs⟩ := HW.out.to HB.out; have q0 : ¬ w.heap.size = w9.heap.size := (by omega); have q1 : ¬ w.heap.size + 1 = w9.heap.size := (by omega); have q2 : w.heap.size < w9.heap.size := (by omega); have q3 : w.heap.size + 1 < w9.heap.size := (by omega)))
    refine bodyPost_ret (v := .tuple #[.agg #[.int .i64 7, .int .i64 2, .int .i64 0, .int .i64 0, .int .i64 0, .slice none 0 0], .string ⟨#[]⟩, .int .i64 0]) (by simp [results, Try.results17, go_sem, *]) rfl ⟨rfl, ?_⟩
    repeat (first | (with_reducible exact hb) | (with_reducible refine below_set ?_ (Nat.le_succ _)))
  · have HW := Aside0.mk (gw_mk w 6 a1 a2 a3 a4 A l.length c)
    have HRC := Aside0.mk hr
    clear hr
    go_enter Try.func17, Try.ntmps17
    go_wp2_with (fail)
    generalize (w.alloc (Obj.cells #[.int .i64 6, .int .i64 a1, .int .i64 a2, .int .i64 a3, .int .i64 a4, .slice A l.length c] 26)).alloc (Obj.cells #[.int .i64 0, .int .i64 0, .int .i64 0, .int .i64 0, .int .i64 0, .slice none 0 0] 26) = W at *
    have HB := Aside0.mk (Below.refl (w.heap.size + 2) W)
    obtain ⟨⟨d0, d1, d2, d3, d4, d5⟩, ⟨z0, z1, z2, z3, z4, z5⟩, zf, hb, hs⟩ := HW.out.to HB.out
    go_wp2_with (first | (go_at_call 42; refine (norMay_calls _ _).mono ?_; rintro e w' ⟨rfl, rfl⟩) | (go_at_call 44; refine (value_calls _ _).mono ?_; rintro e w' ⟨rfl, rfl⟩) | (go_at_call 45; refine (length_calls _ _).mono ?_; rintro e w' ⟨rfl, rfl⟩) | (go_at_call 43; refine (device_may 6 a1 a2 a3 a4 A c l _ (Kd.C_below HRC.out HW.out.below)).mono ?_; rintro e w1 ⟨rfl, hb1⟩; have HB := Aside0.mk (hb1.mono (Nat.le_of_eq HW.out.size.symm)); clear hb1; clear d0 d1 d2 d3 d4 d5 z0 z1 z2 z3 z4 z5 zf hb hs; obtain ⟨⟨d0, d1, d2, d3, d4, d5⟩, ⟨z0, z1, z2, z3, z4, z5⟩, zf, hb, hs⟩ := HW.out.to HB.out) | (go_at_call 46; refine (choose_Active.calls f _ _ _ _ _ _ _ HA.out).mono ?_; rintro e w2 ⟨rfl, hb2⟩; have HB0 := Aside0.mk (below5' HB.out hb2 (by repeat (first | (with_reducible exact Below.refl _ _) | (with_reducible apply below_alloc) | (with_reducible apply below_drew1) | (with_reducible refine below_set ?_ (Nat.le_refl _)))) hs); clear HB; have HB := HB0; clear HB0; clear d0 d1 d2 d3 d4 d5 z0 z1 z2 z3 z4 z5 zf hb hs; clear hb2; obtain ⟨⟨d0, d1, d2, d3, d4, d5⟩, ⟨z0, z1, z2, z3, z4, z5⟩, zf, hb, hs⟩ := HW.out.to HB.out; have q0 : ¬ w.heap.size = w2.heap.size := (by omega); have q1 : ¬ w.heap.size + 1 = w2.heap.size := (by omega); have q2 : w.heap.size < w2.heap.size := (by omega); have q3 : w.heap.size + 1 < w2.heap.size := (by omega)) | (go_at_call 47; refine (failed_calls 2 _).mono ?_; rintro e w9 ⟨rfl, hb9⟩; have HB0 := Aside0.mk (below5' HB.out hb9 (by repeat (first | (with_reducible exact Below.refl _ _) | (with_reducible apply below_alloc) | (with_reducible apply below_drew1) | (with_reducible refine below_set ?_ (Nat.le_refl _)))) hs); clear HB; have HB := HB0; clear HB0; clear d0 d1 d2 d3 d4 d5 z0 z1 z2 z3 z4 z5 zf hb hs; clear hb9; obtain ⟨⟨d0, d1, d2, d3, d4, d5⟩, ⟨z0, z1, z2, z3, z4, z5⟩, zf, hb, hs⟩ := HW.out.to HB.out; have q0 : ¬ w.heap.size = w9.heap.size := (by omega); have q1 : ¬ w.heap.size + 1 = w9.heap.size := (by omega); have q2 : w.heap.size < w9.heap.size := (by omega); have q3 : w.heap.size + 1 < w9.heap.size := (by omega)))
    refine bodyPost_ret (v := .tuple #[.agg #[.int .i64 7, .int .i64 2, .int .i64 0, .int .i64 0, .int .i64 0, .slice none 0 0], .string ⟨#[]⟩, .int .i64 0]) (by simp [results, Try.results17, go_sem, *]) rfl ⟨rfl, ?_⟩
    repeat (first | (with_reducible exact hb) | (with_reducible refine below_set ?_ (Nat.le_succ _)))
theorem below5z {w w1 X : World} (h : Below w1.heap.size w1 X) (hs : w.heap.size + 2 ≤ w1.heap.size) : Below w.heap.size w1 X := h.mono (by omega)
set_option maxHeartbeats 1600000 in
set_option maxRecDepth 100000 in
theorem give_addr (f : ByteArray) (a0 a1 a2 a3 a4 : Int) (A : Option Addr) (c : Nat) (l : List S59) (b n : Int) (p0 p1 p2 p3 p4 p5 : Int) (w : World) (hr : Kd.C k59 w A l.length l) (hc : l.length ≤ c) (h : giveMayB f a0 a1 a2 a3 a4 l b n = true) (ha : choose_Active.f f = some (p0, p1, p2, p3, p4, p5)) (h5 : p5 = 0) (hne : ¬ b = if a0 = 0 then 0 else a2) :
    Calls Try.prog 17 #[.string f, .agg #[.int .i64 a0, .int .i64 a1, .int .i64 a2, .int .i64 a3, .int .i64 a4, .slice A l.length c], .int .i64 b, .int .i64 n] w fun e w' => e = .returned (.tuple #[.agg #[.int .i64 7, .int .i64 4, .int .i64 0, .int .i64 0, .int .i64 0, .slice none 0 0], .string ⟨#[]⟩, .int .i64 0]) ∧ Below w.heap.size w w' := by
  have HA := Aside0.mk ha
  simp only [giveMayB, Bool.and_eq_true, Bool.or_eq_true, decide_eq_true_eq] at h
  obtain ⟨⟨⟨⟨h1, h2⟩, h3⟩, h4, h4'⟩, h6, h6'⟩ := h
  subst h5
  clear ha
  have hl : l.length ≤ 768 := by
    simp only [devMayB, Bool.and_eq_true, decide_eq_true_eq] at h2
    omega
  have HCP := Aside0.mk (show device_Copy.f a0 a1 a2 a3 a4 l = some (a0, a1, a2, a3, a4, l) by rw [device_Copy.f, api_Op.f, if_pos (by omega)]; rfl)
  rcases h3 with rfl | rfl
  · have hnb : ¬ b = 0 := by simpa using hne
    clear hne hl
    have HW := Aside0.mk (gw_mk w 0 a1 a2 a3 a4 A l.length c)
    have HRC := Aside0.mk hr
    clear hr
    go_enter Try.func17, Try.ntmps17
    go_wp2_with (fail)
    generalize (w.alloc (Obj.cells #[.int .i64 0, .int .i64 a1, .int .i64 a2, .int .i64 a3, .int .i64 a4, .slice A l.length c] 26)).alloc (Obj.cells #[.int .i64 0, .int .i64 0, .int .i64 0, .int .i64 0, .int .i64 0, .slice none 0 0] 26) = W at *
    have HB := Aside0.mk (Below.refl (w.heap.size + 2) W)
    obtain ⟨⟨d0, d1, d2, d3, d4, d5⟩, ⟨z0, z1, z2, z3, z4, z5⟩, zf, hb, hs⟩ := HW.out.to HB.out
    go_wp2_with (first | (go_at_call 42; refine (norMay_calls _ _).mono ?_; rintro e w' ⟨rfl, rfl⟩) | (go_at_call 44; refine (value_calls _ _).mono ?_; rintro e w' ⟨rfl, rfl⟩) | (go_at_call 45; refine (length_calls _ _).mono ?_; rintro e w' ⟨rfl, rfl⟩) | (go_at_call 43; refine (device_may 0 a1 a2 a3 a4 A c l _ (Kd.C_below HRC.out HW.out.below)).mono ?_; rintro e w1 ⟨rfl, hb1⟩; have HB := Aside0.mk (hb1.mono (Nat.le_of_eq HW.out.size.symm)); clear hb1; clear d0 d1 d2 d3 d4 d5 z0 z1 z2 z3 z4 z5 zf hb hs; obtain ⟨⟨d0, d1, d2, d3, d4, d5⟩, ⟨z0, z1, z2, z3, z4, z5⟩, zf, hb, hs⟩ := HW.out.to HB.out) | (go_at_call 46; refine (choose_Active.calls f _ _ _ _ _ _ _ HA.out).mono ?_; rintro e w2 ⟨rfl, hb2⟩; have HB0 := Aside0.mk (below5' HB.out hb2 (by repeat (first | (with_reducible exact Below.refl _ _) | (with_reducible apply below_alloc) | (with_reducible apply below_drew1) | (with_reducible refine below_set ?_ (Nat.le_refl _)))) hs); clear HB; have HB := HB0; clear HB0; clear d0 d1 d2 d3 d4 d5 z0 z1 z2 z3 z4 z5 zf hb hs; clear hb2; obtain ⟨⟨d0, d1, d2, d3, d4, d5⟩, ⟨z0, z1, z2, z3, z4, z5⟩, zf, hb, hs⟩ := HW.out.to HB.out; have q0 : ¬ w.heap.size = w2.heap.size := (by omega); have q1 : ¬ w.heap.size + 1 = w2.heap.size := (by omega); have q2 : w.heap.size < w2.heap.size := (by omega); have q3 : w.heap.size + 1 < w2.heap.size := (by omega)) | (go_at_call 48; refine (device_Copy.calls 0 a1 a2 a3 a4 A c l 0 a1 a2 a3 a4 l _ (Kd.C_below HRC.out (hb.trans (below5z (by repeat (first | (with_reducible exact Below.refl _ _) | (with_reducible apply below_alloc) | (with_reducible apply below_drew1) | (with_reducible refine below_set ?_ (Nat.le_refl _)))) hs))) hc HCP.out).mono ?_; rintro e w4 ⟨v5, rfl, ho, hb4⟩; obtain ⟨A5, c5, rfl, hc5, _⟩ := Kd.R_reads ho; have HO := Aside0.mk ho; have HS4 := Aside0.mk hb4.size; clear ho hc5; have HB0 := Aside0.mk (below5' HB.out hb4 (by repeat (first | (with_reducible exact Below.refl _ _) | (with_reducible apply below_alloc) | (with_reducible apply below_drew1) | (with_reducible refine below_set ?_ (Nat.le_refl _)))) hs); clear HB; have HB := HB0; clear HB0; clear d0 d1 d2 d3 d4 d5 z0 z1 z2 z3 z4 z5 zf hb hs; clear hb4; obtain ⟨⟨d0, d1, d2, d3, d4, d5⟩, ⟨z0, z1, z2, z3, z4, z5⟩, zf, hb, hs⟩ := HW.out.to HB.out; have q0 : ¬ w.heap.size = w4.heap.size := (by omega); have q1 : ¬ w.heap.size + 1 = w4.heap.size := (by omega); have q2 : w.heap.size < w4.heap.size := (by omega); have q3 : w.heap.size + 1 < w4.heap.size := (by omega)) | (go_at_call 47; refine (failed_calls 4 _).mono ?_; rintro e w9 ⟨rfl, hb9⟩; have HB0 := Aside0.mk (below5' HB.out hb9 (by repeat (first | (with_reducible exact Below.refl _ _) | (with_reducible apply below_alloc) | (with_reducible apply below_drew1) | (with_reducible refine below_set ?_ (Nat.le_refl _)))) hs); clear HB; have HB := HB0; clear HB0; clear d0 d1 d2 d3 d4 d5 z0 z1 z2 z3 z4 z5 zf hb hs; clear hb9; obtain ⟨⟨d0, d1, d2, d3, d4, d5⟩, ⟨z0, z1, z2, z3, z4, z5⟩, zf, hb, hs⟩ := HW.out.to HB.out; have q0 : ¬ w.heap.size = w9.heap.size := (by omega); have q1 : ¬ w.heap.size + 1 = w9.heap.size := (by omega); have q2 : w.heap.size < w9.heap.size := (by omega); have q3 : w.heap.size + 1 < w9.heap.size := (by omega)))
    refine bodyPost_ret (v := .tuple #[.agg #[.int .i64 7, .int .i64 4, .int .i64 0, .int .i64 0, .int .i64 0, .slice none 0 0], .string ⟨#[]⟩, .int .i64 0]) (by simp [results, Try.results17, go_sem, *]) rfl ⟨rfl, ?_⟩
    repeat (first | (with_reducible exact hb) | (with_reducible refine below_set ?_ (Nat.le_succ _)))
  · have hnb : ¬ b = a2 := by simpa using hne
    clear hne hl
    have HW := Aside0.mk (gw_mk w 6 a1 a2 a3 a4 A l.length c)
    have HRC := Aside0.mk hr
    clear hr
    go_enter Try.func17, Try.ntmps17
    go_wp2_with (fail)
    generalize (w.alloc (Obj.cells #[.int .i64 6, .int .i64 a1, .int .i64 a2, .int .i64 a3, .int .i64 a4, .slice A l.length c] 26)).alloc (Obj.cells #[.int .i64 0, .int .i64 0, .int .i64 0, .int .i64 0, .int .i64 0, .slice none 0 0] 26) = W at *
    have HB := Aside0.mk (Below.refl (w.heap.size + 2) W)
    obtain ⟨⟨d0, d1, d2, d3, d4, d5⟩, ⟨z0, z1, z2, z3, z4, z5⟩, zf, hb, hs⟩ := HW.out.to HB.out
    go_wp2_with (first | (go_at_call 42; refine (norMay_calls _ _).mono ?_; rintro e w' ⟨rfl, rfl⟩) | (go_at_call 44; refine (value_calls _ _).mono ?_; rintro e w' ⟨rfl, rfl⟩) | (go_at_call 45; refine (length_calls _ _).mono ?_; rintro e w' ⟨rfl, rfl⟩) | (go_at_call 43; refine (device_may 6 a1 a2 a3 a4 A c l _ (Kd.C_below HRC.out HW.out.below)).mono ?_; rintro e w1 ⟨rfl, hb1⟩; have HB := Aside0.mk (hb1.mono (Nat.le_of_eq HW.out.size.symm)); clear hb1; clear d0 d1 d2 d3 d4 d5 z0 z1 z2 z3 z4 z5 zf hb hs; obtain ⟨⟨d0, d1, d2, d3, d4, d5⟩, ⟨z0, z1, z2, z3, z4, z5⟩, zf, hb, hs⟩ := HW.out.to HB.out) | (go_at_call 46; refine (choose_Active.calls f _ _ _ _ _ _ _ HA.out).mono ?_; rintro e w2 ⟨rfl, hb2⟩; have HB0 := Aside0.mk (below5' HB.out hb2 (by repeat (first | (with_reducible exact Below.refl _ _) | (with_reducible apply below_alloc) | (with_reducible apply below_drew1) | (with_reducible refine below_set ?_ (Nat.le_refl _)))) hs); clear HB; have HB := HB0; clear HB0; clear d0 d1 d2 d3 d4 d5 z0 z1 z2 z3 z4 z5 zf hb hs; clear hb2; obtain ⟨⟨d0, d1, d2, d3, d4, d5⟩, ⟨z0, z1, z2, z3, z4, z5⟩, zf, hb, hs⟩ := HW.out.to HB.out; have q0 : ¬ w.heap.size = w2.heap.size := (by omega); have q1 : ¬ w.heap.size + 1 = w2.heap.size := (by omega); have q2 : w.heap.size < w2.heap.size := (by omega); have q3 : w.heap.size + 1 < w2.heap.size := (by omega)) | (go_at_call 48; refine (device_Copy.calls 6 a1 a2 a3 a4 A c l 6 a1 a2 a3 a4 l _ (Kd.C_below HRC.out (hb.trans (below5z (by repeat (first | (with_reducible exact Below.refl _ _) | (with_reducible apply below_alloc) | (with_reducible apply below_drew1) | (with_reducible refine below_set ?_ (Nat.le_refl _)))) hs))) hc HCP.out).mono ?_; rintro e w4 ⟨v5, rfl, ho, hb4⟩; obtain ⟨A5, c5, rfl, hc5, _⟩ := Kd.R_reads ho; have HO := Aside0.mk ho; have HS4 := Aside0.mk hb4.size; clear ho hc5; have HB0 := Aside0.mk (below5' HB.out hb4 (by repeat (first | (with_reducible exact Below.refl _ _) | (with_reducible apply below_alloc) | (with_reducible apply below_drew1) | (with_reducible refine below_set ?_ (Nat.le_refl _)))) hs); clear HB; have HB := HB0; clear HB0; clear d0 d1 d2 d3 d4 d5 z0 z1 z2 z3 z4 z5 zf hb hs; clear hb4; obtain ⟨⟨d0, d1, d2, d3, d4, d5⟩, ⟨z0, z1, z2, z3, z4, z5⟩, zf, hb, hs⟩ := HW.out.to HB.out; have q0 : ¬ w.heap.size = w4.heap.size := (by omega); have q1 : ¬ w.heap.size + 1 = w4.heap.size := (by omega); have q2 : w.heap.size < w4.heap.size := (by omega); have q3 : w.heap.size + 1 < w4.heap.size := (by omega)) | (go_at_call 47; refine (failed_calls 4 _).mono ?_; rintro e w9 ⟨rfl, hb9⟩; have HB0 := Aside0.mk (below5' HB.out hb9 (by repeat (first | (with_reducible exact Below.refl _ _) | (with_reducible apply below_alloc) | (with_reducible apply below_drew1) | (with_reducible refine below_set ?_ (Nat.le_refl _)))) hs); clear HB; have HB := HB0; clear HB0; clear d0 d1 d2 d3 d4 d5 z0 z1 z2 z3 z4 z5 zf hb hs; clear hb9; obtain ⟨⟨d0, d1, d2, d3, d4, d5⟩, ⟨z0, z1, z2, z3, z4, z5⟩, zf, hb, hs⟩ := HW.out.to HB.out; have q0 : ¬ w.heap.size = w9.heap.size := (by omega); have q1 : ¬ w.heap.size + 1 = w9.heap.size := (by omega); have q2 : w.heap.size < w9.heap.size := (by omega); have q3 : w.heap.size + 1 < w9.heap.size := (by omega)))
    refine bodyPost_ret (v := .tuple #[.agg #[.int .i64 7, .int .i64 4, .int .i64 0, .int .i64 0, .int .i64 0, .slice none 0 0], .string ⟨#[]⟩, .int .i64 0]) (by simp [results, Try.results17, go_sem, *]) rfl ⟨rfl, ?_⟩
    repeat (first | (with_reducible exact hb) | (with_reducible refine below_set ?_ (Nat.le_succ _)))
theorem R_span {w2 w' : World} {base : Nat} {v : Value} {xs : List S59} (h : Kd.R k59 59 w2 base (fun _ => True) v xs) (hm : ∀ k, base ≤ k → k < w2.heap.size → w'.heap[k]? = w2.heap[k]?) : Kd.R k59 59 w' base (fun _ => True) v xs :=
  Kd.R_mono (Kd.R_move (Kd.R_bound h) (fun k hk => hm k hk.2.1 hk.2.2.1)) (fun _ _ => trivial)
theorem below5w {w4 w5 : World} {o : Obj} (h : Below (w4.alloc o).heap.size (w4.alloc o) w5) : Below w4.heap.size w4 w5 :=
  (below_alloc (Below.refl _ _) _).trans (h.mono (by rw [show (w4.alloc o).heap.size = w4.heap.size + 1 from Array.size_push _]; exact Nat.le_succ _))
set_option maxHeartbeats 3200000 in
set_option maxRecDepth 100000 in
theorem give_block (f : ByteArray) (a0 a1 a2 a3 a4 : Int) (A : Option Addr) (c : Nat) (l : List S59) (b n : Int) (p0 p1 p2 p3 p4 p5 : Int) (w : World) (hr : Kd.C k59 w A l.length l) (hc : l.length ≤ c) (h : giveMayB f a0 a1 a2 a3 a4 l b n = true) (ha : choose_Active.f f = some (p0, p1, p2, p3, p4, p5)) (h5 : p5 = 0) (he : b = if a0 = 0 then 0 else a2) (S : ByteArray) (e2 : Int) (hi : image_Of.f f p1 p2 p3 p4 = some (S, e2)) (m i1 d i2 : Nat) (hm : (m : Int) = if a0 = 0 then 0 else a2) (hi1 : i1 = min (32 * m) S.size) (hd : S.size - i1 = d) (hi2 : i2 = min n.toNat d) :
    Calls Try.prog 17 #[.string f, .agg #[.int .i64 a0, .int .i64 a1, .int .i64 a2, .int .i64 a3, .int .i64 a4, .slice A l.length c], .int .i64 b, .int .i64 n] w fun e w' => ∃ v5_ : Value, e = .returned (.tuple #[.agg (if i2 < 32 then #[.int .i64 0, .int .i64 0, .int .i64 0, .int .i64 0, .int .i64 0, v5_] else #[.int .i64 6, .int .i64 a1, .int .i64 (min ((m : Int) + 1) 16), .int .i64 a3, .int .i64 a4, v5_]), .string ((S.extract i1 S.size).extract 0 i2), .int .i64 0]) ∧ Kd.R k59 59 w' w.heap.size (fun _ => True) v5_ (if i2 < 32 then [] else l) ∧ Below w.heap.size w w' := by
  have HA := Aside0.mk ha
  have HI := Aside0.mk hi
  simp only [giveMayB, Bool.and_eq_true, Bool.or_eq_true, decide_eq_true_eq] at h
  obtain ⟨⟨⟨⟨h1, h2⟩, h3⟩, h4, h4'⟩, h6, h6'⟩ := h
  subst h5
  clear ha hi
  have hl : l.length ≤ 768 := by
    simp only [devMayB, Bool.and_eq_true, decide_eq_true_eq] at h2
    omega
  have hm16 : m ≤ 16 := by
    simp only [devMayB, Bool.and_eq_true, decide_eq_true_eq] at h2
    split at hm <;> omega
  obtain ⟨n, rfl⟩ := Int.eq_ofNat_of_zero_le h6
  simp only [Int.toNat_natCast] at hi2
  have HCP := Aside0.mk (show device_Copy.f a0 a1 a2 a3 a4 l = some (a0, a1, a2, a3, a4, l) by rw [device_Copy.f, api_Op.f, if_pos (by omega)]; rfl)
  have hm1 : (if (S.size : Int) < 32 * (m : Int) then (S.size : Int) else 32 * (m : Int)) = (i1 : Int) := by split <;> omega
  have t1 : (0 : Int) ≤ (i1 : Int) := by omega
  have t2 : (i1 : Int) ≤ (S.size : Int) := by omega
  have t3 : i1 ≤ S.size := by omega
  have hm2 : (if d < n then (d : Int) else (n : Int)) = (i2 : Int) := by split <;> omega
  have t4 : (0 : Int) ≤ (i2 : Int) := by omega
  have t5 : (i2 : Int) ≤ (d : Int) := by omega
  have t6 : min i2 d = i2 := by omega
  rcases h3 with rfl | rfl
  · have hm0 : m = 0 := by simpa using hm
    have hb0 : b = 0 := by simpa using he
    subst hm0 hb0
    have hi0 : i1 = 0 := by omega
    subst hi0
    have hd0 : d = S.size := by omega
    subst hd0
    clear he hm hl hi1 hi2
    have HW := Aside0.mk (gw_mk w 0 a1 a2 a3 a4 A l.length c)
    have HRC := Aside0.mk hr
    clear hr
    go_enter Try.func17, Try.ntmps17
    go_wp2_with (fail)
    generalize (w.alloc (Obj.cells #[.int .i64 0, .int .i64 a1, .int .i64 a2, .int .i64 a3, .int .i64 a4, .slice A l.length c] 26)).alloc (Obj.cells #[.int .i64 0, .int .i64 0, .int .i64 0, .int .i64 0, .int .i64 0, .slice none 0 0] 26) = W at *
    have HB := Aside0.mk (Below.refl (w.heap.size + 2) W)
    obtain ⟨⟨d0, d1, d2, d3, d4, d5⟩, ⟨z0, z1, z2, z3, z4, z5⟩, zf, hb, hs⟩ := HW.out.to HB.out
    go_wp2_with (first | (go_at_call 42; refine (norMay_calls _ _).mono ?_; rintro e w' ⟨rfl, rfl⟩) | (go_at_call 44; refine (value_calls _ _).mono ?_; rintro e w' ⟨rfl, rfl⟩) | (go_at_call 45; refine (length_calls _ _).mono ?_; rintro e w' ⟨rfl, rfl⟩) | (go_at_call 43; refine (device_may 0 a1 a2 a3 a4 A c l _ (Kd.C_below HRC.out HW.out.below)).mono ?_; rintro e w1 ⟨rfl, hb1⟩; have HB := Aside0.mk (hb1.mono (Nat.le_of_eq HW.out.size.symm)); clear hb1; clear d0 d1 d2 d3 d4 d5 z0 z1 z2 z3 z4 z5 zf hb hs; obtain ⟨⟨d0, d1, d2, d3, d4, d5⟩, ⟨z0, z1, z2, z3, z4, z5⟩, zf, hb, hs⟩ := HW.out.to HB.out) | (go_at_call 46; refine (choose_Active.calls f _ _ _ _ _ _ _ HA.out).mono ?_; rintro e w2 ⟨rfl, hb2⟩; have HB0 := Aside0.mk (below5' HB.out hb2 (by repeat (first | (with_reducible exact Below.refl _ _) | (with_reducible apply below_alloc) | (with_reducible apply below_drew1) | (with_reducible refine below_set ?_ (Nat.le_refl _)))) hs); clear HB; have HB := HB0; clear HB0; clear d0 d1 d2 d3 d4 d5 z0 z1 z2 z3 z4 z5 zf hb hs; clear hb2; obtain ⟨⟨d0, d1, d2, d3, d4, d5⟩, ⟨z0, z1, z2, z3, z4, z5⟩, zf, hb, hs⟩ := HW.out.to HB.out; have q0 : ¬ w.heap.size = w2.heap.size := (by omega); have q1 : ¬ w.heap.size + 1 = w2.heap.size := (by omega); have q2 : w.heap.size < w2.heap.size := (by omega); have q3 : w.heap.size + 1 < w2.heap.size := (by omega)) | (go_at_call 48; refine (device_Copy.calls 0 a1 a2 a3 a4 A c l 0 a1 a2 a3 a4 l _ (Kd.C_below HRC.out (hb.trans (below5z (by repeat (first | (with_reducible exact Below.refl _ _) | (with_reducible apply below_alloc) | (with_reducible apply below_drew1) | (with_reducible refine below_set ?_ (Nat.le_refl _)))) hs))) hc HCP.out).mono ?_; rintro e w4 ⟨v5, rfl, ho, hb4⟩; obtain ⟨A5, c5, rfl, hc5, _⟩ := Kd.R_reads ho; have HO := Aside0.mk ho; obtain ⟨hcX, hfX⟩ := bcell hb4; have P0 : w4.cell? ⟨w2.heap.size, 0, none⟩ = some (.int .i64 p0) := (hcX _ _ (by simp)).trans (by simp); have P1 : w4.cell? ⟨w2.heap.size, 1, none⟩ = some (.int .i64 p1) := (hcX _ _ (by simp)).trans (by simp); have P2 : w4.cell? ⟨w2.heap.size, 2, none⟩ = some (.int .i64 p2) := (hcX _ _ (by simp)).trans (by simp); have P3 : w4.cell? ⟨w2.heap.size, 3, none⟩ = some (.int .i64 p3) := (hcX _ _ (by simp)).trans (by simp); have P4 : w4.cell? ⟨w2.heap.size, 4, none⟩ = some (.int .i64 p4) := (hcX _ _ (by simp)).trans (by simp); have r0 : w2.heap.size < w4.heap.size := (by have := hb4.size; simp at this; omega); have r1 : ¬ w2.heap.size = w4.heap.size := (by omega); clear hcX hfX;  have HS4 := Aside0.mk hb4.size; clear ho hc5; have HB0 := Aside0.mk (below5' HB.out hb4 (by repeat (first | (with_reducible exact Below.refl _ _) | (with_reducible apply below_alloc) | (with_reducible apply below_drew1) | (with_reducible refine below_set ?_ (Nat.le_refl _)))) hs); clear HB; have HB := HB0; clear HB0; clear d0 d1 d2 d3 d4 d5 z0 z1 z2 z3 z4 z5 zf hb hs; clear hb4; obtain ⟨⟨d0, d1, d2, d3, d4, d5⟩, ⟨z0, z1, z2, z3, z4, z5⟩, zf, hb, hs⟩ := HW.out.to HB.out; have q0 : ¬ w.heap.size = w4.heap.size := (by omega); have q1 : ¬ w.heap.size + 1 = w4.heap.size := (by omega); have q2 : w.heap.size < w4.heap.size := (by omega); have q3 : w.heap.size + 1 < w4.heap.size := (by omega)) | (go_at_call 49; refine (image_Of.calls f _ _ _ _ _ _ _ HI.out).mono ?_; rintro e w5 ⟨rfl, hb5⟩; obtain ⟨hcX, hfX⟩ := bcell hb5; have O0 : w5.cell? ⟨w4.heap.size, 0, none⟩ = some (.int .i64 0) := (hcX _ _ (by simp)).trans (by simp); have O1 : w5.cell? ⟨w4.heap.size, 1, none⟩ = some (.int .i64 a1) := (hcX _ _ (by simp)).trans (by simp); have O2 : w5.cell? ⟨w4.heap.size, 2, none⟩ = some (.int .i64 0) := (hcX _ _ (by simp)).trans (by simp); have O3 : w5.cell? ⟨w4.heap.size, 3, none⟩ = some (.int .i64 a3) := (hcX _ _ (by simp)).trans (by simp); have O4 : w5.cell? ⟨w4.heap.size, 4, none⟩ = some (.int .i64 a4) := (hcX _ _ (by simp)).trans (by simp); have O5 : w5.cell? ⟨w4.heap.size, 5, none⟩ = some (.slice A5 l.length c5) := (hcX _ _ (by simp)).trans (by simp); have OZ : ∀ o, w5.frozen? ⟨w4.heap.size, o, none⟩ = false := (fun o => (hfX _ _ (by simp)).trans (World.frozen?_alloc_new _ _ _ _)); have r2 : w4.heap.size < w5.heap.size := (by have := hb5.size; simp at this; omega); have r3 : ¬ w4.heap.size = w5.heap.size := (by omega); have r4 : ¬ w.heap.size + 1 = w4.heap.size := (by omega); have HS5 := Aside0.mk (below5w hb5); clear hcX hfX; have HB0 := Aside0.mk (below5' HB.out hb5 (by repeat (first | (with_reducible exact Below.refl _ _) | (with_reducible apply below_alloc) | (with_reducible apply below_drew1) | (with_reducible refine below_set ?_ (Nat.le_refl _)))) hs); clear HB; have HB := HB0; clear HB0; clear d0 d1 d2 d3 d4 d5 z0 z1 z2 z3 z4 z5 zf hb hs; clear hb5; obtain ⟨⟨d0, d1, d2, d3, d4, d5⟩, ⟨z0, z1, z2, z3, z4, z5⟩, zf, hb, hs⟩ := HW.out.to HB.out; have q0 : ¬ w.heap.size = w5.heap.size := (by omega); have q1 : ¬ w.heap.size + 1 = w5.heap.size := (by omega); have q2 : w.heap.size < w5.heap.size := (by omega); have q3 : w.heap.size + 1 < w5.heap.size := (by omega)) | (go_at_call 50; refine (new_calls _).mono ?_; rintro e w9 ⟨rfl, hb9⟩; have HB0 := Aside0.mk (below5' HB.out hb9 (by repeat (first | (with_reducible exact Below.refl _ _) | (with_reducible apply below_alloc) | (with_reducible apply below_drew1) | (with_reducible refine below_set ?_ (Nat.le_refl _)))) hs); clear HB; have HB := HB0; clear HB0; clear d0 d1 d2 d3 d4 d5 z0 z1 z2 z3 z4 z5 zf hb hs; clear hb9; obtain ⟨⟨d0, d1, d2, d3, d4, d5⟩, ⟨z0, z1, z2, z3, z4, z5⟩, zf, hb, hs⟩ := HW.out.to HB.out; have q0 : ¬ w.heap.size = w9.heap.size := (by omega); have q1 : ¬ w.heap.size + 1 = w9.heap.size := (by omega); have q2 : w.heap.size < w9.heap.size := (by omega); have q3 : w.heap.size + 1 < w9.heap.size := (by omega)))
    all_goals first | (refine bodyPost_ret (v := .tuple #[.agg #[.int .i64 0, .int .i64 0, .int .i64 0, .int .i64 0, .int .i64 0, .slice none 0 0], .string (S.extract 0 i2), .int .i64 0]) (by simp [results, Try.results17, go_sem, *]) rfl ⟨_, rfl, Kd.R_nil _ _ _ _ _, ?_⟩; (repeat (first | (with_reducible exact hb) | (with_reducible refine below_set ?_ (Nat.le_succ _)) | (with_reducible refine below_set ?_ (show w.heap.size ≤ w4.heap.size by omega)))); done) | (refine bodyPost_ret (v := .tuple #[.agg #[.int .i64 6, .int .i64 a1, .int .i64 (1), .int .i64 a3, .int .i64 a4, .slice A5 l.length c5], .string (S.extract 0 i2), .int .i64 0]) (by simp [results, Try.results17, go_sem, *]) rfl ⟨_, by first | rfl | (rw [show min ((m : Int) + 1) 16 = 1 by omega]), Kd.R_lower (R_span HO.out (fun k g1 g2 => by (have g3 : k ≠ w4.heap.size := Nat.ne_of_lt g2); (have g4 : k ≠ w.heap.size + 1 := (by simp at g1; omega)); (repeat (first | rw [Below.heap_setCell _ ⟨w.heap.size + 1, _, none⟩ _ k g4] | rw [Below.heap_setCell _ ⟨w4.heap.size, _, none⟩ _ k g3])); exact HS5.out.block k g2)) (by simp; omega), ?_⟩; (repeat (first | (with_reducible exact hb) | (with_reducible refine below_set ?_ (Nat.le_succ _)) | (with_reducible refine below_set ?_ (show w.heap.size ≤ w4.heap.size by omega)))); done)
  · have hm0 : a2 = (m : Int) := by simpa using hm.symm
    have hb0 : b = a2 := by simpa using he
    subst hb0 hm0
    clear he hm hl hi1 hi2
    have HW := Aside0.mk (gw_mk w 6 a1 m a3 a4 A l.length c)
    have HRC := Aside0.mk hr
    clear hr
    go_enter Try.func17, Try.ntmps17
    go_wp2_with (fail)
    generalize (w.alloc (Obj.cells #[.int .i64 6, .int .i64 a1, .int .i64 m, .int .i64 a3, .int .i64 a4, .slice A l.length c] 26)).alloc (Obj.cells #[.int .i64 0, .int .i64 0, .int .i64 0, .int .i64 0, .int .i64 0, .slice none 0 0] 26) = W at *
    have HB := Aside0.mk (Below.refl (w.heap.size + 2) W)
    obtain ⟨⟨d0, d1, d2, d3, d4, d5⟩, ⟨z0, z1, z2, z3, z4, z5⟩, zf, hb, hs⟩ := HW.out.to HB.out
    go_wp2_with (first | (go_at_call 42; refine (norMay_calls _ _).mono ?_; rintro e w' ⟨rfl, rfl⟩) | (go_at_call 44; refine (value_calls _ _).mono ?_; rintro e w' ⟨rfl, rfl⟩) | (go_at_call 45; refine (length_calls _ _).mono ?_; rintro e w' ⟨rfl, rfl⟩) | (go_at_call 43; refine (device_may 6 a1 m a3 a4 A c l _ (Kd.C_below HRC.out HW.out.below)).mono ?_; rintro e w1 ⟨rfl, hb1⟩; have HB := Aside0.mk (hb1.mono (Nat.le_of_eq HW.out.size.symm)); clear hb1; clear d0 d1 d2 d3 d4 d5 z0 z1 z2 z3 z4 z5 zf hb hs; obtain ⟨⟨d0, d1, d2, d3, d4, d5⟩, ⟨z0, z1, z2, z3, z4, z5⟩, zf, hb, hs⟩ := HW.out.to HB.out) | (go_at_call 46; refine (choose_Active.calls f _ _ _ _ _ _ _ HA.out).mono ?_; rintro e w2 ⟨rfl, hb2⟩; have HB0 := Aside0.mk (below5' HB.out hb2 (by repeat (first | (with_reducible exact Below.refl _ _) | (with_reducible apply below_alloc) | (with_reducible apply below_drew1) | (with_reducible refine below_set ?_ (Nat.le_refl _)))) hs); clear HB; have HB := HB0; clear HB0; clear d0 d1 d2 d3 d4 d5 z0 z1 z2 z3 z4 z5 zf hb hs; clear hb2; obtain ⟨⟨d0, d1, d2, d3, d4, d5⟩, ⟨z0, z1, z2, z3, z4, z5⟩, zf, hb, hs⟩ := HW.out.to HB.out; have q0 : ¬ w.heap.size = w2.heap.size := (by omega); have q1 : ¬ w.heap.size + 1 = w2.heap.size := (by omega); have q2 : w.heap.size < w2.heap.size := (by omega); have q3 : w.heap.size + 1 < w2.heap.size := (by omega)) | (go_at_call 48; refine (device_Copy.calls 6 a1 m a3 a4 A c l 6 a1 m a3 a4 l _ (Kd.C_below HRC.out (hb.trans (below5z (by repeat (first | (with_reducible exact Below.refl _ _) | (with_reducible apply below_alloc) | (with_reducible apply below_drew1) | (with_reducible refine below_set ?_ (Nat.le_refl _)))) hs))) hc HCP.out).mono ?_; rintro e w4 ⟨v5, rfl, ho, hb4⟩; obtain ⟨A5, c5, rfl, hc5, _⟩ := Kd.R_reads ho; have HO := Aside0.mk ho; obtain ⟨hcX, hfX⟩ := bcell hb4; have P0 : w4.cell? ⟨w2.heap.size, 0, none⟩ = some (.int .i64 p0) := (hcX _ _ (by simp)).trans (by simp); have P1 : w4.cell? ⟨w2.heap.size, 1, none⟩ = some (.int .i64 p1) := (hcX _ _ (by simp)).trans (by simp); have P2 : w4.cell? ⟨w2.heap.size, 2, none⟩ = some (.int .i64 p2) := (hcX _ _ (by simp)).trans (by simp); have P3 : w4.cell? ⟨w2.heap.size, 3, none⟩ = some (.int .i64 p3) := (hcX _ _ (by simp)).trans (by simp); have P4 : w4.cell? ⟨w2.heap.size, 4, none⟩ = some (.int .i64 p4) := (hcX _ _ (by simp)).trans (by simp); have r0 : w2.heap.size < w4.heap.size := (by have := hb4.size; simp at this; omega); have r1 : ¬ w2.heap.size = w4.heap.size := (by omega); clear hcX hfX;  have HS4 := Aside0.mk hb4.size; clear ho hc5; have HB0 := Aside0.mk (below5' HB.out hb4 (by repeat (first | (with_reducible exact Below.refl _ _) | (with_reducible apply below_alloc) | (with_reducible apply below_drew1) | (with_reducible refine below_set ?_ (Nat.le_refl _)))) hs); clear HB; have HB := HB0; clear HB0; clear d0 d1 d2 d3 d4 d5 z0 z1 z2 z3 z4 z5 zf hb hs; clear hb4; obtain ⟨⟨d0, d1, d2, d3, d4, d5⟩, ⟨z0, z1, z2, z3, z4, z5⟩, zf, hb, hs⟩ := HW.out.to HB.out; have q0 : ¬ w.heap.size = w4.heap.size := (by omega); have q1 : ¬ w.heap.size + 1 = w4.heap.size := (by omega); have q2 : w.heap.size < w4.heap.size := (by omega); have q3 : w.heap.size + 1 < w4.heap.size := (by omega)) | (go_at_call 49; refine (image_Of.calls f _ _ _ _ _ _ _ HI.out).mono ?_; rintro e w5 ⟨rfl, hb5⟩; obtain ⟨hcX, hfX⟩ := bcell hb5; have O0 : w5.cell? ⟨w4.heap.size, 0, none⟩ = some (.int .i64 6) := (hcX _ _ (by simp)).trans (by simp); have O1 : w5.cell? ⟨w4.heap.size, 1, none⟩ = some (.int .i64 a1) := (hcX _ _ (by simp)).trans (by simp); have O2 : w5.cell? ⟨w4.heap.size, 2, none⟩ = some (.int .i64 m) := (hcX _ _ (by simp)).trans (by simp); have O3 : w5.cell? ⟨w4.heap.size, 3, none⟩ = some (.int .i64 a3) := (hcX _ _ (by simp)).trans (by simp); have O4 : w5.cell? ⟨w4.heap.size, 4, none⟩ = some (.int .i64 a4) := (hcX _ _ (by simp)).trans (by simp); have O5 : w5.cell? ⟨w4.heap.size, 5, none⟩ = some (.slice A5 l.length c5) := (hcX _ _ (by simp)).trans (by simp); have OZ : ∀ o, w5.frozen? ⟨w4.heap.size, o, none⟩ = false := (fun o => (hfX _ _ (by simp)).trans (World.frozen?_alloc_new _ _ _ _)); have r2 : w4.heap.size < w5.heap.size := (by have := hb5.size; simp at this; omega); have r3 : ¬ w4.heap.size = w5.heap.size := (by omega); have r4 : ¬ w.heap.size + 1 = w4.heap.size := (by omega); have HS5 := Aside0.mk (below5w hb5); clear hcX hfX; have HB0 := Aside0.mk (below5' HB.out hb5 (by repeat (first | (with_reducible exact Below.refl _ _) | (with_reducible apply below_alloc) | (with_reducible apply below_drew1) | (with_reducible refine below_set ?_ (Nat.le_refl _)))) hs); clear HB; have HB := HB0; clear HB0; clear d0 d1 d2 d3 d4 d5 z0 z1 z2 z3 z4 z5 zf hb hs; clear hb5; obtain ⟨⟨d0, d1, d2, d3, d4, d5⟩, ⟨z0, z1, z2, z3, z4, z5⟩, zf, hb, hs⟩ := HW.out.to HB.out; have q0 : ¬ w.heap.size = w5.heap.size := (by omega); have q1 : ¬ w.heap.size + 1 = w5.heap.size := (by omega); have q2 : w.heap.size < w5.heap.size := (by omega); have q3 : w.heap.size + 1 < w5.heap.size := (by omega)) | (go_at_call 50; refine (new_calls _).mono ?_; rintro e w9 ⟨rfl, hb9⟩; have HB0 := Aside0.mk (below5' HB.out hb9 (by repeat (first | (with_reducible exact Below.refl _ _) | (with_reducible apply below_alloc) | (with_reducible apply below_drew1) | (with_reducible refine below_set ?_ (Nat.le_refl _)))) hs); clear HB; have HB := HB0; clear HB0; clear d0 d1 d2 d3 d4 d5 z0 z1 z2 z3 z4 z5 zf hb hs; clear hb9; obtain ⟨⟨d0, d1, d2, d3, d4, d5⟩, ⟨z0, z1, z2, z3, z4, z5⟩, zf, hb, hs⟩ := HW.out.to HB.out; have q0 : ¬ w.heap.size = w9.heap.size := (by omega); have q1 : ¬ w.heap.size + 1 = w9.heap.size := (by omega); have q2 : w.heap.size < w9.heap.size := (by omega); have q3 : w.heap.size + 1 < w9.heap.size := (by omega)))
    all_goals first | (refine bodyPost_ret (v := .tuple #[.agg #[.int .i64 0, .int .i64 0, .int .i64 0, .int .i64 0, .int .i64 0, .slice none 0 0], .string ((S.extract i1 S.size).extract 0 i2), .int .i64 0]) (by simp [results, Try.results17, go_sem, *]) rfl ⟨_, rfl, Kd.R_nil _ _ _ _ _, ?_⟩; (repeat (first | (with_reducible exact hb) | (with_reducible refine below_set ?_ (Nat.le_succ _)) | (with_reducible refine below_set ?_ (show w.heap.size ≤ w4.heap.size by omega)))); done) | (refine bodyPost_ret (v := .tuple #[.agg #[.int .i64 6, .int .i64 a1, .int .i64 (16), .int .i64 a3, .int .i64 a4, .slice A5 l.length c5], .string ((S.extract i1 S.size).extract 0 i2), .int .i64 0]) (by simp [results, Try.results17, go_sem, *]) rfl ⟨_, by first | rfl | (rw [show min ((m : Int) + 1) 16 = 16 by omega]), Kd.R_lower (R_span HO.out (fun k g1 g2 => by (have g3 : k ≠ w4.heap.size := Nat.ne_of_lt g2); (have g4 : k ≠ w.heap.size + 1 := (by simp at g1; omega)); (repeat (first | rw [Below.heap_setCell _ ⟨w.heap.size + 1, _, none⟩ _ k g4] | rw [Below.heap_setCell _ ⟨w4.heap.size, _, none⟩ _ k g3])); exact HS5.out.block k g2)) (by simp; omega), ?_⟩; (repeat (first | (with_reducible exact hb) | (with_reducible refine below_set ?_ (Nat.le_succ _)) | (with_reducible refine below_set ?_ (show w.heap.size ≤ w4.heap.size by omega)))); done) | (refine bodyPost_ret (v := .tuple #[.agg #[.int .i64 6, .int .i64 a1, .int .i64 ((m : Int) + 1), .int .i64 a3, .int .i64 a4, .slice A5 l.length c5], .string ((S.extract i1 S.size).extract 0 i2), .int .i64 0]) (by simp [results, Try.results17, go_sem, *]) rfl ⟨_, by first | rfl | (rw [show min ((m : Int) + 1) 16 = (m : Int) + 1 by omega]), Kd.R_lower (R_span HO.out (fun k g1 g2 => by (have g3 : k ≠ w4.heap.size := Nat.ne_of_lt g2); (have g4 : k ≠ w.heap.size + 1 := (by simp at g1; omega)); (repeat (first | rw [Below.heap_setCell _ ⟨w.heap.size + 1, _, none⟩ _ k g4] | rw [Below.heap_setCell _ ⟨w4.heap.size, _, none⟩ _ k g3])); exact HS5.out.block k g2)) (by simp; omega), ?_⟩; (repeat (first | (with_reducible exact hb) | (with_reducible refine below_set ?_ (Nat.le_succ _)) | (with_reducible refine below_set ?_ (show w.heap.size ≤ w4.heap.size by omega)))); done)
def giveS (S : ByteArray) (nx n : Int) : ByteArray := (S.extract (min (32 * nx.toNat) S.size) S.size).extract 0 (min n.toNat (S.size - min (32 * nx.toNat) S.size))
def giveLen (S : ByteArray) (nx n : Int) : Nat := min n.toNat (S.size - min (32 * nx.toNat) S.size)
def upload_Give.f (f : ByteArray) (a0 a1 a2 a3 a4 : Int) (l : List S59) (b n : Int) : Option (Int × Int × Int × Int × Int × (List S59) × ByteArray × Int) :=
  if giveMayB f a0 a1 a2 a3 a4 l b n = true then (choose_Active.f f).bind fun p => if p.2.2.2.2.2 = 0 then (if b = (if a0 = 0 then 0 else a2) then (image_Of.f f p.2.1 p.2.2.1 p.2.2.2.1 p.2.2.2.2.1).bind fun s => (if giveLen s.1 (if a0 = 0 then 0 else a2) n < 32 then some (0, 0, 0, 0, 0, [], giveS s.1 (if a0 = 0 then 0 else a2) n, 0) else some (6, a1, min ((if a0 = 0 then 0 else a2) + 1) 16, a3, a4, l, giveS s.1 (if a0 = 0 then 0 else a2) n, 0)) else some (7, 4, 0, 0, 0, [], ⟨#[]⟩, 0)) else some (7, 2, 0, 0, 0, [], ⟨#[]⟩, 0)
  else some (0, 0, 0, 0, 0, [], ⟨#[]⟩, 2000)
theorem upload_Give.calls (a0 : ByteArray) (a1_0 : Int) (a1_1 : Int) (a1_2 : Int) (a1_3 : Int) (a1_4 : Int) (A1_5 : Option Addr) (c1_5 : Nat) (l1_5 : List (S59)) (a2 : Int) (a3 : Int) (r1 : Int) (r2 : Int) (r3 : Int) (r4 : Int) (r5 : Int) (r6 : List (S59)) (r7 : ByteArray) (r8 : Int) (w : World) (hr1_5 : Kd.C k59 w A1_5 l1_5.length l1_5) (hc1_5 : l1_5.length ≤ c1_5) (h : upload_Give.f a0 a1_0 a1_1 a1_2 a1_3 a1_4 l1_5 a2 a3 = some (r1, r2, r3, r4, r5, r6, r7, r8)) :
    Calls Try.prog 17 #[.string a0, .agg #[.int .i64 a1_0, .int .i64 a1_1, .int .i64 a1_2, .int .i64 a1_3, .int .i64 a1_4, .slice A1_5 l1_5.length c1_5], .int .i64 a2, .int .i64 a3] w fun e w' => ∃ v5_ : Value, e = .returned (.tuple #[.agg #[.int .i64 r1, .int .i64 r2, .int .i64 r3, .int .i64 r4, .int .i64 r5, v5_], .string r7, .int .i64 r8]) ∧ Kd.R k59 59 w' w.heap.size (fun _ => True) v5_ r6 ∧ Below w.heap.size w w' := by
  unfold upload_Give.f at h
  cases hm : giveMayB a0 a1_0 a1_1 a1_2 a1_3 a1_4 l1_5 a2 a3
  · rw [hm, if_neg (by decide)] at h
    simp only [Option.some.injEq, Prod.mk.injEq] at h
    obtain ⟨rfl, rfl, rfl, rfl, rfl, rfl, rfl, rfl⟩ := h
    exact (give_no _ _ _ _ _ _ _ _ _ _ _ _ hr1_5 hc1_5 hm).mono fun e w' ⟨he, hb⟩ => ⟨_, he, Kd.R_nil _ _ _ _ _, hb⟩
  · rw [hm, if_pos rfl] at h
    obtain ⟨⟨p0, p1, p2, p3, p4, p5⟩, hA, h⟩ := Option.bind_eq_some_iff.mp h
    simp only at h
    by_cases h5 : p5 = 0
    · rw [if_pos h5] at h
      by_cases hb : a2 = if a1_0 = 0 then 0 else a1_2
      · rw [if_pos hb] at h
        obtain ⟨⟨S, e2⟩, hI, h⟩ := Option.bind_eq_some_iff.mp h
        simp only at h
        have hnx : (((if a1_0 = 0 then 0 else a1_2 : Int).toNat : Nat) : Int) = if a1_0 = 0 then 0 else a1_2 := by
          have hm2 := hm
          simp only [giveMayB, Bool.and_eq_true, decide_eq_true_eq] at hm2
          rw [← hb]
          omega
        have hg := give_block a0 a1_0 a1_1 a1_2 a1_3 a1_4 A1_5 c1_5 l1_5 a2 a3 p0 p1 p2 p3 p4 p5 w hr1_5 hc1_5 hm hA h5 hb S e2 hI _ _ _ _ hnx rfl rfl rfl
        refine hg.mono ?_
        rintro e w' ⟨v, he, hR, hB⟩
        by_cases hlt : giveLen S (if a1_0 = 0 then 0 else a1_2) a3 < 32
        · rw [if_pos hlt] at h
          simp only [Option.some.injEq, Prod.mk.injEq] at h
          obtain ⟨rfl, rfl, rfl, rfl, rfl, rfl, rfl, rfl⟩ := h
          have hlt2 := hlt
          unfold giveLen at hlt2
          rw [if_pos hlt2] at he hR
          exact ⟨v, he, hR, hB⟩
        · rw [if_neg hlt] at h
          simp only [Option.some.injEq, Prod.mk.injEq] at h
          obtain ⟨rfl, rfl, rfl, rfl, rfl, rfl, rfl, rfl⟩ := h
          have hlt2 := hlt
          unfold giveLen at hlt2
          rw [if_neg hlt2] at he hR
          rw [hnx] at he
          exact ⟨v, he, hR, hB⟩
      · rw [if_neg hb] at h
        simp only [Option.some.injEq, Prod.mk.injEq] at h
        obtain ⟨rfl, rfl, rfl, rfl, rfl, rfl, rfl, rfl⟩ := h
        exact (give_addr _ _ _ _ _ _ _ _ _ _ _ _ _ _ _ _ _ _ hr1_5 hc1_5 hm hA h5 hb).mono fun e w' ⟨he, hb⟩ => ⟨_, he, Kd.R_nil _ _ _ _ _, hb⟩
    · rw [if_neg h5] at h
      simp only [Option.some.injEq, Prod.mk.injEq] at h
      obtain ⟨rfl, rfl, rfl, rfl, rfl, rfl, rfl, rfl⟩ := h
      exact (give_file _ _ _ _ _ _ _ _ _ _ _ _ _ _ _ _ _ _ hr1_5 hc1_5 hm hA h5).mono fun e w' ⟨he, hb⟩ => ⟨_, he, Kd.R_nil _ _ _ _ _, hb⟩
end Go.Proofs.Ytaibkfgpdgabaaa.P
end

/- A part of the proof of T: what its last text uses; conditions: see there. -/
import Derived.RegionTactic
import Derived.ChangeAlike
import Derived.Test.YtaibkfgpdgabaaaTHDev
import Derived.Test.YtaibkfgpdgabaaaTQDo
section
namespace Go.Proofs.Ytaibkfgpdgabaaa.P
open Go.RowKit Go.Proofs.YtaibkfgpdgabaaaW.PrintWords Go.Proofs.YtaibkfgpdgabaaaW.PrintLast Go.Proofs.YtaibkfgpdgabaaaW.PrintMore
set_option linter.unusedVariables false
set_option linter.unusedSimpArgs false
def worksB (a : Int) : Bool := decide (a = 2) || decide (a = 5)
theorem works_calls (B : Nat) (st : Int) (w : World) (h : w.cell? ⟨B, 0, none⟩ = some (.int .i64 st)) : Calls Try.prog 56 #[.pointer (some ⟨B, 0, none⟩)] w fun e w' => e = .returned (.bool (worksB st)) ∧ w = w' := by
  go_enter Try.func56, Try.ntmps56
  go_wp2
  all_goals
    go_ret
    exact ⟨ret_b (by unfold worksB; by_cases h2 : st = 2 <;> by_cases h5 : st = 5 <;> simp_all), rfl⟩
theorem two_devs (w : World) (a0 a1 a2 a3 a4 : Int) (s : Value) (W : World) (hW : W = (w.alloc (.cells #[.int .i64 a0, .int .i64 a1, .int .i64 a2, .int .i64 a3, .int .i64 a4, s] 26)).alloc (.cells #[.int .i64 0, .int .i64 0, .int .i64 0, .int .i64 0, .int .i64 0, .slice none 0 0] 26)) :
    Dev W w.heap.size a0 a1 a2 a3 a4 s ∧ Dev W (w.heap.size + 1) 0 0 0 0 0 (.slice none 0 0) ∧ Below w.heap.size w W := by
  subst hW
  have h1 : (w.alloc (.cells #[.int .i64 a0, .int .i64 a1, .int .i64 a2, .int .i64 a3, .int .i64 a4, s] 26)).heap.size = w.heap.size + 1 := Array.size_push _
  refine ⟨(Dev.new w a0 a1 a2 a3 a4 s).below (balloc _ _), ?_, bthen (balloc _ _) (balloc _ _)⟩
  rw [← h1]
  exact Dev.new _ 0 0 0 0 0 _
def bothB (f : ByteArray) (a0 a1 a2 a3 a4 : Int) (l : List SOp) : Bool := decide ((f.size : Int) = 768) && devMayB a0 a1 a2 a3 a4 l
set_option maxHeartbeats 2000000 in
set_option maxRecDepth 100000 in
theorem step_no (f : ByteArray) (a0 a1 a2 a3 a4 : Int) (A : Option Addr) (c : Nat) (l : List SOp) (w : World) (hr : Kd.C k59 w A l.length l) (hc : l.length ≤ c) (h : bothB f a0 a1 a2 a3 a4 l = false) :
    Calls Try.prog 25 #[.string f, .agg #[.int .i64 a0, .int .i64 a1, .int .i64 a2, .int .i64 a3, .int .i64 a4, .slice A l.length c]] w fun e w' => e = .returned (.tuple #[.string ⟨#[]⟩, .agg #[.int .i64 0, .int .i64 0, .int .i64 0, .int .i64 0, .int .i64 0, .slice none 0 0], .int .i64 1800]) ∧ Below w.heap.size w w' := by
  have H := Lib.hid h
  clear h
  have HR := Aside0.mk hr
  clear hr
  obtain ⟨W, hW⟩ : ∃ W, W = (w.alloc (.cells #[.int .i64 a0, .int .i64 a1, .int .i64 a2, .int .i64 a3, .int .i64 a4, .slice A l.length c] 26)).alloc (.cells #[.int .i64 0, .int .i64 0, .int .i64 0, .int .i64 0, .int .i64 0, .slice none 0 0] 26) := ⟨_, rfl⟩
  have H2 := Aside0.mk (two_devs w a0 a1 a2 a3 a4 (.slice A l.length c) W hW)
  have HW := Lib.hid hW
  clear hW
  go_enter Try.func25, Try.ntmps25
  go_upto_region 1 with (fail)
  rw [← HW.out]
  clear HW
  obtain ⟨⟨d0, d1, d2, d3, d4, d5⟩, ⟨z0, z1, z2, z3, z4, z5⟩, ⟨y0, y1, y2, y3, y4, y5⟩⟩ := And.intro H2.out.1.cells (And.intro H2.out.2.1.cells H2.out.2.1.free)
  by_cases hf : (f.size : Int) = 768
  · have hm : devMayB a0 a1 a2 a3 a4 l = false := by simpa [bothB, hf] using H.out
    have h1 : (decide ((f.size : Int) = 768)) = true := by simp [hf]
    clear hf H
    go_wp2_with (first | (go_at_call 42; refine (norMay_calls _ _).mono ?_; rintro e w' ⟨rfl, rfl⟩; rw [h1]) | (go_at_call 43; refine (device_may a0 a1 a2 a3 a4 A c l W (Kd.C_below HR.out H2.out.2.2)).mono ?_; rintro e w1 ⟨rfl, hb1⟩; rw [hm]; have HD0 := Aside0.mk (H2.out.1.below hb1); have HD := Aside0.mk (H2.out.2.1.below hb1); have HB1 := Aside0.mk (bthen H2.out.2.2 hb1); clear hb1 d0 d1 d2 d3 d4 d5 z0 z1 z2 z3 z4 z5 y0 y1 y2 y3 y4 y5; obtain ⟨⟨d0, d1, d2, d3, d4, d5⟩, ⟨z0, z1, z2, z3, z4, z5⟩, ⟨y0, y1, y2, y3, y4, y5⟩⟩ := And.intro HD0.out.cells (And.intro HD.out.cells HD.out.free)))
    refine bodyPost_ret (v := .tuple #[.string ⟨#[]⟩, .agg #[.int .i64 0, .int .i64 0, .int .i64 0, .int .i64 0, .int .i64 0, .slice none 0 0], .int .i64 1800]) (by simp [results, Try.results25, go_sem, *]) rfl ⟨rfl, ?_⟩
    have hbb := HB1.out
    repeat (first | (with_reducible exact hbb) | (with_reducible refine below_set ?_ (Nat.le_succ _)))
  · have h1 : (decide ((f.size : Int) = 768)) = false := by simp [hf]
    clear hf H
    go_wp2_with (go_at_call 42; refine (norMay_calls _ _).mono ?_; rintro e w' ⟨rfl, rfl⟩; rw [h1])
    refine bodyPost_ret (v := .tuple #[.string ⟨#[]⟩, .agg #[.int .i64 0, .int .i64 0, .int .i64 0, .int .i64 0, .int .i64 0, .slice none 0 0], .int .i64 1800]) (by simp [results, Try.results25, go_sem, *]) rfl ⟨rfl, ?_⟩
    have hbb := H2.out.2.2
    repeat (first | (with_reducible exact hbb) | (with_reducible refine below_set ?_ (Nat.le_succ _)))
theorem Dev.set5 {W : World} {B : Nat} {a0 a1 a2 a3 a4 : Int} {s : Value} (h : Dev W B a0 a1 a2 a3 a4 s) (t : Value) : Dev (W.setCell ⟨B, 5, none⟩ t) B a0 a1 a2 a3 a4 t := blk_set h 5 t
theorem Dev.set0 {W : World} {B : Nat} {a0 a1 a2 a3 a4 : Int} {s : Value} (h : Dev W B a0 a1 a2 a3 a4 s) (b : Int) : Dev (W.setCell ⟨B, 0, none⟩ (.int .i64 b)) B b a1 a2 a3 a4 s := blk_set h 0 (.int .i64 b)
theorem Dev.store_far {W : World} {B g : Nat} {a0 a1 a2 a3 a4 : Int} {s : Value} (h : Dev W B a0 a1 a2 a3 a4 s) (hg : B ≠ g) (b0 b1 b2 b3 b4 : Int) (t : Value) :
    Dev ((((((W.setCell ⟨g, 0, none⟩ (.int .i64 b0)).setCell ⟨g, 1, none⟩ (.int .i64 b1)).setCell ⟨g, 2, none⟩ (.int .i64 b2)).setCell ⟨g, 3, none⟩ (.int .i64 b3)).setCell ⟨g, 4, none⟩ (.int .i64 b4)).setCell ⟨g, 5, none⟩ t) B a0 a1 a2 a3 a4 s :=
  (((((h.far hg).far hg).far hg).far hg).far hg).far hg
abbrev OwnOps (base : Nat) (W : World) (v : Value) (l : List SOp) : Prop := Kd.Q k59 59 W base (fun _ => True) v l
theorem ops_ne : ∀ q, q ∈ 59 :: k59.E → q ≠ 26 := by decide
theorem OwnOps.set1 {base B j : Nat} {W : World} {a0 a1 a2 a3 a4 : Int} {s u v : Value} {l : List SOp} (h : OwnOps base W v l) (hd : Dev W B a0 a1 a2 a3 a4 s) : OwnOps base (W.setCell ⟨B, j, none⟩ u) v l := Kd.Q_set h hd ops_ne j u
theorem OwnOps.store {base B : Nat} {W : World} {a0 a1 a2 a3 a4 : Int} {s v : Value} {l : List SOp} (h : OwnOps base W v l) (hd : Dev W B a0 a1 a2 a3 a4 s) (b0 b1 b2 b3 b4 : Int) (t : Value) :
    OwnOps base ((((((W.setCell ⟨B, 0, none⟩ (.int .i64 b0)).setCell ⟨B, 1, none⟩ (.int .i64 b1)).setCell ⟨B, 2, none⟩ (.int .i64 b2)).setCell ⟨B, 3, none⟩ (.int .i64 b3)).setCell ⟨B, 4, none⟩ (.int .i64 b4)).setCell ⟨B, 5, none⟩ t) v l := by
  have e0 := blk_set hd 0 (.int .i64 b0)
  have e1 := blk_set e0 1 (.int .i64 b1)
  have e2 := blk_set e1 2 (.int .i64 b2)
  have e3 := blk_set e2 3 (.int .i64 b3)
  have e4 := blk_set e3 4 (.int .i64 b4)
  exact Kd.Q_set (Kd.Q_set (Kd.Q_set (Kd.Q_set (Kd.Q_set (Kd.Q_set h hd ops_ne 0 _) e0 ops_ne 1 _) e1 ops_ne 2 _) e2 ops_ne 3 _) e3 ops_ne 4 _) e4 ops_ne 5 _
set_option maxHeartbeats 2000000 in
set_option maxRecDepth 100000 in
theorem step_idle (f : ByteArray) (a0 a1 a2 a3 a4 : Int) (A : Option Addr) (c : Nat) (l : List SOp) (w : World) (hr : Kd.C k59 w A l.length l) (hc : l.length ≤ c) (h : bothB f a0 a1 a2 a3 a4 l = true) (hw : worksB a0 = false) :
    Calls Try.prog 25 #[.string f, .agg #[.int .i64 a0, .int .i64 a1, .int .i64 a2, .int .i64 a3, .int .i64 a4, .slice A l.length c]] w fun e w' => ∃ v : Value, e = .returned (.tuple #[.string f, .agg #[.int .i64 a0, .int .i64 a1, .int .i64 a2, .int .i64 a3, .int .i64 a4, v], .int .i64 0]) ∧ OwnOps w.heap.size w' v l ∧ Below w.heap.size w w' := by
  simp only [bothB, Bool.and_eq_true, decide_eq_true_eq] at h
  obtain ⟨hf, hm⟩ := h
  have h1 : (decide ((f.size : Int) = 768)) = true := by simp [hf]
  have HCP : Aside0 (device_Copy.f a0 a1 a2 a3 a4 l = some (a0, a1, a2, a3, a4, l)) := ⟨by
    have hl : l.length ≤ 768 := by
      simp only [devMayB, Bool.and_eq_true, decide_eq_true_eq] at hm
      omega
    rw [device_Copy.f, api_Op.f, if_pos (by omega)]; rfl⟩
  clear hf
  have HR := Aside0.mk hr
  clear hr
  obtain ⟨W, hW⟩ : ∃ W, W = (w.alloc (.cells #[.int .i64 a0, .int .i64 a1, .int .i64 a2, .int .i64 a3, .int .i64 a4, .slice A l.length c] 26)).alloc (.cells #[.int .i64 0, .int .i64 0, .int .i64 0, .int .i64 0, .int .i64 0, .slice none 0 0] 26) := ⟨_, rfl⟩
  have H2 := Aside0.mk (two_devs w a0 a1 a2 a3 a4 (.slice A l.length c) W hW)
  have HW := Lib.hid hW
  clear hW
  go_enter Try.func25, Try.ntmps25
  go_upto_region 1 with (fail)
  rw [← HW.out]
  clear HW
  obtain ⟨⟨d0, d1, d2, d3, d4, d5⟩, ⟨z0, z1, z2, z3, z4, z5⟩, ⟨y0, y1, y2, y3, y4, y5⟩⟩ := And.intro H2.out.1.cells (And.intro H2.out.2.1.cells H2.out.2.1.free)
  go_upto_region 4 with (first | (go_at_call 42; refine (norMay_calls _ _).mono ?_; rintro e w' ⟨rfl, rfl⟩; rw [h1]) | (go_at_call 43; refine (device_may a0 a1 a2 a3 a4 A c l W (Kd.C_below HR.out H2.out.2.2)).mono ?_; rintro e w1 ⟨rfl, hb1⟩; rw [hm]; have HD0 := Aside0.mk (H2.out.1.below hb1); have HD := Aside0.mk (H2.out.2.1.below hb1); have HB1 := Aside0.mk (bthen H2.out.2.2 hb1); clear hb1 d0 d1 d2 d3 d4 d5 z0 z1 z2 z3 z4 z5 y0 y1 y2 y3 y4 y5; obtain ⟨⟨d0, d1, d2, d3, d4, d5⟩, ⟨z0, z1, z2, z3, z4, z5⟩, ⟨y0, y1, y2, y3, y4, y5⟩⟩ := And.intro HD0.out.cells (And.intro HD.out.cells HD.out.free)) | (go_at_call 48; refine (device_Copy.calls a0 a1 a2 a3 a4 A c l a0 a1 a2 a3 a4 l w1 (Kd.C_below HR.out HB1.out) hc HCP.out).mono ?_; rintro e w2 ⟨v5, rfl, ho, hb2⟩; obtain ⟨A5, c5, rfl, hc5, hC5⟩ := Kd.R_reads ho; have HO := Aside0.mk ho; have HC5 := Aside0.mk hC5; have HL5 := Aside0.mk hc5; clear ho hC5 hc5; have HB2 := Aside0.mk hb2; have HD2 := Aside0.mk (HD.out.below hb2); clear hb2))
  have HX := Aside0.mk (Dev.new w2 a0 a1 a2 a3 a4 (.slice A5 l.length c5))
  have HZ := Aside0.mk (HD2.out.below (balloc w2 (.cells #[.int .i64 a0, .int .i64 a1, .int .i64 a2, .int .i64 a3, .int .i64 a4, .slice A5 l.length c5] 26)))
  have HQ := Aside0.mk (Kd.Q_lower (Kd.Q_alloc (Kd.Q_of_R HO.out) (.cells #[.int .i64 a0, .int .i64 a1, .int .i64 a2, .int .i64 a3, .int .i64 a4, .slice A5 l.length c5] 26)) HB1.out.size)
  clear HO
  have HB := Aside0.mk (bthen HB1.out (bthen HB2.out (balloc w2 (.cells #[.int .i64 a0, .int .i64 a1, .int .i64 a2, .int .i64 a3, .int .i64 a4, .slice A5 l.length c5] 26))))
  have hlt : w.heap.size + 1 < w2.heap.size := HD2.out.lt
  clear HB1 HB2 HD HD0 HD2 HC5 H2 HL5 d0 d1 d2 d3 d4 d5 z0 z1 z2 z3 z4 z5 y0 y1 y2 y3 y4 y5
  generalize w2.alloc (.cells #[.int .i64 a0, .int .i64 a1, .int .i64 a2, .int .i64 a3, .int .i64 a4, .slice A5 l.length c5] 26) = V at *
  generalize hB7 : w2.heap.size = B7 at *
  have hne : ¬ w.heap.size + 1 = B7 := by omega
  have hne2 : ¬ B7 = w.heap.size + 1 := by omega
  obtain ⟨⟨x0, x1, x2, x3, x4, x5⟩, ⟨z0, z1, z2, z3, z4, z5⟩, ⟨y0, y1, y2, y3, y4, y5⟩⟩ := And.intro HX.out.cells (And.intro HZ.out.cells HZ.out.free)
  go_upto_region 5 with (go_at_call 56; refine (works_calls B7 a0 V x0).mono ?_; rintro e w' ⟨rfl, rfl⟩; rw [hw])
  go_region
  all_goals
    go_wp2
    refine bodyPost_ret (v := .tuple #[.string f, .agg #[.int .i64 a0, .int .i64 a1, .int .i64 a2, .int .i64 a3, .int .i64 a4, .slice A5 l.length c5], .int .i64 0]) (by simp [results, Try.results25, go_sem, *]) rfl ⟨_, rfl, ?_, ?_⟩
    · exact Kd.Q_drew (OwnOps.store HQ.out HZ.out _ _ _ _ _ _)
    · refine below_drew ?_
      have hbb := HB.out
      repeat (first | (with_reducible exact hbb) | (with_reducible refine below_set ?_ (Nat.le_succ _)))
theorem own_head {base : Nat} {W : World} {A : Option Addr} {n c : Nat} {l : List SOp} (h : Kd.R k59 59 W base (fun _ => True) (.slice A n c) l) (hl : 0 < l.length) : ∃ g, A = some ⟨g, 0, none⟩ ∧ W.cell? ⟨g, 0, none⟩ = some (.bool (rd_T59 l 0).f0) ∧ W.cell? ⟨g, 1, none⟩ = some (.int .i64 (rd_T59 l 0).f1) ∧ W.cell? ⟨g, 2, none⟩ = some (.string (rd_T59 l 0).f2) := by
  obtain ⟨A', c', he, hc, hC⟩ := Kd.R_reads h
  injection he with h1 h2 h3
  subst h1 h3
  obtain ⟨ad, rfl, e0, e1, e2⟩ := at_T59 hC 0 (by decide) (by omega)
  obtain ⟨_, inner, ⟨_, ho⟩, _⟩ := h
  rcases ho with ⟨he, _⟩ | ⟨g, cap, cur, he, _⟩
  · injection he with h1 _ _
    cases h1
  · injection he with h1 _ _
    injection h1 with h1
    subst h1
    exact ⟨g, rfl, e0, e1, e2⟩
theorem ops_cut (g n c : Nat) (hn : 1 ≤ n) : ∃ A' : Option Addr, A' = (if c = (1 : Int).toNat then some ⟨g, 0, none⟩ else (some (⟨g, 0, none⟩ : Addr)).map (·.add ((1 : Int).toNat * 3))) ∧ ∀ W : World, (Instr.slice 24 (.slice (some ⟨g, 0, none⟩) n c) (some (.int .i64 1)) none none).run Try.prog W = .ok (.slice A' (n - 1) (c - 1)) W := by
  obtain ⟨i0, hi, hz0, hz1, hz2⟩ := info_parts info59
  exact ⟨_, rfl, fun W => cut_from 24 59 .i64 Try.underlying24 hi 3 hz1 (some ⟨g, 0, none⟩) n c 1 (by decide) (by omega) W⟩
set_option maxHeartbeats 2000000 in
set_option maxRecDepth 100000 in
theorem step_more (f : ByteArray) (a0 a1 a2 a3 a4 : Int) (A : Option Addr) (c : Nat) (l : List SOp) (w : World) (hr : Kd.C k59 w A l.length l) (hc : l.length ≤ c) (hf : (f.size : Int) = 768) (hm : devMayB a0 a1 a2 a3 a4 l = true) (hw : worksB a0 = true) (hl : 0 < l.length) (f' : ByteArray) (hd : ops_Do.f 2 f (rd_T59 l 0).f0 (rd_T59 l 0).f1 (rd_T59 l 0).f2 = some (f', 0)) (hmore : 0 < l.length - 1) :
    Calls Try.prog 25 #[.string f, .agg #[.int .i64 a0, .int .i64 a1, .int .i64 a2, .int .i64 a3, .int .i64 a4, .slice A l.length c]] w fun e w' => ∃ v : Value, e = .returned (.tuple #[.string f', .agg #[.int .i64 a0, .int .i64 a1, .int .i64 a2, .int .i64 a3, .int .i64 a4, v], .int .i64 0]) ∧ OwnOps w.heap.size w' v (l.drop 1) ∧ Below w.heap.size w w' := by
  have HDO := Aside0.mk hd
  clear hd
  have hm2 := hm
  have h1 : (decide ((f.size : Int) = 768)) = true := by simp [hf]
  have hl768 : l.length ≤ 768 := by
    simp only [devMayB, Bool.and_eq_true, decide_eq_true_eq] at hm2
    omega
  have HCP : Aside0 (device_Copy.f a0 a1 a2 a3 a4 l = some (a0, a1, a2, a3, a4, l)) := ⟨by rw [device_Copy.f, api_Op.f, if_pos (by omega)]; rfl⟩
  clear hm2
  have HR := Aside0.mk hr
  clear hr
  obtain ⟨W, hW⟩ : ∃ W, W = (w.alloc (.cells #[.int .i64 a0, .int .i64 a1, .int .i64 a2, .int .i64 a3, .int .i64 a4, .slice A l.length c] 26)).alloc (.cells #[.int .i64 0, .int .i64 0, .int .i64 0, .int .i64 0, .int .i64 0, .slice none 0 0] 26) := ⟨_, rfl⟩
  have H2 := Aside0.mk (two_devs w a0 a1 a2 a3 a4 (.slice A l.length c) W hW)
  have HW := Lib.hid hW
  clear hW
  go_enter Try.func25, Try.ntmps25
  go_upto_region 1 with (fail)
  rw [← HW.out]
  clear HW
  obtain ⟨⟨d0, d1, d2, d3, d4, d5⟩, ⟨z0, z1, z2, z3, z4, z5⟩, ⟨y0, y1, y2, y3, y4, y5⟩⟩ := And.intro H2.out.1.cells (And.intro H2.out.2.1.cells H2.out.2.1.free)
  go_upto_region 4 with (first | (go_at_call 42; refine (norMay_calls _ _).mono ?_; rintro e w' ⟨rfl, rfl⟩; rw [h1]) | (go_at_call 43; refine (device_may a0 a1 a2 a3 a4 A c l W (Kd.C_below HR.out H2.out.2.2)).mono ?_; rintro e w1 ⟨rfl, hb1⟩; rw [hm]; have HD0 := Aside0.mk (H2.out.1.below hb1); have HD := Aside0.mk (H2.out.2.1.below hb1); have HB1 := Aside0.mk (bthen H2.out.2.2 hb1); clear hb1 d0 d1 d2 d3 d4 d5 z0 z1 z2 z3 z4 z5 y0 y1 y2 y3 y4 y5; obtain ⟨⟨d0, d1, d2, d3, d4, d5⟩, ⟨z0, z1, z2, z3, z4, z5⟩, ⟨y0, y1, y2, y3, y4, y5⟩⟩ := And.intro HD0.out.cells (And.intro HD.out.cells HD.out.free)) | (go_at_call 48; refine (device_Copy.calls a0 a1 a2 a3 a4 A c l a0 a1 a2 a3 a4 l w1 (Kd.C_below HR.out HB1.out) hc HCP.out).mono ?_; rintro e w2 ⟨v5, rfl, ho, hb2⟩; obtain ⟨A5, c5, rfl, hc5, hC5⟩ := Kd.R_reads ho; have HO := Aside0.mk ho; have HC5 := Aside0.mk hC5; have HL5 := Aside0.mk hc5; clear ho hC5 hc5; have HB2 := Aside0.mk hb2; have HD2 := Aside0.mk (HD.out.below hb2); clear hb2))
  obtain ⟨g, hA5, o0, o1, o2⟩ := own_head HO.out hl
  subst hA5
  have HX := Aside0.mk (Dev.new w2 a0 a1 a2 a3 a4 (.slice (some ⟨g, 0, none⟩) l.length c5))
  have HZ := Aside0.mk (HD2.out.below (balloc w2 (.cells #[.int .i64 a0, .int .i64 a1, .int .i64 a2, .int .i64 a3, .int .i64 a4, .slice (some ⟨g, 0, none⟩) l.length c5] 26)))
  have HQ := Aside0.mk (Kd.Q_lower (Kd.Q_alloc (Kd.Q_of_R HO.out) (.cells #[.int .i64 a0, .int .i64 a1, .int .i64 a2, .int .i64 a3, .int .i64 a4, .slice (some ⟨g, 0, none⟩) l.length c5] 26)) HB1.out.size)
  clear HO
  have HB := Aside0.mk (bthen HB1.out (bthen HB2.out (balloc w2 (.cells #[.int .i64 a0, .int .i64 a1, .int .i64 a2, .int .i64 a3, .int .i64 a4, .slice (some ⟨g, 0, none⟩) l.length c5] 26))))
  have hlt : w.heap.size + 1 < w2.heap.size := HD2.out.lt
  clear HB1 HB2 HD HD0 HD2 HC5 H2 HL5 d0 d1 d2 d3 d4 d5 z0 z1 z2 z3 z4 z5 y0 y1 y2 y3 y4 y5
  have HE := Aside0.mk (And.intro (pw_cell_below (balloc w2 (.cells #[.int .i64 a0, .int .i64 a1, .int .i64 a2, .int .i64 a3, .int .i64 a4, .slice (some ⟨g, 0, none⟩) l.length c5] 26)) o0) (And.intro (pw_cell_below (balloc w2 (.cells #[.int .i64 a0, .int .i64 a1, .int .i64 a2, .int .i64 a3, .int .i64 a4, .slice (some ⟨g, 0, none⟩) l.length c5] 26)) o1) (pw_cell_below (balloc w2 (.cells #[.int .i64 a0, .int .i64 a1, .int .i64 a2, .int .i64 a3, .int .i64 a4, .slice (some ⟨g, 0, none⟩) l.length c5] 26)) o2)))
  clear o0 o1 o2
  generalize w2.alloc (.cells #[.int .i64 a0, .int .i64 a1, .int .i64 a2, .int .i64 a3, .int .i64 a4, .slice (some ⟨g, 0, none⟩) l.length c5] 26) = V at *
  generalize hB7 : w2.heap.size = B7 at *
  have hne : ¬ w.heap.size + 1 = B7 := by omega
  have hne2 : ¬ B7 = w.heap.size + 1 := by omega
  obtain ⟨⟨x0, x1, x2, x3, x4, x5⟩, ⟨z0, z1, z2, z3, z4, z5⟩, ⟨y0, y1, y2, y3, y4, y5⟩⟩ := And.intro HX.out.cells (And.intro HZ.out.cells HZ.out.free)
  obtain ⟨e0, e1, e2⟩ := HE.out
  generalize rd_T59 l 0 = o at *
  obtain ⟨oe, oa, ot⟩ := o
  obtain ⟨A', hA', hsl⟩ := ops_cut g l.length c5 (by omega)
  have HA' := Lib.hid hA'
  have HSL := Aside0.mk hsl
  clear hA' hsl
  have hli : (0 : Int) < (l.length : Int) := by omega
  have hmi : (0 : Int) < ((l.length - 1 : Nat) : Int) := by omega
  generalize hm1 : l.length - 1 = m1 at *
  have HM1 := Lib.hid hm1
  clear hm1
  go_upto_region 8 with (first | (go_at_call 56; refine (works_calls B7 a0 V x0).mono ?_; rintro e w' ⟨rfl, rfl⟩; rw [hw]) | (go_at_call 57; refine (ops_Do.calls 2 f oe oa ot f' 0 V HDO.out).mono ?_; rintro e w4 ⟨rfl, hb4⟩; have HB4 := Aside0.mk hb4; clear hb4))
  have HX4 := Aside0.mk (HX.out.below HB4.out)
  have HZ4 := Aside0.mk (HZ.out.below HB4.out)
  have HQ4 := Aside0.mk (Kd.Q_below HQ.out HB4.out)
  have HB5 := Aside0.mk (bthen HB.out HB4.out)
  clear HX HZ HQ HB HB4 x0 x1 x2 x3 x4 x5 z0 z1 z2 z3 z4 z5 y0 y1 y2 y3 y4 y5 e0 e1 e2
  obtain ⟨⟨x0, x1, x2, x3, x4, x5⟩, ⟨v0, v1, v2, v3, v4, v5⟩⟩ := And.intro HX4.out.cells HX4.out.free
  obtain ⟨⟨z0, z1, z2, z3, z4, z5⟩, ⟨y0, y1, y2, y3, y4, y5⟩⟩ := And.intro HZ4.out.cells HZ4.out.free
  have hsl := HSL.out
  go_upto_region 10 with (fail)
  clear hsl
  have HX5 := Aside0.mk (HX4.out.set5 (.slice A' m1 (c5 - 1)))
  have HZ5 := Aside0.mk (HZ4.out.far (g := B7) (o := 5) (v := .slice A' m1 (c5 - 1)) hne)
  have HQ5 := Aside0.mk (OwnOps.set1 HQ4.out HX4.out (j := 5) (u := .slice A' m1 (c5 - 1)))
  have HB6 := Aside0.mk (below_set HB5.out (show w.heap.size ≤ B7 by omega) (v := .slice A' m1 (c5 - 1)) (j := 5))
  clear HX4 HZ4 HQ4 x0 x1 x2 x3 x4 x5 v0 v1 v2 v3 v4 v5 z0 z1 z2 z3 z4 z5 y0 y1 y2 y3 y4 y5
  generalize w4.setCell ⟨B7, 5, none⟩ (.slice A' m1 (c5 - 1)) = U at *
  have HT := Aside0.mk (show OwnOps w.heap.size U (.slice A' m1 (c5 - 1)) (l.drop 1) from by
    have hq := Kd.Q_drop (k := 1) HQ5.out (by omega)
    rw [HM1.out] at hq
    rw [HA'.out]
    exact hq)
  clear HQ5
  obtain ⟨⟨x0, x1, x2, x3, x4, x5⟩, ⟨v0, v1, v2, v3, v4, v5⟩⟩ := And.intro HX5.out.cells HX5.out.free
  obtain ⟨⟨z0, z1, z2, z3, z4, z5⟩, ⟨y0, y1, y2, y3, y4, y5⟩⟩ := And.intro HZ5.out.cells HZ5.out.free
  go_upto_region 13 with (fail)
  go_region
  all_goals
    go_wp2
    refine bodyPost_ret (v := .tuple #[.string f', .agg #[.int .i64 a0, .int .i64 a1, .int .i64 a2, .int .i64 a3, .int .i64 a4, .slice A' m1 (c5 - 1)], .int .i64 0]) (by simp [results, Try.results25, go_sem, *]) rfl ⟨_, rfl, ?_, ?_⟩
    · exact Kd.Q_drew (OwnOps.store HT.out HZ5.out _ _ _ _ _ _)
    · refine below_drew ?_
      have hbb := HB6.out
      repeat (first | (with_reducible exact hbb) | (with_reducible refine below_set ?_ (Nat.le_succ _)))
set_option maxHeartbeats 2000000 in
set_option maxRecDepth 100000 in
theorem step_last5 (f : ByteArray) (a0 a1 a2 a3 a4 : Int) (A : Option Addr) (c : Nat) (l : List SOp) (w : World) (hr : Kd.C k59 w A l.length l) (hc : l.length ≤ c) (hf : (f.size : Int) = 768) (hm : devMayB a0 a1 a2 a3 a4 l = true) (hw : worksB a0 = true) (hl : 0 < l.length) (f' : ByteArray) (hd : ops_Do.f 2 f (rd_T59 l 0).f0 (rd_T59 l 0).f1 (rd_T59 l 0).f2 = some (f', 0)) (hmore : l.length - 1 = 0) (ha5 : a0 = 5) :
    Calls Try.prog 25 #[.string f, .agg #[.int .i64 a0, .int .i64 a1, .int .i64 a2, .int .i64 a3, .int .i64 a4, .slice A l.length c]] w fun e w' => ∃ v : Value, e = .returned (.tuple #[.string f', .agg #[.int .i64 0, .int .i64 0, .int .i64 0, .int .i64 0, .int .i64 0, v], .int .i64 0]) ∧ OwnOps w.heap.size w' v [] ∧ Below w.heap.size w w' := by
  have HDO := Aside0.mk hd
  have HA5 := Lib.hid ha5
  clear ha5
  clear hd
  have hm2 := hm
  have h1 : (decide ((f.size : Int) = 768)) = true := by simp [hf]
  have hl768 : l.length ≤ 768 := by
    simp only [devMayB, Bool.and_eq_true, decide_eq_true_eq] at hm2
    omega
  have HCP : Aside0 (device_Copy.f a0 a1 a2 a3 a4 l = some (a0, a1, a2, a3, a4, l)) := ⟨by rw [device_Copy.f, api_Op.f, if_pos (by omega)]; rfl⟩
  clear hm2
  have HR := Aside0.mk hr
  clear hr
  obtain ⟨W, hW⟩ : ∃ W, W = (w.alloc (.cells #[.int .i64 a0, .int .i64 a1, .int .i64 a2, .int .i64 a3, .int .i64 a4, .slice A l.length c] 26)).alloc (.cells #[.int .i64 0, .int .i64 0, .int .i64 0, .int .i64 0, .int .i64 0, .slice none 0 0] 26) := ⟨_, rfl⟩
  have H2 := Aside0.mk (two_devs w a0 a1 a2 a3 a4 (.slice A l.length c) W hW)
  have HW := Lib.hid hW
  clear hW
  go_enter Try.func25, Try.ntmps25
  go_upto_region 1 with (fail)
  rw [← HW.out]
  clear HW
  obtain ⟨⟨d0, d1, d2, d3, d4, d5⟩, ⟨z0, z1, z2, z3, z4, z5⟩, ⟨y0, y1, y2, y3, y4, y5⟩⟩ := And.intro H2.out.1.cells (And.intro H2.out.2.1.cells H2.out.2.1.free)
  go_upto_region 4 with (first | (go_at_call 42; refine (norMay_calls _ _).mono ?_; rintro e w' ⟨rfl, rfl⟩; rw [h1]) | (go_at_call 43; refine (device_may a0 a1 a2 a3 a4 A c l W (Kd.C_below HR.out H2.out.2.2)).mono ?_; rintro e w1 ⟨rfl, hb1⟩; rw [hm]; have HD0 := Aside0.mk (H2.out.1.below hb1); have HD := Aside0.mk (H2.out.2.1.below hb1); have HB1 := Aside0.mk (bthen H2.out.2.2 hb1); clear hb1 d0 d1 d2 d3 d4 d5 z0 z1 z2 z3 z4 z5 y0 y1 y2 y3 y4 y5; obtain ⟨⟨d0, d1, d2, d3, d4, d5⟩, ⟨z0, z1, z2, z3, z4, z5⟩, ⟨y0, y1, y2, y3, y4, y5⟩⟩ := And.intro HD0.out.cells (And.intro HD.out.cells HD.out.free)) | (go_at_call 48; refine (device_Copy.calls a0 a1 a2 a3 a4 A c l a0 a1 a2 a3 a4 l w1 (Kd.C_below HR.out HB1.out) hc HCP.out).mono ?_; rintro e w2 ⟨v5, rfl, ho, hb2⟩; obtain ⟨A5, c5, rfl, hc5, hC5⟩ := Kd.R_reads ho; have HO := Aside0.mk ho; have HC5 := Aside0.mk hC5; have HL5 := Aside0.mk hc5; clear ho hC5 hc5; have HB2 := Aside0.mk hb2; have HD2 := Aside0.mk (HD.out.below hb2); clear hb2))
  obtain ⟨g, hA5, o0, o1, o2⟩ := own_head HO.out hl
  subst hA5
  have HX := Aside0.mk (Dev.new w2 a0 a1 a2 a3 a4 (.slice (some ⟨g, 0, none⟩) l.length c5))
  have HZ := Aside0.mk (HD2.out.below (balloc w2 (.cells #[.int .i64 a0, .int .i64 a1, .int .i64 a2, .int .i64 a3, .int .i64 a4, .slice (some ⟨g, 0, none⟩) l.length c5] 26)))
  have HQ := Aside0.mk (Kd.Q_lower (Kd.Q_alloc (Kd.Q_of_R HO.out) (.cells #[.int .i64 a0, .int .i64 a1, .int .i64 a2, .int .i64 a3, .int .i64 a4, .slice (some ⟨g, 0, none⟩) l.length c5] 26)) HB1.out.size)
  clear HO
  have HB := Aside0.mk (bthen HB1.out (bthen HB2.out (balloc w2 (.cells #[.int .i64 a0, .int .i64 a1, .int .i64 a2, .int .i64 a3, .int .i64 a4, .slice (some ⟨g, 0, none⟩) l.length c5] 26))))
  have hlt : w.heap.size + 1 < w2.heap.size := HD2.out.lt
  clear HB1 HB2 HD HD0 HD2 HC5 H2 HL5 d0 d1 d2 d3 d4 d5 z0 z1 z2 z3 z4 z5 y0 y1 y2 y3 y4 y5
  have HE := Aside0.mk (And.intro (pw_cell_below (balloc w2 (.cells #[.int .i64 a0, .int .i64 a1, .int .i64 a2, .int .i64 a3, .int .i64 a4, .slice (some ⟨g, 0, none⟩) l.length c5] 26)) o0) (And.intro (pw_cell_below (balloc w2 (.cells #[.int .i64 a0, .int .i64 a1, .int .i64 a2, .int .i64 a3, .int .i64 a4, .slice (some ⟨g, 0, none⟩) l.length c5] 26)) o1) (pw_cell_below (balloc w2 (.cells #[.int .i64 a0, .int .i64 a1, .int .i64 a2, .int .i64 a3, .int .i64 a4, .slice (some ⟨g, 0, none⟩) l.length c5] 26)) o2)))
  clear o0 o1 o2
  generalize w2.alloc (.cells #[.int .i64 a0, .int .i64 a1, .int .i64 a2, .int .i64 a3, .int .i64 a4, .slice (some ⟨g, 0, none⟩) l.length c5] 26) = V at *
  generalize hB7 : w2.heap.size = B7 at *
  have hne : ¬ w.heap.size + 1 = B7 := by omega
  have hne2 : ¬ B7 = w.heap.size + 1 := by omega
  obtain ⟨⟨x0, x1, x2, x3, x4, x5⟩, ⟨z0, z1, z2, z3, z4, z5⟩, ⟨y0, y1, y2, y3, y4, y5⟩⟩ := And.intro HX.out.cells (And.intro HZ.out.cells HZ.out.free)
  obtain ⟨e0, e1, e2⟩ := HE.out
  generalize rd_T59 l 0 = o at *
  obtain ⟨oe, oa, ot⟩ := o
  obtain ⟨A', hA', hsl⟩ := ops_cut g l.length c5 (by omega)
  have HA' := Lib.hid hA'
  have HSL := Aside0.mk hsl
  clear hA' hsl
  have hli : (0 : Int) < (l.length : Int) := by omega
  rw [hmore] at HSL
  have HM1 := Lib.hid hmore
  clear hmore
  go_upto_region 8 with (first | (go_at_call 56; refine (works_calls B7 a0 V x0).mono ?_; rintro e w' ⟨rfl, rfl⟩; rw [hw]) | (go_at_call 57; refine (ops_Do.calls 2 f oe oa ot f' 0 V HDO.out).mono ?_; rintro e w4 ⟨rfl, hb4⟩; have HB4 := Aside0.mk hb4; clear hb4))
  have HX4 := Aside0.mk (HX.out.below HB4.out)
  have HZ4 := Aside0.mk (HZ.out.below HB4.out)
  have HQ4 := Aside0.mk (Kd.Q_below HQ.out HB4.out)
  have HB5 := Aside0.mk (bthen HB.out HB4.out)
  clear HX HZ HQ HB HB4 x0 x1 x2 x3 x4 x5 z0 z1 z2 z3 z4 z5 y0 y1 y2 y3 y4 y5 e0 e1 e2
  obtain ⟨⟨x0, x1, x2, x3, x4, x5⟩, ⟨v0, v1, v2, v3, v4, v5⟩⟩ := And.intro HX4.out.cells HX4.out.free
  obtain ⟨⟨z0, z1, z2, z3, z4, z5⟩, ⟨y0, y1, y2, y3, y4, y5⟩⟩ := And.intro HZ4.out.cells HZ4.out.free
  have hsl := HSL.out
  go_upto_region 10 with (fail)
  clear hsl
  have HX5 := Aside0.mk (HX4.out.set5 (.slice A' 0 (c5 - 1)))
  have HZ5 := Aside0.mk (HZ4.out.far (g := B7) (o := 5) (v := .slice A' 0 (c5 - 1)) hne)
  have HQ5 := Aside0.mk (OwnOps.set1 HQ4.out HX4.out (j := 5) (u := .slice A' 0 (c5 - 1)))
  have HB6 := Aside0.mk (below_set HB5.out (show w.heap.size ≤ B7 by omega) (v := .slice A' 0 (c5 - 1)) (j := 5))
  clear HX4 HZ4 HQ4 x0 x1 x2 x3 x4 x5 v0 v1 v2 v3 v4 v5 z0 z1 z2 z3 z4 z5 y0 y1 y2 y3 y4 y5
  generalize w4.setCell ⟨B7, 5, none⟩ (.slice A' 0 (c5 - 1)) = U at *
  have HT := Aside0.mk (show OwnOps w.heap.size U (.slice A' 0 (c5 - 1)) (l.drop 1) from by
    have hq := Kd.Q_drop (k := 1) HQ5.out (by omega)
    rw [HM1.out] at hq
    rw [HA'.out]
    exact hq)
  clear HQ5
  obtain ⟨⟨x0, x1, x2, x3, x4, x5⟩, ⟨v0, v1, v2, v3, v4, v5⟩⟩ := And.intro HX5.out.cells HX5.out.free
  obtain ⟨⟨z0, z1, z2, z3, z4, z5⟩, ⟨y0, y1, y2, y3, y4, y5⟩⟩ := And.intro HZ5.out.cells HZ5.out.free
  have e5 : (a0 == 5) = true := by rw [HA5.out]; rfl
  go_upto_region 13 with (go_at_call 50; refine (new_calls _).mono ?_; rintro e w6 ⟨rfl, hb6⟩; have HX6 := Aside0.mk (HX5.out.below hb6); have HZ6 := Aside0.mk (HZ5.out.below hb6); have HB7 := Aside0.mk (bthen HB6.out hb6); clear hb6 x0 x1 x2 x3 x4 x5 v0 v1 v2 v3 v4 v5 z0 z1 z2 z3 z4 z5 y0 y1 y2 y3 y4 y5; obtain ⟨⟨x0, x1, x2, x3, x4, x5⟩, ⟨v0, v1, v2, v3, v4, v5⟩⟩ := And.intro HX6.out.cells HX6.out.free)
  have HX7 := Aside0.mk (HX6.out.store 0 0 0 0 0 (.slice none 0 0))
  have HZ7 := Aside0.mk (Dev.store_far HZ6.out (g := B7) hne 0 0 0 0 0 (.slice none 0 0))
  have hge : w.heap.size ≤ B7 := by omega
  have HB8 : Aside0 (Below w.heap.size w ((((((w6.setCell ⟨B7, 0, none⟩ (.int .i64 0)).setCell ⟨B7, 1, none⟩ (.int .i64 0)).setCell ⟨B7, 2, none⟩ (.int .i64 0)).setCell ⟨B7, 3, none⟩ (.int .i64 0)).setCell ⟨B7, 4, none⟩ (.int .i64 0)).setCell ⟨B7, 5, none⟩ (.slice none 0 0))) := ⟨by
    have hbb := HB7.out
    repeat (first | (with_reducible exact hbb) | (with_reducible refine below_set ?_ hge))⟩
  clear x0 x1 x2 x3 x4 x5 v0 v1 v2 v3 v4 v5
  generalize (((((w6.setCell ⟨B7, 0, none⟩ (.int .i64 0)).setCell ⟨B7, 1, none⟩ (.int .i64 0)).setCell ⟨B7, 2, none⟩ (.int .i64 0)).setCell ⟨B7, 3, none⟩ (.int .i64 0)).setCell ⟨B7, 4, none⟩ (.int .i64 0)).setCell ⟨B7, 5, none⟩ (.slice none 0 0) = U2 at *
  obtain ⟨⟨x0, x1, x2, x3, x4, x5⟩, ⟨v0, v1, v2, v3, v4, v5⟩⟩ := And.intro HX7.out.cells HX7.out.free
  obtain ⟨⟨z0, z1, z2, z3, z4, z5⟩, ⟨y0, y1, y2, y3, y4, y5⟩⟩ := And.intro HZ7.out.cells HZ7.out.free
  go_region
  all_goals
    go_wp2
    refine bodyPost_ret (v := .tuple #[.string f', .agg #[.int .i64 0, .int .i64 0, .int .i64 0, .int .i64 0, .int .i64 0, .slice none 0 0], .int .i64 0]) (by simp [results, Try.results25, go_sem, *]) rfl ⟨_, rfl, Kd.Q_nil _ _ _ _ _, ?_⟩
    refine below_drew ?_
    have hbb := HB8.out
    repeat (first | (with_reducible exact hbb) | (with_reducible refine below_set ?_ (Nat.le_succ _)))
set_option maxHeartbeats 2000000 in
set_option maxRecDepth 100000 in
theorem step_last2 (f : ByteArray) (a0 a1 a2 a3 a4 : Int) (A : Option Addr) (c : Nat) (l : List SOp) (w : World) (hr : Kd.C k59 w A l.length l) (hc : l.length ≤ c) (hf : (f.size : Int) = 768) (hm : devMayB a0 a1 a2 a3 a4 l = true) (hw : worksB a0 = true) (hl : 0 < l.length) (f' : ByteArray) (hd : ops_Do.f 2 f (rd_T59 l 0).f0 (rd_T59 l 0).f1 (rd_T59 l 0).f2 = some (f', 0)) (hmore : l.length - 1 = 0) (ha5 : ¬ a0 = 5) :
    Calls Try.prog 25 #[.string f, .agg #[.int .i64 a0, .int .i64 a1, .int .i64 a2, .int .i64 a3, .int .i64 a4, .slice A l.length c]] w fun e w' => ∃ v : Value, e = .returned (.tuple #[.string f', .agg #[.int .i64 1, .int .i64 a1, .int .i64 a2, .int .i64 a3, .int .i64 a4, v], .int .i64 0]) ∧ OwnOps w.heap.size w' v (l.drop 1) ∧ Below w.heap.size w w' := by
  have HDO := Aside0.mk hd
  have HA5 := Lib.hid ha5
  clear ha5
  clear hd
  have hm2 := hm
  have h1 : (decide ((f.size : Int) = 768)) = true := by simp [hf]
  have hl768 : l.length ≤ 768 := by
    simp only [devMayB, Bool.and_eq_true, decide_eq_true_eq] at hm2
    omega
  have HCP : Aside0 (device_Copy.f a0 a1 a2 a3 a4 l = some (a0, a1, a2, a3, a4, l)) := ⟨by rw [device_Copy.f, api_Op.f, if_pos (by omega)]; rfl⟩
  clear hm2
  have HR := Aside0.mk hr
  clear hr
  obtain ⟨W, hW⟩ : ∃ W, W = (w.alloc (.cells #[.int .i64 a0, .int .i64 a1, .int .i64 a2, .int .i64 a3, .int .i64 a4, .slice A l.length c] 26)).alloc (.cells #[.int .i64 0, .int .i64 0, .int .i64 0, .int .i64 0, .int .i64 0, .slice none 0 0] 26) := ⟨_, rfl⟩
  have H2 := Aside0.mk (two_devs w a0 a1 a2 a3 a4 (.slice A l.length c) W hW)
  have HW := Lib.hid hW
  clear hW
  go_enter Try.func25, Try.ntmps25
  go_upto_region 1 with (fail)
  rw [← HW.out]
  clear HW
  obtain ⟨⟨d0, d1, d2, d3, d4, d5⟩, ⟨z0, z1, z2, z3, z4, z5⟩, ⟨y0, y1, y2, y3, y4, y5⟩⟩ := And.intro H2.out.1.cells (And.intro H2.out.2.1.cells H2.out.2.1.free)
  go_upto_region 4 with (first | (go_at_call 42; refine (norMay_calls _ _).mono ?_; rintro e w' ⟨rfl, rfl⟩; rw [h1]) | (go_at_call 43; refine (device_may a0 a1 a2 a3 a4 A c l W (Kd.C_below HR.out H2.out.2.2)).mono ?_; rintro e w1 ⟨rfl, hb1⟩; rw [hm]; have HD0 := Aside0.mk (H2.out.1.below hb1); have HD := Aside0.mk (H2.out.2.1.below hb1); have HB1 := Aside0.mk (bthen H2.out.2.2 hb1); clear hb1 d0 d1 d2 d3 d4 d5 z0 z1 z2 z3 z4 z5 y0 y1 y2 y3 y4 y5; obtain ⟨⟨d0, d1, d2, d3, d4, d5⟩, ⟨z0, z1, z2, z3, z4, z5⟩, ⟨y0, y1, y2, y3, y4, y5⟩⟩ := And.intro HD0.out.cells (And.intro HD.out.cells HD.out.free)) | (go_at_call 48; refine (device_Copy.calls a0 a1 a2 a3 a4 A c l a0 a1 a2 a3 a4 l w1 (Kd.C_below HR.out HB1.out) hc HCP.out).mono ?_; rintro e w2 ⟨v5, rfl, ho, hb2⟩; obtain ⟨A5, c5, rfl, hc5, hC5⟩ := Kd.R_reads ho; have HO := Aside0.mk ho; have HC5 := Aside0.mk hC5; have HL5 := Aside0.mk hc5; clear ho hC5 hc5; have HB2 := Aside0.mk hb2; have HD2 := Aside0.mk (HD.out.below hb2); clear hb2))
  obtain ⟨g, hA5, o0, o1, o2⟩ := own_head HO.out hl
  subst hA5
  have HX := Aside0.mk (Dev.new w2 a0 a1 a2 a3 a4 (.slice (some ⟨g, 0, none⟩) l.length c5))
  have HZ := Aside0.mk (HD2.out.below (balloc w2 (.cells #[.int .i64 a0, .int .i64 a1, .int .i64 a2, .int .i64 a3, .int .i64 a4, .slice (some ⟨g, 0, none⟩) l.length c5] 26)))
  have HQ := Aside0.mk (Kd.Q_lower (Kd.Q_alloc (Kd.Q_of_R HO.out) (.cells #[.int .i64 a0, .int .i64 a1, .int .i64 a2, .int .i64 a3, .int .i64 a4, .slice (some ⟨g, 0, none⟩) l.length c5] 26)) HB1.out.size)
  clear HO
  have HB := Aside0.mk (bthen HB1.out (bthen HB2.out (balloc w2 (.cells #[.int .i64 a0, .int .i64 a1, .int .i64 a2, .int .i64 a3, .int .i64 a4, .slice (some ⟨g, 0, none⟩) l.length c5] 26))))
  have hlt : w.heap.size + 1 < w2.heap.size := HD2.out.lt
  clear HB1 HB2 HD HD0 HD2 HC5 H2 HL5 d0 d1 d2 d3 d4 d5 z0 z1 z2 z3 z4 z5 y0 y1 y2 y3 y4 y5
  have HE := Aside0.mk (And.intro (pw_cell_below (balloc w2 (.cells #[.int .i64 a0, .int .i64 a1, .int .i64 a2, .int .i64 a3, .int .i64 a4, .slice (some ⟨g, 0, none⟩) l.length c5] 26)) o0) (And.intro (pw_cell_below (balloc w2 (.cells #[.int .i64 a0, .int .i64 a1, .int .i64 a2, .int .i64 a3, .int .i64 a4, .slice (some ⟨g, 0, none⟩) l.length c5] 26)) o1) (pw_cell_below (balloc w2 (.cells #[.int .i64 a0, .int .i64 a1, .int .i64 a2, .int .i64 a3, .int .i64 a4, .slice (some ⟨g, 0, none⟩) l.length c5] 26)) o2)))
  clear o0 o1 o2
  generalize w2.alloc (.cells #[.int .i64 a0, .int .i64 a1, .int .i64 a2, .int .i64 a3, .int .i64 a4, .slice (some ⟨g, 0, none⟩) l.length c5] 26) = V at *
  generalize hB7 : w2.heap.size = B7 at *
  have hne : ¬ w.heap.size + 1 = B7 := by omega
  have hne2 : ¬ B7 = w.heap.size + 1 := by omega
  obtain ⟨⟨x0, x1, x2, x3, x4, x5⟩, ⟨z0, z1, z2, z3, z4, z5⟩, ⟨y0, y1, y2, y3, y4, y5⟩⟩ := And.intro HX.out.cells (And.intro HZ.out.cells HZ.out.free)
  obtain ⟨e0, e1, e2⟩ := HE.out
  generalize rd_T59 l 0 = o at *
  obtain ⟨oe, oa, ot⟩ := o
  obtain ⟨A', hA', hsl⟩ := ops_cut g l.length c5 (by omega)
  have HA' := Lib.hid hA'
  have HSL := Aside0.mk hsl
  clear hA' hsl
  have hli : (0 : Int) < (l.length : Int) := by omega
  rw [hmore] at HSL
  have HM1 := Lib.hid hmore
  clear hmore
  go_upto_region 8 with (first | (go_at_call 56; refine (works_calls B7 a0 V x0).mono ?_; rintro e w' ⟨rfl, rfl⟩; rw [hw]) | (go_at_call 57; refine (ops_Do.calls 2 f oe oa ot f' 0 V HDO.out).mono ?_; rintro e w4 ⟨rfl, hb4⟩; have HB4 := Aside0.mk hb4; clear hb4))
  have HX4 := Aside0.mk (HX.out.below HB4.out)
  have HZ4 := Aside0.mk (HZ.out.below HB4.out)
  have HQ4 := Aside0.mk (Kd.Q_below HQ.out HB4.out)
  have HB5 := Aside0.mk (bthen HB.out HB4.out)
  clear HX HZ HQ HB HB4 x0 x1 x2 x3 x4 x5 z0 z1 z2 z3 z4 z5 y0 y1 y2 y3 y4 y5 e0 e1 e2
  obtain ⟨⟨x0, x1, x2, x3, x4, x5⟩, ⟨v0, v1, v2, v3, v4, v5⟩⟩ := And.intro HX4.out.cells HX4.out.free
  obtain ⟨⟨z0, z1, z2, z3, z4, z5⟩, ⟨y0, y1, y2, y3, y4, y5⟩⟩ := And.intro HZ4.out.cells HZ4.out.free
  have hsl := HSL.out
  go_upto_region 10 with (fail)
  clear hsl
  have HX5 := Aside0.mk (HX4.out.set5 (.slice A' 0 (c5 - 1)))
  have HZ5 := Aside0.mk (HZ4.out.far (g := B7) (o := 5) (v := .slice A' 0 (c5 - 1)) hne)
  have HQ5 := Aside0.mk (OwnOps.set1 HQ4.out HX4.out (j := 5) (u := .slice A' 0 (c5 - 1)))
  have HB6 := Aside0.mk (below_set HB5.out (show w.heap.size ≤ B7 by omega) (v := .slice A' 0 (c5 - 1)) (j := 5))
  clear HX4 HZ4 HQ4 x0 x1 x2 x3 x4 x5 v0 v1 v2 v3 v4 v5 z0 z1 z2 z3 z4 z5 y0 y1 y2 y3 y4 y5
  generalize w4.setCell ⟨B7, 5, none⟩ (.slice A' 0 (c5 - 1)) = U at *
  have HT := Aside0.mk (show OwnOps w.heap.size U (.slice A' 0 (c5 - 1)) (l.drop 1) from by
    have hq := Kd.Q_drop (k := 1) HQ5.out (by omega)
    rw [HM1.out] at hq
    rw [HA'.out]
    exact hq)
  clear HQ5
  obtain ⟨⟨x0, x1, x2, x3, x4, x5⟩, ⟨v0, v1, v2, v3, v4, v5⟩⟩ := And.intro HX5.out.cells HX5.out.free
  obtain ⟨⟨z0, z1, z2, z3, z4, z5⟩, ⟨y0, y1, y2, y3, y4, y5⟩⟩ := And.intro HZ5.out.cells HZ5.out.free
  have hn5 : (a0 == 5) = false := by simp [HA5.out]
  go_upto_region 13 with (fail)
  have HX7 := Aside0.mk (HX5.out.set0 1)
  have HZ7 := Aside0.mk (HZ5.out.far (g := B7) (o := 0) (v := .int .i64 1) hne)
  have HT7 := Aside0.mk (OwnOps.set1 HT.out HX5.out (j := 0) (u := .int .i64 1))
  have HB8 := Aside0.mk (below_set HB6.out (show w.heap.size ≤ B7 by omega) (v := .int .i64 1) (j := 0))
  clear HT x0 x1 x2 x3 x4 x5 v0 v1 v2 v3 v4 v5 z0 z1 z2 z3 z4 z5 y0 y1 y2 y3 y4 y5
  generalize U.setCell ⟨B7, 0, none⟩ (.int .i64 1) = U2 at *
  obtain ⟨⟨x0, x1, x2, x3, x4, x5⟩, ⟨v0, v1, v2, v3, v4, v5⟩⟩ := And.intro HX7.out.cells HX7.out.free
  obtain ⟨⟨z0, z1, z2, z3, z4, z5⟩, ⟨y0, y1, y2, y3, y4, y5⟩⟩ := And.intro HZ7.out.cells HZ7.out.free
  go_region
  all_goals
    go_wp2
    refine bodyPost_ret (v := .tuple #[.string f', .agg #[.int .i64 1, .int .i64 a1, .int .i64 a2, .int .i64 a3, .int .i64 a4, .slice A' 0 (c5 - 1)], .int .i64 0]) (by simp [results, Try.results25, go_sem, *]) rfl ⟨_, rfl, ?_, ?_⟩
    · exact Kd.Q_drew (OwnOps.store HT7.out HZ7.out _ _ _ _ _ _)
    · refine below_drew ?_
      have hbb := HB8.out
      repeat (first | (with_reducible exact hbb) | (with_reducible refine below_set ?_ (Nat.le_succ _)))
set_option maxHeartbeats 2000000 in
set_option maxRecDepth 100000 in
theorem step_none5 (f : ByteArray) (a0 a1 a2 a3 a4 : Int) (A : Option Addr) (c : Nat) (l : List SOp) (w : World) (hr : Kd.C k59 w A l.length l) (hc : l.length ≤ c) (hf : (f.size : Int) = 768) (hm : devMayB a0 a1 a2 a3 a4 l = true) (hw : worksB a0 = true) (hl : l.length = 0) (ha5 : a0 = 5) :
    Calls Try.prog 25 #[.string f, .agg #[.int .i64 a0, .int .i64 a1, .int .i64 a2, .int .i64 a3, .int .i64 a4, .slice A l.length c]] w fun e w' => ∃ v : Value, e = .returned (.tuple #[.string f, .agg #[.int .i64 0, .int .i64 0, .int .i64 0, .int .i64 0, .int .i64 0, v], .int .i64 0]) ∧ OwnOps w.heap.size w' v [] ∧ Below w.heap.size w w' := by
  have HA5 := Lib.hid ha5
  have HL0 := Lib.hid hl
  have hli : decide ((0 : Int) < (l.length : Int)) = false := by rw [hl]; rfl
  have hln : decide (0 < l.length) = false := by rw [hl]; rfl
  have hl0 : ¬ 0 < l.length := by omega
  clear ha5 hl
  have hm2 := hm
  have h1 : (decide ((f.size : Int) = 768)) = true := by simp [hf]
  have hl768 : l.length ≤ 768 := by
    simp only [devMayB, Bool.and_eq_true, decide_eq_true_eq] at hm2
    omega
  have HCP : Aside0 (device_Copy.f a0 a1 a2 a3 a4 l = some (a0, a1, a2, a3, a4, l)) := ⟨by rw [device_Copy.f, api_Op.f, if_pos (by omega)]; rfl⟩
  clear hm2
  have HR := Aside0.mk hr
  clear hr
  obtain ⟨W, hW⟩ : ∃ W, W = (w.alloc (.cells #[.int .i64 a0, .int .i64 a1, .int .i64 a2, .int .i64 a3, .int .i64 a4, .slice A l.length c] 26)).alloc (.cells #[.int .i64 0, .int .i64 0, .int .i64 0, .int .i64 0, .int .i64 0, .slice none 0 0] 26) := ⟨_, rfl⟩
  have H2 := Aside0.mk (two_devs w a0 a1 a2 a3 a4 (.slice A l.length c) W hW)
  have HW := Lib.hid hW
  clear hW
  go_enter Try.func25, Try.ntmps25
  go_upto_region 1 with (fail)
  rw [← HW.out]
  clear HW
  obtain ⟨⟨d0, d1, d2, d3, d4, d5⟩, ⟨z0, z1, z2, z3, z4, z5⟩, ⟨y0, y1, y2, y3, y4, y5⟩⟩ := And.intro H2.out.1.cells (And.intro H2.out.2.1.cells H2.out.2.1.free)
  go_upto_region 4 with (first | (go_at_call 42; refine (norMay_calls _ _).mono ?_; rintro e w' ⟨rfl, rfl⟩; rw [h1]) | (go_at_call 43; refine (device_may a0 a1 a2 a3 a4 A c l W (Kd.C_below HR.out H2.out.2.2)).mono ?_; rintro e w1 ⟨rfl, hb1⟩; rw [hm]; have HD0 := Aside0.mk (H2.out.1.below hb1); have HD := Aside0.mk (H2.out.2.1.below hb1); have HB1 := Aside0.mk (bthen H2.out.2.2 hb1); clear hb1 d0 d1 d2 d3 d4 d5 z0 z1 z2 z3 z4 z5 y0 y1 y2 y3 y4 y5; obtain ⟨⟨d0, d1, d2, d3, d4, d5⟩, ⟨z0, z1, z2, z3, z4, z5⟩, ⟨y0, y1, y2, y3, y4, y5⟩⟩ := And.intro HD0.out.cells (And.intro HD.out.cells HD.out.free)) | (go_at_call 48; refine (device_Copy.calls a0 a1 a2 a3 a4 A c l a0 a1 a2 a3 a4 l w1 (Kd.C_below HR.out HB1.out) hc HCP.out).mono ?_; rintro e w2 ⟨v5, rfl, ho, hb2⟩; obtain ⟨A5, c5, rfl, hc5, hC5⟩ := Kd.R_reads ho; have HO := Aside0.mk ho; have HC5 := Aside0.mk hC5; have HL5 := Aside0.mk hc5; clear ho hC5 hc5; have HB2 := Aside0.mk hb2; have HD2 := Aside0.mk (HD.out.below hb2); clear hb2))
  have HX := Aside0.mk (Dev.new w2 a0 a1 a2 a3 a4 (.slice A5 l.length c5))
  have HZ := Aside0.mk (HD2.out.below (balloc w2 (.cells #[.int .i64 a0, .int .i64 a1, .int .i64 a2, .int .i64 a3, .int .i64 a4, .slice A5 l.length c5] 26)))
  have HQ := Aside0.mk (Kd.Q_lower (Kd.Q_alloc (Kd.Q_of_R HO.out) (.cells #[.int .i64 a0, .int .i64 a1, .int .i64 a2, .int .i64 a3, .int .i64 a4, .slice A5 l.length c5] 26)) HB1.out.size)
  clear HO
  have HB := Aside0.mk (bthen HB1.out (bthen HB2.out (balloc w2 (.cells #[.int .i64 a0, .int .i64 a1, .int .i64 a2, .int .i64 a3, .int .i64 a4, .slice A5 l.length c5] 26))))
  have hlt : w.heap.size + 1 < w2.heap.size := HD2.out.lt
  clear HB1 HB2 HD HD0 HD2 HC5 H2 HL5 d0 d1 d2 d3 d4 d5 z0 z1 z2 z3 z4 z5 y0 y1 y2 y3 y4 y5
  generalize w2.alloc (.cells #[.int .i64 a0, .int .i64 a1, .int .i64 a2, .int .i64 a3, .int .i64 a4, .slice A5 l.length c5] 26) = V at *
  generalize hB7 : w2.heap.size = B7 at *
  have hne : ¬ w.heap.size + 1 = B7 := by omega
  have hne2 : ¬ B7 = w.heap.size + 1 := by omega
  obtain ⟨⟨x0, x1, x2, x3, x4, x5⟩, ⟨z0, z1, z2, z3, z4, z5⟩, ⟨y0, y1, y2, y3, y4, y5⟩⟩ := And.intro HX.out.cells (And.intro HZ.out.cells HZ.out.free)
  have e5 : (a0 == 5) = true := by rw [HA5.out]; rfl
  go_upto_region 13 with (first | (go_at_call 56; refine (works_calls B7 a0 V x0).mono ?_; rintro e w' ⟨rfl, rfl⟩; rw [hw]) | (go_at_call 50; refine (new_calls _).mono ?_; rintro e w6 ⟨rfl, hb6⟩; have HX6 := Aside0.mk (HX.out.below hb6); have HZ6 := Aside0.mk (HZ.out.below hb6); have HB7 := Aside0.mk (bthen HB.out hb6); clear hb6 x0 x1 x2 x3 x4 x5 z0 z1 z2 z3 z4 z5 y0 y1 y2 y3 y4 y5; obtain ⟨⟨x0, x1, x2, x3, x4, x5⟩, ⟨v0, v1, v2, v3, v4, v5⟩⟩ := And.intro HX6.out.cells HX6.out.free))
  have HX7 := Aside0.mk (HX6.out.store 0 0 0 0 0 (.slice none 0 0))
  have HZ7 := Aside0.mk (Dev.store_far HZ6.out (g := B7) hne 0 0 0 0 0 (.slice none 0 0))
  have hge : w.heap.size ≤ B7 := by omega
  have HB8 : Aside0 (Below w.heap.size w ((((((w6.setCell ⟨B7, 0, none⟩ (.int .i64 0)).setCell ⟨B7, 1, none⟩ (.int .i64 0)).setCell ⟨B7, 2, none⟩ (.int .i64 0)).setCell ⟨B7, 3, none⟩ (.int .i64 0)).setCell ⟨B7, 4, none⟩ (.int .i64 0)).setCell ⟨B7, 5, none⟩ (.slice none 0 0))) := ⟨by
    have hbb := HB7.out
    repeat (first | (with_reducible exact hbb) | (with_reducible refine below_set ?_ hge))⟩
  clear x0 x1 x2 x3 x4 x5 v0 v1 v2 v3 v4 v5
  generalize (((((w6.setCell ⟨B7, 0, none⟩ (.int .i64 0)).setCell ⟨B7, 1, none⟩ (.int .i64 0)).setCell ⟨B7, 2, none⟩ (.int .i64 0)).setCell ⟨B7, 3, none⟩ (.int .i64 0)).setCell ⟨B7, 4, none⟩ (.int .i64 0)).setCell ⟨B7, 5, none⟩ (.slice none 0 0) = U2 at *
  obtain ⟨⟨x0, x1, x2, x3, x4, x5⟩, ⟨v0, v1, v2, v3, v4, v5⟩⟩ := And.intro HX7.out.cells HX7.out.free
  obtain ⟨⟨z0, z1, z2, z3, z4, z5⟩, ⟨y0, y1, y2, y3, y4, y5⟩⟩ := And.intro HZ7.out.cells HZ7.out.free
  go_region
  all_goals
    go_wp2
    refine bodyPost_ret (v := .tuple #[.string f, .agg #[.int .i64 0, .int .i64 0, .int .i64 0, .int .i64 0, .int .i64 0, .slice none 0 0], .int .i64 0]) (by simp [results, Try.results25, go_sem, *]) rfl ⟨_, rfl, Kd.Q_nil _ _ _ _ _, ?_⟩
    refine below_drew ?_
    have hbb := HB8.out
    repeat (first | (with_reducible exact hbb) | (with_reducible refine below_set ?_ (Nat.le_succ _)))
set_option maxHeartbeats 2000000 in
set_option maxRecDepth 100000 in
theorem step_none2 (f : ByteArray) (a0 a1 a2 a3 a4 : Int) (A : Option Addr) (c : Nat) (l : List SOp) (w : World) (hr : Kd.C k59 w A l.length l) (hc : l.length ≤ c) (hf : (f.size : Int) = 768) (hm : devMayB a0 a1 a2 a3 a4 l = true) (hw : worksB a0 = true) (hl : l.length = 0) (ha5 : ¬ a0 = 5) :
    Calls Try.prog 25 #[.string f, .agg #[.int .i64 a0, .int .i64 a1, .int .i64 a2, .int .i64 a3, .int .i64 a4, .slice A l.length c]] w fun e w' => ∃ v : Value, e = .returned (.tuple #[.string f, .agg #[.int .i64 1, .int .i64 a1, .int .i64 a2, .int .i64 a3, .int .i64 a4, v], .int .i64 0]) ∧ OwnOps w.heap.size w' v (l) ∧ Below w.heap.size w w' := by
  have HA5 := Lib.hid ha5
  have HL0 := Lib.hid hl
  have hli : decide ((0 : Int) < (l.length : Int)) = false := by rw [hl]; rfl
  have hln : decide (0 < l.length) = false := by rw [hl]; rfl
  have hl0 : ¬ 0 < l.length := by omega
  clear ha5 hl
  have hm2 := hm
  have h1 : (decide ((f.size : Int) = 768)) = true := by simp [hf]
  have hl768 : l.length ≤ 768 := by
    simp only [devMayB, Bool.and_eq_true, decide_eq_true_eq] at hm2
    omega
  have HCP : Aside0 (device_Copy.f a0 a1 a2 a3 a4 l = some (a0, a1, a2, a3, a4, l)) := ⟨by rw [device_Copy.f, api_Op.f, if_pos (by omega)]; rfl⟩
  clear hm2
  have HR := Aside0.mk hr
  clear hr
  obtain ⟨W, hW⟩ : ∃ W, W = (w.alloc (.cells #[.int .i64 a0, .int .i64 a1, .int .i64 a2, .int .i64 a3, .int .i64 a4, .slice A l.length c] 26)).alloc (.cells #[.int .i64 0, .int .i64 0, .int .i64 0, .int .i64 0, .int .i64 0, .slice none 0 0] 26) := ⟨_, rfl⟩
  have H2 := Aside0.mk (two_devs w a0 a1 a2 a3 a4 (.slice A l.length c) W hW)
  have HW := Lib.hid hW
  clear hW
  go_enter Try.func25, Try.ntmps25
  go_upto_region 1 with (fail)
  rw [← HW.out]
  clear HW
  obtain ⟨⟨d0, d1, d2, d3, d4, d5⟩, ⟨z0, z1, z2, z3, z4, z5⟩, ⟨y0, y1, y2, y3, y4, y5⟩⟩ := And.intro H2.out.1.cells (And.intro H2.out.2.1.cells H2.out.2.1.free)
  go_upto_region 4 with (first | (go_at_call 42; refine (norMay_calls _ _).mono ?_; rintro e w' ⟨rfl, rfl⟩; rw [h1]) | (go_at_call 43; refine (device_may a0 a1 a2 a3 a4 A c l W (Kd.C_below HR.out H2.out.2.2)).mono ?_; rintro e w1 ⟨rfl, hb1⟩; rw [hm]; have HD0 := Aside0.mk (H2.out.1.below hb1); have HD := Aside0.mk (H2.out.2.1.below hb1); have HB1 := Aside0.mk (bthen H2.out.2.2 hb1); clear hb1 d0 d1 d2 d3 d4 d5 z0 z1 z2 z3 z4 z5 y0 y1 y2 y3 y4 y5; obtain ⟨⟨d0, d1, d2, d3, d4, d5⟩, ⟨z0, z1, z2, z3, z4, z5⟩, ⟨y0, y1, y2, y3, y4, y5⟩⟩ := And.intro HD0.out.cells (And.intro HD.out.cells HD.out.free)) | (go_at_call 48; refine (device_Copy.calls a0 a1 a2 a3 a4 A c l a0 a1 a2 a3 a4 l w1 (Kd.C_below HR.out HB1.out) hc HCP.out).mono ?_; rintro e w2 ⟨v5, rfl, ho, hb2⟩; obtain ⟨A5, c5, rfl, hc5, hC5⟩ := Kd.R_reads ho; have HO := Aside0.mk ho; have HC5 := Aside0.mk hC5; have HL5 := Aside0.mk hc5; clear ho hC5 hc5; have HB2 := Aside0.mk hb2; have HD2 := Aside0.mk (HD.out.below hb2); clear hb2))
  have HX := Aside0.mk (Dev.new w2 a0 a1 a2 a3 a4 (.slice A5 l.length c5))
  have HZ := Aside0.mk (HD2.out.below (balloc w2 (.cells #[.int .i64 a0, .int .i64 a1, .int .i64 a2, .int .i64 a3, .int .i64 a4, .slice A5 l.length c5] 26)))
  have HQ := Aside0.mk (Kd.Q_lower (Kd.Q_alloc (Kd.Q_of_R HO.out) (.cells #[.int .i64 a0, .int .i64 a1, .int .i64 a2, .int .i64 a3, .int .i64 a4, .slice A5 l.length c5] 26)) HB1.out.size)
  clear HO
  have HB := Aside0.mk (bthen HB1.out (bthen HB2.out (balloc w2 (.cells #[.int .i64 a0, .int .i64 a1, .int .i64 a2, .int .i64 a3, .int .i64 a4, .slice A5 l.length c5] 26))))
  have hlt : w.heap.size + 1 < w2.heap.size := HD2.out.lt
  clear HB1 HB2 HD HD0 HD2 HC5 H2 HL5 d0 d1 d2 d3 d4 d5 z0 z1 z2 z3 z4 z5 y0 y1 y2 y3 y4 y5
  generalize w2.alloc (.cells #[.int .i64 a0, .int .i64 a1, .int .i64 a2, .int .i64 a3, .int .i64 a4, .slice A5 l.length c5] 26) = V at *
  generalize hB7 : w2.heap.size = B7 at *
  have hne : ¬ w.heap.size + 1 = B7 := by omega
  have hne2 : ¬ B7 = w.heap.size + 1 := by omega
  obtain ⟨⟨x0, x1, x2, x3, x4, x5⟩, ⟨z0, z1, z2, z3, z4, z5⟩, ⟨y0, y1, y2, y3, y4, y5⟩⟩ := And.intro HX.out.cells (And.intro HZ.out.cells HZ.out.free)
  have hn5 : (a0 == 5) = false := by simp [HA5.out]
  obtain ⟨v0, v1, v2, v3, v4, v5⟩ := HX.out.free
  go_upto_region 13 with (go_at_call 56; refine (works_calls B7 a0 V x0).mono ?_; rintro e w' ⟨rfl, rfl⟩; rw [hw])
  have HX7 := Aside0.mk (HX.out.set0 1)
  have HZ7 := Aside0.mk (HZ.out.far (g := B7) (o := 0) (v := .int .i64 1) hne)
  have HT7 := Aside0.mk (OwnOps.set1 HQ.out HX.out (j := 0) (u := .int .i64 1))
  have HB8 := Aside0.mk (below_set HB.out (show w.heap.size ≤ B7 by omega) (v := .int .i64 1) (j := 0))
  clear HQ x0 x1 x2 x3 x4 x5 v0 v1 v2 v3 v4 v5 z0 z1 z2 z3 z4 z5 y0 y1 y2 y3 y4 y5
  generalize V.setCell ⟨B7, 0, none⟩ (.int .i64 1) = U2 at *
  obtain ⟨⟨x0, x1, x2, x3, x4, x5⟩, ⟨v0, v1, v2, v3, v4, v5⟩⟩ := And.intro HX7.out.cells HX7.out.free
  obtain ⟨⟨z0, z1, z2, z3, z4, z5⟩, ⟨y0, y1, y2, y3, y4, y5⟩⟩ := And.intro HZ7.out.cells HZ7.out.free
  go_region
  all_goals
    go_wp2
    refine bodyPost_ret (v := .tuple #[.string f, .agg #[.int .i64 1, .int .i64 a1, .int .i64 a2, .int .i64 a3, .int .i64 a4, .slice A5 l.length c5], .int .i64 0]) (by simp [results, Try.results25, go_sem, *]) rfl ⟨_, rfl, ?_, ?_⟩
    · exact Kd.Q_drew (OwnOps.store HT7.out HZ7.out _ _ _ _ _ _)
    · refine below_drew ?_
      have hbb := HB8.out
      repeat (first | (with_reducible exact hbb) | (with_reducible refine below_set ?_ (Nat.le_succ _)))
end Go.Proofs.Ytaibkfgpdgabaaa.P
end

/- A part of the proof of T: what its last text uses; conditions: see there. -/
import Derived.WalkSpells
import Derived.Deep.RegionHeld3
import Derived.Test.YtaibkfgpdgabaaaTHTornR
import Derived.Test.YtaibkfgpdgabaaaTP0x0
section
namespace Go.Proofs.Ytaibkfgpdgabaaa.P
open Go.RowKit Go.Proofs.YtaibkfgpdgabaaaW.PrintWords Go.Proofs.YtaibkfgpdgabaaaW.PrintLast Go.Proofs.YtaibkfgpdgabaaaW.PrintMore
set_option linter.unusedVariables false
set_option linter.unusedSimpArgs false
def ffB (n : Nat) : ByteArray := ⟨(List.replicate n 255).toArray⟩
theorem ffB_size (n : Nat) : (ffB n).size = n := by simp [ffB, ByteArray.size]
theorem full_l (n : Nat) (hn : n ≤ 1000000) : ∀ d i k, i + d = n → d < k → skiffref1_full.l0 k n (List.replicate i 255 ++ List.replicate d 0) i = some (ffB n)
  | 0, i, 0, _, hk => absurd hk (by omega)
  | 0, i, k + 1, hi, _ => by
    rw [skiffref1_full.l0, if_neg (by omega)]
    obtain rfl : i = n := by omega
    simp [strOfNums, ffB]
  | d + 1, i, 0, _, hk => absurd hk (by omega)
  | d + 1, i, k + 1, hi, hk => by
    rw [skiffref1_full.l0, if_pos (by omega), if_pos (by omega), if_pos (by simp; omega)]
    have e : (List.replicate i (255 : Int) ++ List.replicate (d + 1) 0).set ((i : Int).toNat) 255 = List.replicate (i + 1) 255 ++ List.replicate d 0 := by
      rw [Int.toNat_natCast, List.set_append_right _ _ (by simp), List.length_replicate, Nat.sub_self, List.replicate_succ (n := d), List.set_cons_zero, List.replicate_succ', List.append_assoc]
      rfl
    have e2 : wrap64 ((i : Int) + 1) = ((i + 1 : Nat) : Int) := by unfold wrap64; omega
    rw [e, e2]
    exact full_l n hn d (i + 1) k (by omega) (by omega)
theorem full_f (n k : Nat) (hn : n ≤ 1000000) (hk : n < k) : skiffref1_full.f k n = some (ffB n) := by
  rw [skiffref1_full.f, if_pos (by omega), if_pos (by simp; omega)]
  exact full_l n hn n 0 k (by omega) hk
theorem full_calls (n : Nat) (hn : n ≤ 1000000) (w : World) : Calls Try.prog 65 #[.int .i64 n] w fun e w' => e = .returned (.string (ffB n)) ∧ Below w.heap.size w w' := skiffref1_full.calls (n + 1) n _ w (full_f n _ hn (Nat.lt_succ_self n))
def wordsL (a : Int) (t : ByteArray) : Nat → List S59
  | 0 => []
  | k + 1 => wordsL a t k ++ [⟨false, a + 4 * k, t.extract (4 * k) (4 * k + 4)⟩]
theorem wordsL_length (a : Int) (t : ByteArray) : ∀ k, (wordsL a t k).length = k
  | 0 => rfl
  | k + 1 => by rw [wordsL, List.length_append, wordsL_length a t k, List.length_singleton]
def padB (t : ByteArray) : ByteArray := t ++ ffB ((4 - t.size % 4) % 4)
theorem padB_size (t : ByteArray) : (padB t).size = t.size + (4 - t.size % 4) % 4 := by rw [padB, ByteArray.size_append, ffB_size]
def wordsMayB (a : Int) (t : ByteArray) : Bool := decide (0 ≤ a) && decide (a ≤ 768) && decide (a % 4 = 0) && decide ((t.size : Int) ≤ 768 - a)
set_option maxHeartbeats 800000 in
set_option maxRecDepth 100000 in
theorem refWords_no (a : Int) (t : ByteArray) (w : World) (h : wordsMayB a t = false) :
    Calls Try.prog 32 #[.int .i64 a, .string t] w fun e w' => e = .returned (.tuple #[.slice none 0 0, .int .i64 300]) ∧ Below w.heap.size w w' := by
  have H := Lib.hid h
  clear h
  go_enter Try.func32, Try.ntmps32
  go_wp2_with (first | (go_at_call 55; refine (upTo1_calls _ _ _ _).mono ?_; rintro e w' ⟨rfl, rfl⟩) | (go_at_call 65; exfalso; have := H.out; simp [wordsMayB, *] at this; try omega))
  all_goals first | (go_ret2; exact ⟨rfl, Below.refl _ _⟩) | (exfalso; have := H.out; simp [wordsMayB, *] at this; done) | (exfalso; have := H.out; simp [wordsMayB, *] at this; omega)
set_option maxHeartbeats 800000 in
set_option maxRecDepth 100000 in
theorem refWords_yes (a : Int) (t : ByteArray) (w : World) (h : wordsMayB a t = true) :
    Calls Try.prog 32 #[.int .i64 a, .string t] w fun e w' => ∃ v0_ : Value, e = .returned (.tuple #[v0_, .int .i64 0]) ∧ Kd.R k59 59 w' w.heap.size (fun _ => True) v0_ (wordsL a (padB t) ((padB t).size / 4)) ∧ Below w.heap.size w w' := by
  simp only [wordsMayB, Bool.and_eq_true, decide_eq_true_eq] at h
  obtain ⟨⟨⟨h1, h2⟩, h4⟩, h5⟩ := h
  obtain ⟨n, rfl⟩ := Int.eq_ofNat_of_zero_le h1
  have hp := padB_size t
  have HT := Lib.hid (show padB t = t ++ ffB ((4 - t.size % 4) % 4) from rfl)
  generalize padB t = T at *
  have hfs : (t ++ ffB ((4 - t.size % 4) % 4)).size = T.size := by rw [← HT.out]
  have hns : t.size + (ffB ((4 - t.size % 4) % 4)).size ≤ 9223372036854775807 := by rw [ffB_size]; omega
  obtain ⟨m, hm⟩ : ∃ m, T.size = 4 * m := ⟨T.size / 4, by omega⟩
  have hm1 : m ≤ 192 := by omega
  have hm4 : T.size / 4 = m := by omega
  rw [hm4]
  clear hm4 hp
  have hmd : Int.tmod (4 - (t.size : Int) % 4) 4 = (((4 - t.size % 4) % 4 : Nat) : Int) := by rw [Int.tmod_eq_emod_of_nonneg (by omega)]; omega
  go_enter Try.func32, Try.ntmps32
  go_wp2_with (first | (go_at_call 55; refine (upTo1_calls _ _ _ _).mono ?_; rintro e w' ⟨rfl, rfl⟩) | (go_at_call 65; refine (full_calls ((4 - t.size % 4) % 4) (by omega) _).mono ?_; rintro e w1 ⟨rfl, hb1⟩; have HB := Aside0.mk hb1; clear hb1))
  rw [← HT.out]
  clear hfs hns
  clear HT hmd
  go_loopw [7, 8] (fun v7 v8 wr => ∃ k : Nat, k ≤ m ∧ v8 = .int .i64 ((4 * k : Nat) : Int) ∧ Aside0 (Kd.R k59 59 wr w.heap.size (fun _ => True) v7 (wordsL n T k)) ∧ Aside0 (Below w.heap.size w wr)) (fun _ i _ => 4 * m - (intOf i).toNat)
  case atStart => exact ⟨0, by omega, rfl, ⟨Kd.R_nil _ _ _ _ _⟩, HB⟩
  case round =>
    obtain ⟨k, hk, rfl, HR, HB⟩ := hrel
    by_cases hlt : k < m
    · have hslice : 4 * k + 4 ≤ T.size := by omega
      go_wp2_with (first | ((with_reducible refine gate_builtin (b := .append) (xs := #[.tmp 38, .tmp 48]) rfl ?_); (try (refine gate_guard (by rfl) ?_; dsimp only)); at_builtin; refine Kd.R_append k59 (w0 := w) w.heap.size rfl (.tmp 38) (.tmp 48) 24 59 (.agg #[(.bool false), (.int .i64 0), (.string ⟨#[]⟩)]) 32 rfl Try.underlying24 info59 rfl (by decide) (by omega) u7 (wordsL n T k) (⟨false, (n : Int) + 4 * k, T.extract (4 * k) (4 * k + 4)⟩ : S59) [.bool false, .int .i64 ((n : Int) + 4 * k), .string (T.extract (4 * k) (4 * k + 4))] (fun _ => True) (fun _ => False) rfl rfl ?aP (fun _ hk => hk.elim) ?aF ?aO ?aB ?aS ?aL ?_; (case aP => exact k59_mkM _ _ _ _); (case aB => exact HB.out); (case aF => exact (fun _ _ => trivial)); (case aO => exact HR.out); (case aS => exact HB.out.size); (case aL => rw [wordsL_length]; omega); intro v147 w16 ho hb hg hat; have HR2 := Aside0.mk ho; have HB2 := Aside0.mk hb; clear ho hb hg hat))
      exact ⟨⟨k + 1, by omega, by go_num, ⟨HR2.out⟩, HB2⟩, by simp [intOf]; omega⟩
    · obtain rfl : k = m := by omega
      go_wp2
      go_ret2
      exact ⟨_, rfl, HR.out, HB.out⟩
def skiffref1_Words.f (a0 : Int) (a1 : ByteArray) : Option (List S59 × Int) := if wordsMayB a0 a1 = true then some (wordsL a0 (padB a1) ((padB a1).size / 4), 0) else some ([], 300)
theorem skiffref1_Words.calls (a0 : Int) (a1 : ByteArray) (r1 : List S59) (r2 : Int) (w : World) (h : skiffref1_Words.f a0 a1 = some (r1, r2)) :
    Calls Try.prog 32 #[.int .i64 a0, .string a1] w fun e w' => ∃ v0_ : Value, e = .returned (.tuple #[v0_, .int .i64 r2]) ∧ Kd.R k59 59 w' w.heap.size (fun _ => True) v0_ r1 ∧ Below w.heap.size w w' := by
  unfold skiffref1_Words.f at h
  cases hb : wordsMayB a0 a1
  · rw [hb, if_neg (by decide)] at h
    simp only [Option.some.injEq, Prod.mk.injEq] at h
    obtain ⟨rfl, rfl⟩ := h
    exact (refWords_no _ _ _ hb).mono fun e w' ⟨he, hb⟩ => ⟨_, he, Kd.R_nil _ _ _ _ _, hb⟩
  · rw [hb, if_pos rfl] at h
    simp only [Option.some.injEq, Prod.mk.injEq] at h
    obtain ⟨rfl, rfl⟩ := h
    exact refWords_yes _ _ _ hb
def wornMayB (f : ByteArray) (x m : Int) : Bool := decide ((f.size : Int) = 768) && (decide (0 ≤ x) && decide (x ≤ 7)) && (decide (0 ≤ m) && decide (m ≤ 96))
def wornB (f : ByteArray) (x m : Nat) : ByteArray := f.extract 0 (x * 96) ++ ffB m ++ f.extract (x * 96 + m) f.size
def skiffref1_Worn.f (a0 : ByteArray) (a1 a2 : Int) : Option (ByteArray × Int) := if wornMayB a0 a1 a2 = true then some (wornB a0 a1.toNat a2.toNat, 0) else some (⟨#[]⟩, 200)
set_option maxHeartbeats 800000 in
set_option maxRecDepth 100000 in
theorem refWorn_no (f : ByteArray) (a m : Int) (w : World) (h : wornMayB f a m = false) :
    Calls Try.prog 95 #[.string f, .int .i64 a, .int .i64 m] w fun e w' => e = .returned (.tuple #[.string ⟨#[]⟩, .int .i64 200]) ∧ Below w.heap.size w w' := by
  have H := Lib.hid h
  clear h
  go_enter Try.func95, Try.ntmps95
  go_wp2_with (first | (go_at_call 36; refine (flashMay1_calls _ _).mono ?_; rintro e w' ⟨rfl, rfl⟩) | (go_at_call 55; refine (upTo1_calls _ _ _ _).mono ?_; rintro e w' ⟨rfl, rfl⟩))
  all_goals first | (go_ret2; exact ⟨rfl, Below.refl _ _⟩) | (exfalso; have := H.out; simp [wornMayB, *] at this; done) | (exfalso; have := H.out; simp [wornMayB] at this; simp_all; omega)
set_option maxHeartbeats 800000 in
set_option maxRecDepth 100000 in
theorem refWorn_yes (f : ByteArray) (a m : Int) (w : World) (h : wornMayB f a m = true) :
    Calls Try.prog 95 #[.string f, .int .i64 a, .int .i64 m] w fun e w' => e = .returned (.tuple #[.string (wornB f a.toNat m.toNat), .int .i64 0]) ∧ Below w.heap.size w w' := by
  simp only [wornMayB, Bool.and_eq_true, decide_eq_true_eq] at h
  obtain ⟨⟨h1, h2, h3⟩, h4, h5⟩ := h
  obtain ⟨x, rfl⟩ := Int.eq_ofNat_of_zero_le h2
  obtain ⟨mm, rfl⟩ := Int.eq_ofNat_of_zero_le h4
  have hn : x * 96 + mm ≤ f.size := by omega
  simp only [Int.toNat_natCast]
  have e1 : (x : Int) * 96 = ((x * 96 : Nat) : Int) := by omega
  have hff := ffB_size mm
  have HW := Lib.hid (show wornB f x mm = f.extract 0 (x * 96) ++ ffB mm ++ f.extract (x * 96 + mm) f.size from rfl)
  generalize wornB f x mm = R at *
  obtain ⟨b, hb⟩ : ∃ b, x * 96 = b := ⟨_, rfl⟩
  rw [hb] at hn e1 HW
  clear hb
  have hb7 : b ≤ 768 := by omega
  have s1 : (f.extract 0 b).size = b := by rw [ByteArray.size_extract]; omega
  have s2 : (f.extract (b + mm) f.size).size = f.size - (b + mm) := by rw [ByteArray.size_extract]; omega
  go_enter Try.func95, Try.ntmps95
  go_wp2_with (first | (go_at_call 36; refine (flashMay1_calls _ _).mono ?_; rintro e w' ⟨rfl, rfl⟩) | (go_at_call 55; refine (upTo1_calls _ _ _ _).mono ?_; rintro e w' ⟨rfl, rfl⟩))
  have q1 : (0 : Int) ≤ (b : Int) := by omega
  have q2 : (b : Int) ≤ (f.size : Int) := by omega
  have q3 : (0 : Int) ≤ ((b + mm : Nat) : Int) := by omega
  have q4 : ((b + mm : Nat) : Int) ≤ (f.size : Int) := by omega
  have q5 : (b : Int) ≤ 768 := by omega
  have q6 : ((b + mm : Nat) : Int) ≤ 768 := by omega
  have q7 : (b : Int) + mm ≤ 768 := by omega
  have q8 : (0 : Int) ≤ (b : Int) + mm := by omega
  have q9 : b ≤ f.size := by omega
  have c1 : ¬ 9223372036854775807 < b + mm := by omega
  have c2 : ¬ 9223372036854775807 < f.size := by omega
  have c5 : ¬ 9223372036854775807 < b + mm + (f.size - (b + mm)) := by omega
  have hmn : min b f.size = b := by omega
  have htn : ((b : Int) + mm).toNat = b + mm := by omega
  have c3 : b + mm ≤ 9223372036854775807 := by omega
  have c4 : f.size ≤ 9223372036854775807 := by omega
  have hwr : IntKind.i64.wrap ((b : Int) + mm) = ((b + mm : Nat) : Int) := (i64_w _).trans (by unfold wrap64; omega)
  go_region_held3 (fun w' => Below w.heap.size w w') (first | exact Below.refl _ _ | exact below_drew1 (Below.refl _ _) | exact below_step (below_drew1 (Below.refl _ _)) hb1) ((go_at_call 65; refine (full_calls mm (by omega) _).mono ?_; rintro e w1 ⟨rfl, hb1⟩))
  all_goals
    go_wp2
    go_ret2
    exact ⟨by rw [HW.out]; rfl, by assumption⟩
theorem skiffref1_Worn.calls (a0 : ByteArray) (a1 a2 : Int) (r1 : ByteArray) (r2 : Int) (w : World) (h : skiffref1_Worn.f a0 a1 a2 = some (r1, r2)) :
    Calls Try.prog 95 #[.string a0, .int .i64 a1, .int .i64 a2] w fun e w' => e = .returned (.tuple #[.string r1, .int .i64 r2]) ∧ Below w.heap.size w w' := by
  unfold skiffref1_Worn.f at h
  cases hb : wornMayB a0 a1 a2
  · rw [hb, if_neg (by decide)] at h
    simp only [Option.some.injEq, Prod.mk.injEq] at h
    obtain ⟨rfl, rfl⟩ := h
    exact refWorn_no _ _ _ _ hb
  · rw [hb, if_pos rfl] at h
    simp only [Option.some.injEq, Prod.mk.injEq] at h
    obtain ⟨rfl, rfl⟩ := h
    exact refWorn_yes _ _ _ _ hb
end Go.Proofs.Ytaibkfgpdgabaaa.P
end

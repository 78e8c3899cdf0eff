/- A part of the proof of T: what its last text uses; conditions: see there. -/
import Derived.Test.YtaibkfgpdgabaaaTHBase
section
namespace Go.Proofs.Ytaibkfgpdgabaaa.P
open Go.RowKit Go.Proofs.YtaibkfgpdgabaaaW.PrintWords Go.Proofs.YtaibkfgpdgabaaaW.PrintLast Go.Proofs.YtaibkfgpdgabaaaW.PrintMore
set_option linter.unusedVariables false
set_option linter.unusedSimpArgs false
def opMayB (e : Bool) (a : Int) (t : ByteArray) : Bool :=
  if e = true then decide (0 ≤ a) && decide (a % 96 = 0) && decide (0 ≤ wrap64 (a.tdiv 96)) && decide (wrap64 (a.tdiv 96) < 8) && t.toList.isEmpty else decide (0 ≤ a) && decide (a < 768) && decide (a % 4 = 0) && ((t.size : Int) == 4)
def ops_May.f (a0_0 : Bool) (a0_1 : Int) (a0_2 : ByteArray) : Option Bool := some (opMayB a0_0 a0_1 a0_2)
set_option maxHeartbeats 800000 in
theorem opMay_calls (e : Bool) (a : Int) (t : ByteArray) (w : World) :
    Calls Try.prog 78 #[.agg #[.bool e, .int .i64 a, .string t]] w fun r w' => r = .returned (.bool (opMayB e a t)) ∧ Below w.heap.size w w' := by
  cases e
  all_goals
    go_enter Try.func78, Try.ntmps78
    go_wp2
    all_goals
      go_ret
      refine ⟨ret_b ?_, (Below.refl _ _).alloc (Nat.le_refl _) _⟩
      first | (simp [opMayB, *]; done) | (simp [opMayB, *]; omega)
theorem ops_May.calls (a0_0 : Bool) (a0_1 : Int) (a0_2 : ByteArray) (r : Bool) (w : World) (h : ops_May.f a0_0 a0_1 a0_2 = some r) :
    Calls Try.prog 78 #[.agg #[.bool a0_0, .int .i64 a0_1, .string a0_2]] w fun e w' => e = .returned (.bool r) ∧ Below w.heap.size w w' := by
  simp only [ops_May.f, Option.some.injEq] at h
  subst h
  exact opMay_calls _ _ _ _
theorem odd_calls (e : Bool) (a : Int) (t : ByteArray) (w : World) :
    Calls Try.prog 77 #[.agg #[.bool e, .int .i64 a, .string t]] w fun r w' => r = .returned (.bool (!opMayB e a t)) ∧ Below w.heap.size w w' := by
  go_enter Try.func77, Try.ntmps77
  go_wp2_with (go_at_call 78; refine (opMay_calls e a t _).mono ?_; rintro e w1 ⟨rfl, hb⟩)
  go_ret
  refine ⟨rfl, ?_⟩
  repeat (first | (with_reducible exact Below.refl _ _) | (with_reducible apply below_alloc) | (with_reducible refine below_step ?_ hb))
def opsMayB (l : List S59) : Bool := l.all fun o => opMayB o.f0 o.f1 o.f2
theorem opsMay_snoc (l : List S59) (k : Nat) (h : k < l.length) : opsMayB (l.take (k + 1)) = (opsMayB (l.take k) && opMayB (rd_T59 l k).f0 (rd_T59 l k).f1 (rd_T59 l k).f2) := by
  have e : rd_T59 l k = l[k] := by simp [rd_T59, List.getD_eq_getElem?_getD, h]
  rw [e, List.take_succ_eq_append_getElem h, opsMayB, List.all_append]
  simp [opsMayB]
theorem opsMay_odd (l : List S59) (k : Nat) (h : k < l.length) (hb : opMayB (rd_T59 l k).f0 (rd_T59 l k).f1 (rd_T59 l k).f2 = false) : opsMayB l = false := by
  have e : rd_T59 l k = l[k] := by simp [rd_T59, List.getD_eq_getElem?_getD, h]
  rw [e] at hb
  rw [opsMayB, List.all_eq_false]
  exact ⟨l[k], List.getElem_mem h, by simp [hb]⟩
def Found (l : List S59) (w : World) (e : Ending) (w' : World) : Prop := ∃ r : Int, e = .returned (.int .i64 r) ∧ (decide (0 ≤ r)) = !opsMayB l ∧ Below w.heap.size w w'
set_option maxHeartbeats 800000 in
theorem index_calls (A0 : Option Addr) (c0 : Nat) (l0 : List S59) (w : World) (hr0 : Kd.C k59 w A0 l0.length l0) :
    Calls Try.prog 107 #[.slice A0 l0.length c0, .func (.func 77) #[] #[]] w (Found l0 w) := by
  go_enter Try.func107, Try.ntmps107
  go_wp2
  have HR := Aside0.mk hr0
  clear hr0
  have HL : l0.length ≤ 9223372036854775807 := HR.out.2.1
  go_loopw [8] (fun i wr => ∃ k : Nat, k ≤ l0.length ∧ i = .int .i64 k ∧ Hid (opsMayB (l0.take k) = true) ∧ Aside0 (Below w.heap.size w wr)) (fun i _ => l0.length - (intOf i).toNat)
  case atStart => exact ⟨0, Nat.zero_le _, rfl, Lib.hid rfl, ⟨Below.refl _ _⟩⟩
  case round =>
    obtain ⟨k, hk, rfl, HM, HB⟩ := hrel
    by_cases hlt : k < l0.length
    · obtain ⟨ad, rfl, h0, h1, h2⟩ := at_T59 (Kd.C_below HR.out HB.out) k (by omega) (by omega)
      simp only [Int.toNat_natCast] at h0 h1 h2
      obtain ⟨o, ho⟩ : ∃ o, o = rd_T59 l0 k := ⟨_, rfl⟩
      rw [← ho] at h0 h1 h2
      have HO := Lib.hid ho
      clear ho
      have HT := Lib.hid (opsMay_snoc l0 k hlt)
      have HG := Lib.hid (opsMay_odd l0 k hlt)
      cases hb : opMayB o.f0 o.f1 o.f2
      · go_wp2_with (go_at_call 77; refine (odd_calls o.f0 o.f1 o.f2 _).mono ?_; rintro e w1 ⟨rfl, hb1⟩; rw [hb])
        go_ret
        refine ⟨_, rfl, ?_, below_step HB.out hb1⟩
        rw [HG.out (by rw [← HO.out]; exact hb)]
        simp
      · go_wp2_with (go_at_call 77; refine (odd_calls o.f0 o.f1 o.f2 _).mono ?_; rintro e w1 ⟨rfl, hb1⟩; rw [hb])
        go_roundw
        case rel => exact ⟨k + 1, by omega, by go_num, Lib.hid (by rw [HT.out, HM.out, ← HO.out, hb]; rfl), ⟨below_step HB.out hb1⟩⟩
        case measure => simp [intOf]; omega
    · obtain rfl : k = l0.length := by omega
      go_wp2
      go_ret
      exact ⟨_, rfl, by have := HM.out; rw [List.take_of_length_le (Nat.le_refl _)] at this; rw [this]; rfl, HB.out⟩
theorem contains_calls (A0 : Option Addr) (c0 : Nat) (l0 : List S59) (w : World) (hr0 : Kd.C k59 w A0 l0.length l0) :
    Calls Try.prog 83 #[.slice A0 l0.length c0, .func (.func 77) #[] #[]] w fun e w' => e = .returned (.bool (!opsMayB l0)) ∧ Below w.heap.size w w' := by
  have HR := Aside0.mk hr0
  clear hr0
  go_enter Try.func83, Try.ntmps83
  go_wp2_with (go_at_call 107; refine (index_calls A0 c0 l0 _ HR.out).mono ?_; rintro e w1 ⟨r, rfl, hd, hb⟩; have HD := Lib.hid hd; clear hd)
  go_ret
  exact ⟨ret_b HD.out, hb⟩
def devMayB (a0 a1 a2 a3 a4 : Int) (l : List S59) : Bool :=
  decide (0 ≤ a0) && decide (a0 ≤ 7) && decide (0 ≤ a1) && decide (a1 ≤ 6) && decide (0 ≤ a2) && decide (a2 ≤ 16) && (decide (a3 = 0) || (decide (1 ≤ a3) && decide (a3 ≤ 288))) && decide (0 ≤ a4) && decide (a4 ≤ 1) && decide ((l.length : Int) ≤ 768) && opsMayB l
def device_May.f (a0_0 a0_1 a0_2 a0_3 a0_4 : Int) (l0_5 : List S59) : Option Bool := some (devMayB a0_0 a0_1 a0_2 a0_3 a0_4 l0_5)
set_option maxHeartbeats 4000000 in
theorem device_may (a0 a1 a2 a3 a4 : Int) (A0 : Option Addr) (c0 : Nat) (l0 : List S59) (w : World) (hr0 : Kd.C k59 w A0 l0.length l0) :
    Calls Try.prog 43 #[.agg #[.int .i64 a0, .int .i64 a1, .int .i64 a2, .int .i64 a3, .int .i64 a4, .slice A0 l0.length c0]] w (fun e w' => e = .returned (.bool (devMayB a0 a1 a2 a3 a4 l0)) ∧ Below w.heap.size w w') := by
  have HR := Aside0.mk hr0
  clear hr0
  go_enter Try.func43, Try.ntmps43
  go_wp2_with (first | (go_at_call 83; refine (contains_calls A0 c0 l0 _ (Kd.C_alloc HR.out _)).mono ?_; rintro e w1 ⟨rfl, hb⟩) | go_in)
  all_goals
    go_ret
    refine ⟨ret_b ?_, ?_⟩
    · first | (simp [devMayB, *]; done) | (simp [devMayB, *]; omega)
    · repeat (first | (with_reducible exact Below.refl _ _) | (with_reducible apply below_alloc) | (with_reducible refine below_step ?_ hb))
theorem device_May.calls (a0_0 : Int) (a0_1 : Int) (a0_2 : Int) (a0_3 : Int) (a0_4 : Int) (A0_5 : Option Addr) (c0_5 : Nat) (l0_5 : List (S59)) (r : Bool) (w : World) (hr0_5 : Kd.C k59 w A0_5 l0_5.length l0_5) (hc0_5 : l0_5.length ≤ c0_5) (h : device_May.f a0_0 a0_1 a0_2 a0_3 a0_4 l0_5 = some r) :
    Calls Try.prog 43 #[.agg #[.int .i64 a0_0, .int .i64 a0_1, .int .i64 a0_2, .int .i64 a0_3, .int .i64 a0_4, .slice A0_5 l0_5.length c0_5]] w fun e w' => e = .returned (.bool r) ∧ Below w.heap.size w w' := by
  simp only [device_May.f, Option.some.injEq] at h
  subst h
  exact device_may _ _ _ _ _ _ _ _ _ hr0_5
end Go.Proofs.Ytaibkfgpdgabaaa.P
end

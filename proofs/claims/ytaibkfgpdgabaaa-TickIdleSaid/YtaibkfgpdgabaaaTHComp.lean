/- A part of the proof of T: what its last text uses; conditions: see there. -/
import Derived.Test.YtaibkfgpdgabaaaTHBase
section
namespace Go.Proofs.Ytaibkfgpdgabaaa.P
open Go.RowKit Go.Proofs.YtaibkfgpdgabaaaW.PrintWords Go.Proofs.YtaibkfgpdgabaaaW.PrintLast Go.Proofs.YtaibkfgpdgabaaaW.PrintMore
set_option linter.unusedVariables false
set_option linter.unusedSimpArgs false
structure BRow (w : World) (g : Nat) (xs : List Int) : Prop where
  cell : ∀ j, j < xs.length → w.cell? ⟨g, j, none⟩ = some (.int .u8 (xs.getD j 0))
  free : ∀ j, j < xs.length → w.frozen? ⟨g, j, none⟩ = false
theorem BRow.set {w : World} {g : Nat} {xs : List Int} (h : BRow w g xs) (j : Nat) (v : Int) (hj : j < xs.length) : BRow (w.setCell ⟨g, j, none⟩ (.int .u8 v)) g (xs.set j v) := by
  constructor
  · intro i hi
    rw [List.length_set] at hi
    by_cases e : j = i
    · subst e
      rw [World.cell?_setCell_same _ _ _ (h.cell j hj)]
      simp [List.getD_eq_getElem?_getD, hj]
    · rw [World.cell?_setCell_other _ _ _ _ (by intro he; injection he with _ h2 _; exact e h2), h.cell i hi]
      simp [List.getD_eq_getElem?_getD, List.getElem?_set, e]
  · intro i hi
    rw [List.length_set] at hi
    rw [World.frozen?_setCell]
    exact h.free i hi
theorem BRow.below {w w1 : World} {g : Nat} {xs : List Int} (h : BRow w g xs) (hb : Below w.heap.size w w1) (hg : g < w.heap.size) : BRow w1 g xs :=
  ⟨fun j hj => (hb.cell (p := ⟨g, j, none⟩) hg).trans (h.cell j hj), fun j hj => (hb.frozen (p := ⟨g, j, none⟩) hg).trans (h.free j hj)⟩
theorem BRow.drew {w : World} {g : Nat} {xs : List Int} (h : BRow w g xs) : BRow w.drew g xs := ⟨fun j hj => h.cell j hj, fun j hj => h.free j hj⟩
theorem BRow.drewN {w : World} {g : Nat} {xs : List Int} (h : BRow w g xs) (n : Nat) : BRow (w.drewN n) g xs := ⟨fun j hj => h.cell j hj, fun j hj => h.free j hj⟩
theorem brow_of_bytes (w : World) (e : TypeId) (s : ByteArray) : BRow (Lib.bytesWorld w e s) w.heap.size (bytesOf s) := by
  constructor
  · intro j hj
    rw [bytesOf_length] at hj
    rw [Lib.bytesWorld_cell w e s j hj]
    have hl : j < s.data.toList.length := by rw [data_length]; exact hj
    simp [bytesOf, List.getD_eq_getElem?_getD, List.getElem?_eq_getElem hl]
  · intro j hj
    rw [bytesOf_length] at hj
    have hc : s.size ≤ (Lib.bytesCells w e s).size := by
      simp [Lib.bytesCells]
    simp only [World.frozen?, Lib.bytesWorld_at_new]
    simp
    omega
theorem BRow.string {P : Program} {w : World} {src dst e : TypeId} {g c : Nat} {xs : List Int} (hs : P.underlying src = some (.slice e)) (he : P.underlying e = some (.int .u8)) (hd : P.underlying dst = some .string)
    (h : BRow w g xs) (hm : xs.length ≤ 9223372036854775807) : (convert src dst (.slice (some ⟨g, 0, none⟩) xs.length c)).run P w = .ok (.string (strOfNums xs)) w :=
  string_of_reads hs he hd ⟨rfl, hm, fun _ => ⟨_, rfl, fun j hj => by rw [add_plain]; exact h.cell j hj⟩⟩
theorem bytesOf_range (s : ByteArray) (j : Nat) : 0 ≤ (bytesOf s).getD j 0 ∧ (bytesOf s).getD j 0 ≤ 255 := by
  have := bt_range s j
  have e := rd_bytesOf s j
  rw [rd, Int.toNat_natCast] at e
  rw [e]
  exact this
theorem xor255 (x : Int) (h0 : 0 ≤ x) (h1 : x ≤ 255) : Go.bits .xor .u8 IntKind.u8.max x = 255 - x := by
  have h : ∀ n : Fin 256, Go.bits .xor .u8 IntKind.u8.max (n.val : Int) = 255 - (n.val : Int) := by decide +kernel
  have := h ⟨x.toNat, by omega⟩
  rw [show ((⟨x.toNat, by omega⟩ : Fin 256).val : Int) = x from by simp; omega] at this
  exact this
def compTo (k : Nat) (xs : List Int) : List Int := (xs.take k).map (255 - ·) ++ xs.drop k
theorem compTo_length (k : Nat) (xs : List Int) : (compTo k xs).length = xs.length := by
  simp [compTo]; omega
theorem compTo_at (k : Nat) (xs : List Int) (h : k < xs.length) : (compTo k xs).getD k 0 = xs.getD k 0 := by
  have hl : ((xs.take k).map (255 - ·)).length = k := by simp; omega
  rw [compTo, List.getD_eq_getElem?_getD, List.getElem?_append_right (by omega), hl, Nat.sub_self, List.getElem?_drop, List.getD_eq_getElem?_getD]
  rfl
theorem compTo_succ (k : Nat) (xs : List Int) (h : k < xs.length) : (compTo k xs).set k (255 - xs.getD k 0) = compTo (k + 1) xs := by
  have hl : ((xs.take k).map (255 - ·)).length = k := by simp; omega
  rw [compTo, List.set_append_right _ _ (by omega), hl, Nat.sub_self, List.drop_eq_getElem_cons h, List.set_cons_zero, compTo, List.take_succ_eq_append_getElem h, List.map_append]
  simp [List.getD_eq_getElem?_getD, List.getElem?_eq_getElem h]
def compB (s : ByteArray) : ByteArray := strOfNums ((bytesOf s).map (255 - ·))
def entry_complement.f (a0 : ByteArray) : Option ByteArray := if a0.size ≤ 9223372036854775807 then some (compB a0) else none
set_option maxHeartbeats 800000 in
theorem entry_complement.calls (a0 : ByteArray) (r : ByteArray) (w : World) (h : entry_complement.f a0 = some r) :
    Calls Try.prog 119 #[.string a0] w fun e w' => e = .returned (.string r) ∧ Below w.heap.size w w' := by
  have hs : a0.size ≤ 9223372036854775807 := by
    unfold entry_complement.f at h
    split at h
    · assumption
    · cases h
  have hr : r = compB a0 := by
    unfold entry_complement.f at h
    rw [if_pos hs] at h
    injection h with h
    exact h.symm
  have HR := Lib.hid hr
  clear hr h
  have hcv := Lib.run_convert_string_bytes (P := Try.prog) w 9 67 5 a0 (u := .string) Try.underlying9 Try.underlying67 Try.underlying5
  have HB := Aside0.mk (bytes_below (Below.refl w.heap.size w) (Nat.le_refl _) 5 a0)
  have HC := Aside0.mk (brow_of_bytes w 5 a0)
  go_enter Try.func119, Try.ntmps119
  go_wp2
  generalize Lib.bytesWorld w 5 a0 = W at *
  generalize grownCap w a0.size 0 5 = C
  clear hcv
  have hl := Lib.hid (bytesOf_length a0)
  go_loopw [9] (fun i wr => ∃ k : Nat, k ≤ a0.size ∧ i = .int .i64 k ∧ Aside0 (BRow wr w.heap.size (compTo k (bytesOf a0))) ∧ Aside0 (Below w.heap.size w wr)) (fun i _ => a0.size - (intOf i).toNat)
  case atStart => exact ⟨0, by omega, rfl, ⟨by rw [compTo]; exact HC.out⟩, HB⟩
  case round =>
    obtain ⟨k, hk, rfl, HR1, HB1⟩ := hrel
    have HL1 := Lib.hid ((compTo_length k (bytesOf a0)).trans hl.out)
    by_cases hlt : k < a0.size
    · have hc := HR1.out.cell k (by rw [HL1.out]; exact hlt)
      have hf := HR1.out.free k (by rw [HL1.out]; exact hlt)
      rw [compTo_at k _ (by rw [hl.out]; exact hlt)] at hc
      have hx := bytesOf_range a0 k
      have hx5 := xor255 _ hx.1 hx.2
      have HS := Lib.hid (compTo_succ k (bytesOf a0) (by rw [hl.out]; exact hlt))
      go_wp2
      go_roundw
      case rel =>
        refine ⟨k + 1, by omega, by go_num, ⟨?_⟩, ⟨below_set HB1.out (Nat.le_refl _)⟩⟩
        have e5 : Go.bits .xor .u8 (if IntKind.u8.signed = true then -1 else IntKind.u8.max) ((bytesOf a0)[k]?.getD 0) = 255 - (bytesOf a0).getD k 0 := hx5
        rw [← HS.out, e5]
        exact HR1.out.set k _ (by rw [HL1.out]; exact hlt)
      case measure => simp [intOf]; omega
    · obtain rfl : k = a0.size := by omega
      have hcs := fun C => BRow.string (P := Try.prog) (c := C) Try.underlying67 Try.underlying5 Try.underlying9 HR1.out (by rw [HL1.out]; exact hs)
      rw [HL1.out] at hcs
      go_wp2
      go_ret
      refine ⟨?_, HB1.out⟩
      rw [HR.out, compB]
      have e : compTo a0.size (bytesOf a0) = (bytesOf a0).map (255 - ·) := by
        rw [compTo, ← hl.out]; simp
      rw [← e]
      rfl
end Go.Proofs.Ytaibkfgpdgabaaa.P
end

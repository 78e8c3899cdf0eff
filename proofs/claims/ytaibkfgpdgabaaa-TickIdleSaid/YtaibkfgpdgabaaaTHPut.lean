/- A part of the proof of T: what its last text uses; conditions: see there. -/
import Derived.ArgAppend
import Derived.Test.YtaibkfgpdgabaaaTHComp
import Derived.Test.YtaibkfgpdgabaaaTHRec
section
namespace Go.Proofs.Ytaibkfgpdgabaaa.P
open Go.RowKit Go.Proofs.YtaibkfgpdgabaaaW.PrintWords Go.Proofs.YtaibkfgpdgabaaaW.PrintLast Go.Proofs.YtaibkfgpdgabaaaW.PrintMore
set_option linter.unusedVariables false
set_option linter.unusedSimpArgs false
def lowL (x : Int) (k : Nat) : List Int := (List.range k).map fun i => (x / 2 ^ (8 * i)) % 256
def lowB (x : Int) (k : Nat) : ByteArray := strOfNums (lowL x k)
theorem lowB_size (x : Int) (k : Nat) : (lowB x k).size = k := by rw [lowB, strOfNums_size, lowL, List.length_map, List.length_range]
structure CRow (w : World) (g cap : Nat) (xs : List Int) : Prop where
  le : xs.length ≤ cap
  cell : ∀ j, j < xs.length → w.cell? ⟨g, j, none⟩ = some (.int .u8 (xs.getD j 0))
  room : ∀ j, j < cap → (w.cell? ⟨g, j, none⟩).isSome = true ∧ w.frozen? ⟨g, j, none⟩ = false
theorem CRow.lt {w : World} {g cap : Nat} {xs : List Int} (h : CRow w g cap xs) (h0 : 0 < xs.length) : g < w.heap.size := World.block_lt_of_cell? w _ (h.cell 0 h0)
theorem CRow.below {w w1 : World} {g cap : Nat} {xs : List Int} (h : CRow w g cap xs) (hb : Below w.heap.size w w1) (hg : g < w.heap.size) : CRow w1 g cap xs :=
  ⟨h.le, fun j hj => (hb.cell (p := ⟨g, j, none⟩) hg).trans (h.cell j hj), fun j hj => ⟨by rw [hb.cell (p := ⟨g, j, none⟩) hg]; exact (h.room j hj).1, (hb.frozen (p := ⟨g, j, none⟩) hg).trans (h.room j hj).2⟩⟩
theorem crow_of_bytes (w : World) (e : TypeId) (s : ByteArray) (hs : s.size ≤ maxLen) : CRow (Lib.bytesWorld w e s) w.heap.size (grownCap w s.size 0 e) (bytesOf s) := by
  have hb := brow_of_bytes w e s
  have hge := grownCap_ge w s.size 0 e
  have hc : (Lib.bytesCells w e s).size = grownCap w s.size 0 e := by
    have e1 : s.data.size = s.size := rfl
    simp only [Lib.bytesCells, Array.size_append, Array.size_map, Array.size_replicate, e1]
    omega
  refine ⟨by rw [bytesOf_length]; exact hge, hb.cell, fun j hj => ⟨?_, ?_⟩⟩
  · simp only [World.cell?, Lib.bytesWorld_at_new]
    simp [hc, hj]
  · simp only [World.frozen?, Lib.bytesWorld_at_new]
    simp
    omega
theorem crow_of_own {w : World} {base n : Nat} {e : TypeId} {v : Value} {xs : List Int} (h : w.ownsRow base e 1 v n (nums .u8 xs)) (h0 : 0 < n) : ∃ g cap, v = .slice (some ⟨g, 0, none⟩) n cap ∧ base ≤ g ∧ CRow w g cap xs := by
  have hl : xs.length = n := by have := h.1; simp [nums] at this; exact this
  rcases h.2 with ⟨_, h2⟩ | ⟨g, cap, cur, rfl, hb, hh, hn, hm, hs, ht⟩
  · omega
  · refine ⟨g, cap, rfl, hb, by omega, fun j hj => ?_, fun j hj => ⟨?_, ?_⟩⟩
    · have hj2 := h.cells (g := g) rfl j (.int .u8 (xs.getD j 0)) (by simp [nums, List.getElem?_eq_getElem hj, List.getD_eq_getElem?_getD])
      rwa [add_plain] at hj2
    · simp only [World.cell?, hh]
      simp [show j < cur.size by omega]
    · simp only [World.frozen?, hh]
      simp
theorem CRow.set {w : World} {g cap : Nat} {xs : List Int} (h : CRow w g cap xs) (j : Nat) (v : Int) (hj : j < xs.length) : CRow (w.setCell ⟨g, j, none⟩ (.int .u8 v)) g cap (xs.set j v) := by
  refine ⟨by rw [List.length_set]; exact h.le, fun i hi => ?_, fun i hi => ⟨?_, ?_⟩⟩
  · rw [List.length_set] at hi
    by_cases e : j = i
    · subst e
      rw [World.cell?_setCell_same _ _ _ (h.cell j hj)]
      simp [List.getD_eq_getElem?_getD, hj]
    · rw [World.cell?_setCell_other _ _ _ _ (by intro he; injection he with _ h2 _; exact e h2), h.cell i hi]
      simp [List.getD_eq_getElem?_getD, List.getElem?_set, e]
  · by_cases e : j = i
    · subst e
      rw [World.cell?_setCell_same _ _ _ (h.cell j hj)]
      rfl
    · rw [World.cell?_setCell_other _ _ _ _ (by intro he; injection he with _ h2 _; exact e h2)]
      exact (h.room i hi).1
  · rw [World.frozen?_setCell]
    exact (h.room i hi).2
theorem CRow.push {w : World} {g cap : Nat} {xs : List Int} (h : CRow w g cap xs) (v : Int) (hroom : xs.length + 1 ≤ cap) : CRow (w.setCells g xs.length [.int .u8 v]) g cap (xs ++ [v]) := by
  have e : w.setCells g xs.length [.int .u8 v] = w.setCell ⟨g, xs.length, none⟩ (.int .u8 v) := by simp [World.setCells]
  obtain ⟨u, hu⟩ := Option.isSome_iff_exists.1 (h.room xs.length (by omega)).1
  rw [e]
  refine ⟨by simp; omega, fun j hj => ?_, fun j hj => ⟨?_, ?_⟩⟩
  · by_cases ej : xs.length = j
    · subst ej
      rw [World.cell?_setCell_same _ _ _ hu]
      simp [List.getD_eq_getElem?_getD]
    · have hj' : j < xs.length := by simp at hj; omega
      rw [World.cell?_setCell_other _ _ _ _ (by intro he; injection he with _ h2 _; exact ej h2), h.cell j hj']
      simp [List.getD_eq_getElem?_getD, List.getElem?_append_left hj']
  · by_cases ej : xs.length = j
    · subst ej
      rw [World.cell?_setCell_same _ _ _ hu]
      rfl
    · rw [World.cell?_setCell_other _ _ _ _ (by intro he; injection he with _ h2 _; exact ej h2)]
      exact (h.room j hj).1
  · rw [World.frozen?_setCell]
    exact (h.room j hj).2
theorem CRow.olds {w : World} {g cap : Nat} {xs : List Int} (h : CRow w g cap xs) : ∀ j u, (nums .u8 xs)[j]? = some u → w.cell? ⟨g, 0 + j, none⟩ = some u := by
  intro j u hj
  have hl : j < xs.length := by
    rcases Nat.lt_or_ge j xs.length with h' | h'
    · exact h'
    · rw [List.getElem?_eq_none (by rw [nums_length]; exact h')] at hj
      cases hj
  rw [Nat.zero_add, h.cell j hl]
  simp [nums, List.getElem?_eq_getElem hl] at hj
  simp [List.getD_eq_getElem?_getD, List.getElem?_eq_getElem hl, hj]
theorem lowL_length (x : Int) (k : Nat) : (lowL x k).length = k := by rw [lowL, List.length_map, List.length_range]
def lowTo (x : Int) (m k : Nat) : List Int := lowL x k ++ List.replicate (m - k) 0
theorem lowTo_length (x : Int) (m k : Nat) (h : k ≤ m) : (lowTo x m k).length = m := by
  rw [lowTo, List.length_append, lowL_length, List.length_replicate]; omega
theorem lowTo_succ (x : Int) (m k : Nat) (h : k < m) : (lowTo x m k).set k ((x / 2 ^ (8 * k)) % 256) = lowTo x m (k + 1) := by
  rw [lowTo, List.set_append_right _ _ (by rw [lowL_length]; omega), lowL_length, Nat.sub_self, show m - k = (m - (k + 1)) + 1 by omega, List.replicate_succ, List.set_cons_zero, lowTo, lowL, lowL, List.range_succ, List.map_append, List.append_assoc]
  rfl
set_option maxHeartbeats 800000 in
set_option maxRecDepth 100000 in
theorem refLow_calls (x : Int) (m : Nat) (hm : 1 ≤ m ∧ m ≤ 4) (w : World) :
    Calls Try.prog 103 #[.int .i64 x, .int .i64 (m : Int)] w fun e w' => e = .returned (.string (lowB x m)) ∧ Below w.heap.size w w' := by
  have hmk := print_make (P := Try.prog) 67 5 .u8 1 Try.underlying67 info5 (by omega) m (by omega)
  have hown := own_made w w.heap.size 5 .u8 m (Nat.le_refl _) (by omega)
  obtain ⟨g, cap, hv, hg, hcr⟩ := crow_of_own hown (by omega)
  injection hv with hv1 hv2 hv3
  injection hv1 with hv1
  injection hv1 with hv1
  subst hv1
  subst hv3
  have HC := Aside0.mk hcr
  have HB := Aside0.mk ((Below.refl w.heap.size w).alloc (Nat.le_refl _) (.cells (madeCells #[.int .u8 0] m) 5))
  clear hcr hown hg hv2
  go_enter Try.func103, Try.ntmps103
  go_wp2
  generalize (w.alloc (.cells (madeCells #[.int .u8 0] m) 5)) = W at *
  clear hmk
  go_loopw [6] (fun i wr => ∃ k : Nat, k ≤ m ∧ i = .int .i64 k ∧ Aside0 (CRow wr w.heap.size m (lowTo x m k)) ∧ Aside0 (Below w.heap.size w wr)) (fun i _ => m - (intOf i).toNat)
  case atStart => exact ⟨0, by omega, rfl, ⟨by simpa [lowTo, lowL] using HC.out⟩, HB⟩
  case round =>
    obtain ⟨k, hk, rfl, HR1, HB1⟩ := hrel
    have HL1 := Lib.hid (lowTo_length x m k hk)
    by_cases hlt : k < m
    · have hc := HR1.out.cell k (by rw [HL1.out]; exact hlt)
      have hf := (HR1.out.room k hlt).2
      have HS := Lib.hid (lowTo_succ x m k hlt)
      go_wp2
      go_roundw
      case rel => exact ⟨k + 1, by omega, by go_num, ⟨by rw [← HS.out]; exact HR1.out.set k _ (by rw [HL1.out]; exact hlt)⟩, ⟨below_set HB1.out (Nat.le_refl _)⟩⟩
      case measure => simp [intOf]; omega
    · obtain rfl : k = m := by omega
      have hcs := fun C => string_of_reads (P := Try.prog) (c := C) (A := some ⟨w.heap.size, 0, none⟩) (n := k) Try.underlying67 Try.underlying5 Try.underlying9 ⟨HL1.out, by omega, fun _ => ⟨_, rfl, fun j hj => by rw [add_plain]; exact HR1.out.cell j (by rw [HL1.out]; omega)⟩⟩
      go_wp2
      go_ret
      refine ⟨ret_s ?_, HB1.out⟩
      rw [lowB, lowTo, Nat.sub_self, List.replicate_zero, List.append_nil]
theorem refLow1 (x : Int) (w : World) : Calls Try.prog 103 #[.int .i64 x, .int .i64 1] w fun e w' => e = .returned (.string (lowB x 1)) ∧ Below w.heap.size w w' := refLow_calls x 1 (by omega) w
theorem refLow2 (x : Int) (w : World) : Calls Try.prog 103 #[.int .i64 x, .int .i64 2] w fun e w' => e = .returned (.string (lowB x 2)) ∧ Below w.heap.size w w' := refLow_calls x 2 (by omega) w
theorem refLow4 (x : Int) (w : World) : Calls Try.prog 103 #[.int .i64 x, .int .i64 4] w fun e w' => e = .returned (.string (lowB x 4)) ∧ Below w.heap.size w w' := refLow_calls x 4 (by omega) w
theorem keep4 {W W2 w : World} {g : Nat} {a b c d : Value} (hb : Below W.heap.size W W2) (h0 : W.cell? ⟨g, 0, none⟩ = some a) (h1 : W.cell? ⟨g, 1, none⟩ = some b) (h2 : W.cell? ⟨g, 2, none⟩ = some c) (h3 : W.cell? ⟨g, 3, none⟩ = some d) (hB : Below g w W) :
    W2.cell? ⟨g, 0, none⟩ = some a ∧ W2.cell? ⟨g, 1, none⟩ = some b ∧ W2.cell? ⟨g, 2, none⟩ = some c ∧ W2.cell? ⟨g, 3, none⟩ = some d ∧ Below g w W2 :=
  ⟨pw_cell_below hb h0, pw_cell_below hb h1, pw_cell_below hb h2, pw_cell_below hb h3, below_then hB (Nat.le_of_lt (World.block_lt_of_cell? W _ h0)) hb⟩
def putReg.T : Bool × List (List Nat × List Nat) := (true, [([], []), ([0], [0]), ([1], [1]), ([], []), ([3], [3]), ([4, 2], [4]), ([2, 5], [2, 5]), ([5], []), ([6, 7], [6, 7]), ([], []), ([9], [9]), ([10, 7], [10]), ([8, 11], [8, 11]), ([], []), ([13], [13]), ([14, 11], [14]), ([12, 15], [12, 15]), ([16], [16]), ([17, 15, 0, 1, 2, 3, 4, 5, 6, 7, 8, 9, 10, 11, 12, 13, 14, 15, 16, 17], [17])])
def putReg.B : List Nat := [0, 1, 3, 0, 8, 31, 63, 63, 255, 0, 512, 1727, 4095, 0, 8192, 28351, 65535, 131071, 262143]
theorem putReg.tab : rtab .any (opsOf Try.f75 3) = putReg.T := by kernel_rfl
theorem putReg.bits : waitsOk putReg.T.2 putReg.B = true := by kernel_rfl
theorem strOfNums_append (xs ys : List Int) : strOfNums (xs ++ ys) = strOfNums xs ++ strOfNums ys := by
  refine WideShapes.bytes_inj ?_
  rw [strOfNums_data, ByteArray.toList_data_append, strOfNums_data, strOfNums_data, List.map_append]
theorem strOfNums_bytesOf (s : ByteArray) : strOfNums (bytesOf s) = s := by
  refine WideShapes.bytes_inj ?_
  rw [strOfNums_data, bytesOf, List.map_map]
  conv => rhs; rw [← List.map_id s.data.toList]
  refine List.map_congr_left fun b _ => ?_
  simp
def hdB (a b c d : Int) : ByteArray := lowB a 4 ++ lowB b 1 ++ lowB 0 1 ++ lowB c 2 ++ lowB d 4
def entB (a b c d : Int) : ByteArray := hdB a b c d ++ compB (hdB a b c d)
set_option maxHeartbeats 1600000 in
set_option maxRecDepth 100000 in
theorem put_yes (a b c d : Int) (w : World) (h : recMayB a b c d = true) :
    Calls Try.prog 75 #[.agg #[.int .i64 a, .int .i64 b, .int .i64 c, .int .i64 d]] w fun e w' => e = .returned (.tuple #[.string (entB a b c d), .int .i64 0]) ∧ Below w.heap.size w w' := by
  have H := Lib.hid h
  clear h
  go_enter Try.func75, Try.ntmps75
  go_wp2_with (go_at_call 54; refine (refRecMay_calls a b c d _).mono ?_; rintro e w1 ⟨rfl, hb⟩; rw [H.out])
  have h0 : w1.cell? ⟨w.heap.size, 0, none⟩ = some (.int .i64 a) := (hb.cell (p := ⟨w.heap.size, 0, none⟩) (by simp)).trans (by simp [go_sem])
  have h1 : w1.cell? ⟨w.heap.size, 1, none⟩ = some (.int .i64 b) := (hb.cell (p := ⟨w.heap.size, 1, none⟩) (by simp)).trans (by simp [go_sem])
  have h2 : w1.cell? ⟨w.heap.size, 2, none⟩ = some (.int .i64 c) := (hb.cell (p := ⟨w.heap.size, 2, none⟩) (by simp)).trans (by simp [go_sem])
  have h3 : w1.cell? ⟨w.heap.size, 3, none⟩ = some (.int .i64 d) := (hb.cell (p := ⟨w.heap.size, 3, none⟩) (by simp)).trans (by simp [go_sem])
  have hB : Below w.heap.size w w1 := below_step (below_alloc (Below.refl _ _) _) hb
  have hz : w.heap.size < w1.heap.size := by have := hb.size; simp at this; omega
  clear hb
  obtain ⟨g, hg⟩ : ∃ g, g = w.heap.size := ⟨_, rfl⟩
  rw [← hg] at h0 h1 h2 h3 hB hz ⊢
  have HGE := Lib.hid hg
  clear hg
  go_wp2_with fail
  have hs4 := fun x => lowB_size x 4
  have hs1 := fun x => lowB_size x 1
  have hs2 := fun x => lowB_size x 2
  have hcv := fun (W : World) (s : ByteArray) => Lib.run_convert_string_bytes (P := Try.prog) W 9 67 5 s (u := .string) Try.underlying9 Try.underlying67 Try.underlying5
  refine start_ (n := 19) (S := fun w' => w'.cell? ⟨g, 0, none⟩ = some (.int .i64 a) ∧ w'.cell? ⟨g, 1, none⟩ = some (.int .i64 b) ∧ w'.cell? ⟨g, 2, none⟩ = some (.int .i64 c) ∧ w'.cell? ⟨g, 3, none⟩ = some (.int .i64 d) ∧ Below g w w') (ds := []) #[false, false, false, false, false, false, false, false, false, false, false, false, false, false, false, false, false, false, false] (by kernel_rfl) rfl rfl ⟨h0, h1, h2, h3, below_drew1 hB⟩ (fun hHeld => ?_)
  refine with_tabW putReg.tab putReg.bits (fun HT_ HW_ => ?_)
  refine pure_ (i := 0) (N := some 9) (v := ?_) (a' := ?_) #[true, false, false, false, false, false, false, false, false, false, false, false, false, false, false, false, false, false, false] rfl rfl (any_of HT_.out (by kernel_rfl)) (fun _ _ _ h => h) (Or.inl ⟨by rfl, ?_⟩) ?_ ?_
  rotate_left
  · intro w'
    go_simp
    with_reducible rfl
  rotate_left
  · simp only [Act.put, List.setIfInBounds_toArray, List.set_cons_zero, List.set_cons_succ, i64_w, i32_w]
    rfl
  refine pure_ (i := 3) (N := some 12) (v := ?_) (a' := ?_) #[true, false, false, true, false, false, false, false, false, false, false, false, false, false, false, false, false, false, false] rfl rfl (any_of HT_.out (by kernel_rfl)) (fun _ _ _ h => h) (Or.inl ⟨by rfl, ?_⟩) ?_ ?_
  rotate_left
  · intro w'
    go_simp
    with_reducible rfl
  rotate_left
  · simp only [Act.put, List.setIfInBounds_toArray, List.set_cons_zero, List.set_cons_succ, i64_w, i32_w]
    rfl
  refine pure_ (i := 9) (N := some 18) (v := ?_) (a' := ?_) #[true, false, false, true, false, false, false, false, false, true, false, false, false, false, false, false, false, false, false] rfl rfl (any_of HT_.out (by kernel_rfl)) (fun _ _ _ h => h) (Or.inl ⟨by rfl, ?_⟩) ?_ ?_
  rotate_left
  · intro w'
    go_simp
    with_reducible rfl
  rotate_left
  · simp only [Act.put, List.setIfInBounds_toArray, List.set_cons_zero, List.set_cons_succ, i64_w, i32_w]
    rfl
  refine pure_ (i := 13) (N := some 22) (v := ?_) (a' := ?_) #[true, false, false, true, false, false, false, false, false, true, false, false, false, true, false, false, false, false, false] rfl rfl (any_of HT_.out (by kernel_rfl)) (fun _ _ _ h => h) (Or.inl ⟨by rfl, ?_⟩) ?_ ?_
  rotate_left
  · intro w'
    go_simp
    with_reducible rfl
  rotate_left
  · simp only [Act.put, List.setIfInBounds_toArray, List.set_cons_zero, List.set_cons_succ, i64_w, i32_w]
    rfl
  refine take_ (i := 1) (N := some 10) (v := ?_) (a' := ?_) #[true, true, false, true, false, false, false, false, false, true, false, false, false, true, false, false, false, false, false] rfl rfl (take_ofW HT_.out HW_.out (by kernel_rfl)) (fun _ _ _ h => h) (Or.inl ⟨by rfl, ?_⟩) hHeld ?_ ?_
  rotate_left
  · rintro w' ⟨s0, s1, s2, s3, s4⟩
    go_simp
    with_reducible rfl
  rotate_left
  · simp only [Act.put, List.setIfInBounds_toArray, List.set_cons_zero, List.set_cons_succ, i64_w, i32_w]
    rfl
  refine take_ (i := 4) (N := some 13) (v := ?_) (a' := ?_) #[true, true, false, true, true, false, false, false, false, true, false, false, false, true, false, false, false, false, false] rfl rfl (take_ofW HT_.out HW_.out (by kernel_rfl)) (fun _ _ _ h => h) (Or.inl ⟨by rfl, ?_⟩) hHeld ?_ ?_
  rotate_left
  · rintro w' ⟨s0, s1, s2, s3, s4⟩
    go_simp
    with_reducible rfl
  rotate_left
  · simp only [Act.put, List.setIfInBounds_toArray, List.set_cons_zero, List.set_cons_succ, i64_w, i32_w]
    rfl
  refine take_ (i := 10) (N := some 19) (v := ?_) (a' := ?_) #[true, true, false, true, true, false, false, false, false, true, true, false, false, true, false, false, false, false, false] rfl rfl (take_ofW HT_.out HW_.out (by kernel_rfl)) (fun _ _ _ h => h) (Or.inl ⟨by rfl, ?_⟩) hHeld ?_ ?_
  rotate_left
  · rintro w' ⟨s0, s1, s2, s3, s4⟩
    go_simp
    with_reducible rfl
  rotate_left
  · simp only [Act.put, List.setIfInBounds_toArray, List.set_cons_zero, List.set_cons_succ, i64_w, i32_w]
    rfl
  refine take_ (i := 14) (N := some 23) (v := ?_) (a' := ?_) #[true, true, false, true, true, false, false, false, false, true, true, false, false, true, true, false, false, false, false] rfl rfl (take_ofW HT_.out HW_.out (by kernel_rfl)) (fun _ _ _ h => h) (Or.inl ⟨by rfl, ?_⟩) hHeld ?_ ?_
  rotate_left
  · rintro w' ⟨s0, s1, s2, s3, s4⟩
    go_simp
    with_reducible rfl
  rotate_left
  · simp only [Act.put, List.setIfInBounds_toArray, List.set_cons_zero, List.set_cons_succ, i64_w, i32_w]
    rfl
  refine one_ (i := 2) (N := some 11) #[true, true, true, true, true, false, false, false, false, true, true, false, false, true, true, false, false, false, false] rfl rfl (one_of HT_.out (by kernel_rfl)) (by decide) (fun K hK => ?_)
  refine goes_ Try.func103 (by kernel_rfl) rfl #[.int .i64 a, .int .i64 4] (by rfl) rfl rfl (by simp only [List.map_toArray, List.map_cons, List.map_nil]; rfl) ?_
  with_reducible refine (refLow4 a _).mono ?_
  rintro e w2 ⟨rfl, hb2⟩
  refine ⟨_, rfl, ?_⟩
  have hH2 := keep4 hb2 hHeld.1 hHeld.2.1 hHeld.2.2.1 hHeld.2.2.2.1 hHeld.2.2.2.2
  clear hHeld hb2
  refine hK.out _ _ ⟨hH2.1, hH2.2.1, hH2.2.2.1, hH2.2.2.2.1, hH2.2.2.2.2⟩ (fun hHeld => ?_)
  clear hK K
  refine norm_ (a' := ?_) ?_ ?_
  rotate_left
  · show Act.put _ (some 11) _ = _
    simp only [Act.put, List.setIfInBounds_toArray, List.set_cons_zero, List.set_cons_succ, i64_w, i32_w]
    rfl
  refine one_ (i := 5) (N := some 14) #[true, true, true, true, true, true, false, false, false, true, true, false, false, true, true, false, false, false, false] rfl rfl (one_of HT_.out (by kernel_rfl)) (by decide) (fun K hK => ?_)
  refine goes_ Try.func103 (by kernel_rfl) rfl #[.int .i64 b, .int .i64 1] (by rfl) rfl rfl (by simp only [List.map_toArray, List.map_cons, List.map_nil]; rfl) ?_
  with_reducible refine (refLow1 b _).mono ?_
  rintro e w2 ⟨rfl, hb2⟩
  refine ⟨_, rfl, ?_⟩
  have hH2 := keep4 hb2 hHeld.1 hHeld.2.1 hHeld.2.2.1 hHeld.2.2.2.1 hHeld.2.2.2.2
  clear hHeld hb2
  refine hK.out _ _ ⟨hH2.1, hH2.2.1, hH2.2.2.1, hH2.2.2.2.1, hH2.2.2.2.2⟩ (fun hHeld => ?_)
  clear hK K
  refine norm_ (a' := ?_) ?_ ?_
  rotate_left
  · show Act.put _ (some 14) _ = _
    simp only [Act.put, List.setIfInBounds_toArray, List.set_cons_zero, List.set_cons_succ, i64_w, i32_w]
    rfl
  refine pure_ (i := 6) (N := some 15) (v := ?_) (a' := ?_) #[true, true, true, true, true, true, true, false, false, true, true, false, false, true, true, false, false, false, false] rfl rfl (any_of HT_.out (by kernel_rfl)) (fun _ _ _ h => h) (Or.inl ⟨by rfl, ?_⟩) ?_ ?_
  rotate_left
  · intro w'
    go_simp
    with_reducible rfl
  rotate_left
  · simp only [Act.put, List.setIfInBounds_toArray, List.set_cons_zero, List.set_cons_succ, i64_w, i32_w]
    rfl
  refine one_ (i := 7) (N := some 16) #[true, true, true, true, true, true, true, true, false, true, true, false, false, true, true, false, false, false, false] rfl rfl (one_of HT_.out (by kernel_rfl)) (by decide) (fun K hK => ?_)
  refine goes_ Try.func103 (by kernel_rfl) rfl #[.int .i64 0, .int .i64 1] (by rfl) rfl rfl (by simp only [List.map_toArray, List.map_cons, List.map_nil]; rfl) ?_
  with_reducible refine (refLow1 0 _).mono ?_
  rintro e w2 ⟨rfl, hb2⟩
  refine ⟨_, rfl, ?_⟩
  have hH2 := keep4 hb2 hHeld.1 hHeld.2.1 hHeld.2.2.1 hHeld.2.2.2.1 hHeld.2.2.2.2
  clear hHeld hb2
  refine hK.out _ _ ⟨hH2.1, hH2.2.1, hH2.2.2.1, hH2.2.2.2.1, hH2.2.2.2.2⟩ (fun hHeld => ?_)
  clear hK K
  refine norm_ (a' := ?_) ?_ ?_
  rotate_left
  · show Act.put _ (some 16) _ = _
    simp only [Act.put, List.setIfInBounds_toArray, List.set_cons_zero, List.set_cons_succ, i64_w, i32_w]
    rfl
  refine pure_ (i := 8) (N := some 17) (v := ?_) (a' := ?_) #[true, true, true, true, true, true, true, true, true, true, true, false, false, true, true, false, false, false, false] rfl rfl (any_of HT_.out (by kernel_rfl)) (fun _ _ _ h => h) (Or.inl ⟨by rfl, ?_⟩) ?_ ?_
  rotate_left
  · intro w'
    go_simp
    with_reducible rfl
  rotate_left
  · simp only [Act.put, List.setIfInBounds_toArray, List.set_cons_zero, List.set_cons_succ, i64_w, i32_w]
    rfl
  refine one_ (i := 11) (N := some 20) #[true, true, true, true, true, true, true, true, true, true, true, true, false, true, true, false, false, false, false] rfl rfl (one_of HT_.out (by kernel_rfl)) (by decide) (fun K hK => ?_)
  refine goes_ Try.func103 (by kernel_rfl) rfl #[.int .i64 c, .int .i64 2] (by rfl) rfl rfl (by simp only [List.map_toArray, List.map_cons, List.map_nil]; rfl) ?_
  with_reducible refine (refLow2 c _).mono ?_
  rintro e w2 ⟨rfl, hb2⟩
  refine ⟨_, rfl, ?_⟩
  have hH2 := keep4 hb2 hHeld.1 hHeld.2.1 hHeld.2.2.1 hHeld.2.2.2.1 hHeld.2.2.2.2
  clear hHeld hb2
  refine hK.out _ _ ⟨hH2.1, hH2.2.1, hH2.2.2.1, hH2.2.2.2.1, hH2.2.2.2.2⟩ (fun hHeld => ?_)
  clear hK K
  refine norm_ (a' := ?_) ?_ ?_
  rotate_left
  · show Act.put _ (some 20) _ = _
    simp only [Act.put, List.setIfInBounds_toArray, List.set_cons_zero, List.set_cons_succ, i64_w, i32_w]
    rfl
  refine pure_ (i := 12) (N := some 21) (v := ?_) (a' := ?_) #[true, true, true, true, true, true, true, true, true, true, true, true, true, true, true, false, false, false, false] rfl rfl (any_of HT_.out (by kernel_rfl)) (fun _ _ _ h => h) (Or.inl ⟨by rfl, ?_⟩) ?_ ?_
  rotate_left
  · intro w'
    go_simp
    with_reducible rfl
  rotate_left
  · simp only [Act.put, List.setIfInBounds_toArray, List.set_cons_zero, List.set_cons_succ, i64_w, i32_w]
    rfl
  refine one_ (i := 15) (N := some 24) #[true, true, true, true, true, true, true, true, true, true, true, true, true, true, true, true, false, false, false] rfl rfl (one_of HT_.out (by kernel_rfl)) (by decide) (fun K hK => ?_)
  refine goes_ Try.func103 (by kernel_rfl) rfl #[.int .i64 d, .int .i64 4] (by rfl) rfl rfl (by simp only [List.map_toArray, List.map_cons, List.map_nil]; rfl) ?_
  with_reducible refine (refLow4 d _).mono ?_
  rintro e w2 ⟨rfl, hb2⟩
  refine ⟨_, rfl, ?_⟩
  have hH2 := keep4 hb2 hHeld.1 hHeld.2.1 hHeld.2.2.1 hHeld.2.2.2.1 hHeld.2.2.2.2
  clear hHeld hb2
  refine hK.out _ _ ⟨hH2.1, hH2.2.1, hH2.2.2.1, hH2.2.2.2.1, hH2.2.2.2.2⟩ (fun hHeld => ?_)
  clear hK K
  refine norm_ (a' := ?_) ?_ ?_
  rotate_left
  · show Act.put _ (some 24) _ = _
    simp only [Act.put, List.setIfInBounds_toArray, List.set_cons_zero, List.set_cons_succ, i64_w, i32_w]
    rfl
  refine pure_ (i := 16) (N := some 25) (v := ?_) (a' := ?_) #[true, true, true, true, true, true, true, true, true, true, true, true, true, true, true, true, true, false, false] rfl rfl (any_of HT_.out (by kernel_rfl)) (fun _ _ _ h => h) (Or.inl ⟨by rfl, ?_⟩) ?_ ?_
  rotate_left
  · intro w'
    go_simp
    with_reducible rfl
  rotate_left
  · simp only [Act.put, List.setIfInBounds_toArray, List.set_cons_zero, List.set_cons_succ, i64_w, i32_w]
    rfl
  refine one_ (i := 17) (N := some 26) #[true, true, true, true, true, true, true, true, true, true, true, true, true, true, true, true, true, true, false] rfl rfl (one_of HT_.out (by kernel_rfl)) (by decide) (fun K hK => ?_)
  refine value_ (w1 := ?_) (v := ?_) (by rfl) rfl ?_ ?_
  rotate_left 2
  · go_simp
    constructor
    · rfl
    · rfl
  have hH2 := keep4 (bytes_below (Below.refl _ _) (Nat.le_refl _) 5 (lowB a 4 ++ lowB b 1 ++ lowB 0 1 ++ lowB c 2 ++ lowB d 4)) hHeld.1 hHeld.2.1 hHeld.2.2.1 hHeld.2.2.2.1 hHeld.2.2.2.2
  clear hHeld
  refine hK.out _ _ ⟨hH2.1, hH2.2.1, hH2.2.2.1, hH2.2.2.2.1, hH2.2.2.2.2⟩ (fun hHeld => ?_)
  clear hK K
  refine norm_ (a' := ?_) ?_ ?_
  rotate_left
  · show Act.put _ (some 26) _ = _
    simp only [Act.put, List.setIfInBounds_toArray, List.set_cons_zero, List.set_cons_succ, i64_w, i32_w]
    rfl
  refine pure_ (i := 18) (N := some 4) (v := ?_) (a' := ?_) #[true, true, true, true, true, true, true, true, true, true, true, true, true, true, true, true, true, true, true] rfl rfl (any_of HT_.out (by kernel_rfl)) (fun _ _ _ h => h) (Or.inl ⟨by rfl, ?_⟩) ?_ ?_
  rotate_left
  · intro w'
    go_simp
    with_reducible rfl
  rotate_left
  · simp only [Act.put, List.setIfInBounds_toArray, List.set_cons_zero, List.set_cons_succ, i64_w, i32_w]
    rfl
  refine done_ (done_of HT_.out (by kernel_rfl)) ?_
  obtain ⟨s, hs⟩ : ∃ s, s = lowB a 4 ++ lowB b 1 ++ lowB 0 1 ++ lowB c 2 ++ lowB d 4 := ⟨_, rfl⟩
  have hss : s.size = 12 := by rw [hs]; simp only [ByteArray.size_append, hs4, hs1, hs2]
  have HC := Aside0.mk (crow_of_bytes w2 5 s (by rw [hss]; decide))
  rw [← hs] at hHeld
  have HB := Aside0.mk hHeld.2.2.2.2
  go_wp2_with fail
  rw [← hs]
  have HSS := Lib.hid hs
  rw [hss] at HC
  have HL := Lib.hid (show (bytesOf s).length = 12 by rw [bytesOf_length, hss])
  have hg2 := Nat.le_refl w2.heap.size
  have HG := Aside0.mk (hHeld.2.2.2.2.size)
  have hgz : g ≤ w2.heap.size := by
    have h9 : g < _ := World.block_lt_of_cell? _ _ hHeld.1
    rw [Lib.bytesWorld_size] at h9
    omega
  generalize hW : Lib.bytesWorld w2 5 s = W at *
  generalize grownCap w2 12 0 5 = C at *
  generalize w2.heap.size = g2 at *
  clear hHeld hcv hs hW hg2
  obtain ⟨i0, hi, hz0, hz1, hz2⟩ := info_parts info5
  go_loopw [4, 5] (fun v i wr => ∃ k g3 cap : Nat, k ≤ 12 ∧ i = .int .i64 k ∧ v = .slice (some ⟨g3, 0, none⟩) (12 + k) cap ∧ Aside0 (CRow wr g3 cap (bytesOf s ++ ((bytesOf s).take k).map (255 - ·))) ∧ Aside0 (g ≤ g3) ∧ Aside0 (Below g w wr)) (fun _ i _ => 12 - (intOf i).toNat)
  case atStart => exact ⟨0, g2, C, by omega, rfl, rfl, ⟨by simpa using HC.out⟩, ⟨hgz⟩, HB⟩
  case round =>
    obtain ⟨k, g3, cap, hk, rfl, rfl, HR1, HG3, HB1⟩ := hrel
    have HL1 := Lib.hid (show (bytesOf s ++ ((bytesOf s).take k).map (255 - ·)).length = 12 + k by simp [HL.out]; omega)
    by_cases hlt : k < 12
    · have hc := HR1.out.cell k (by rw [HL1.out]; omega)
      have ex : (bytesOf s ++ ((bytesOf s).take k).map (255 - ·)).getD k 0 = (bytesOf s).getD k 0 := by
        rw [List.getD_eq_getElem?_getD, List.getElem?_append_left (by rw [HL.out]; exact hlt), List.getD_eq_getElem?_getD]
      rw [ex] at hc
      have hx := bytesOf_range s k
      have HX := Lib.hid (show bytesOf s ++ ((bytesOf s).take (k + 1)).map (255 - ·) = (bytesOf s ++ ((bytesOf s).take k).map (255 - ·)) ++ [255 - (bytesOf s).getD k 0] by
        rw [List.take_succ_eq_append_getElem (by rw [HL.out]; exact hlt), List.map_append, List.append_assoc]
        simp [List.getD_eq_getElem?_getD, List.getElem?_eq_getElem (show k < (bytesOf s).length by rw [HL.out]; exact hlt)])
      clear ex
      generalize (bytesOf s).getD k 0 = x at *
      have hgl := HR1.out.lt (by rw [HL1.out]; omega)
      have HRa := Aside0.mk (HR1.out.below (below_alloc (Below.refl _ _) (.cells #[.int .u8 (255 - x)] 5)) hgl)
      have HBa := Aside0.mk (HB1.out.alloc (Nat.le_of_lt (Nat.lt_of_le_of_lt HG3.out hgl)) (.cells #[.int .u8 (255 - x)] 5))
      obtain ⟨xs, hxs⟩ : ∃ xs, xs = bytesOf s ++ ((bytesOf s).take k).map (255 - ·) := ⟨_, rfl⟩
      rw [← hxs] at HR1 HL1 HX HRa
      have HXS := Lib.hid hxs
      clear hxs
      go_wp2_with (at_builtin; refine wpList_append_arg _ rfl _ _ 67 rfl 5 i0 (.int .u8 0) 1 1 Try.underlying67 hi hz0 hz1 hz2 rfl (by decide) g3 0 (12 + k) cap (nums .u8 xs) rfl ?lo ?olds ⟨wr.heap.size, 0, none⟩ 1 1 [.int .u8 (255 - x)] rfl rfl ?c1 ?c2 ?spare ?mx ?bytes ?room ?grow)
      case lo => rw [nums_length, HL1.out]; omega
      case olds => exact HRa.out.olds
      case c1 => exact World.news_of_block (cs := #[.int .u8 (255 - x)]) (t := 5) (fr := (0, 0)) (heap_alloc_new wr _)
      case c2 => intro u hu; simp at hu; subst hu; rfl
      case spare =>
        intro hroom j hj
        simp at hj
        subst hj
        have := HRa.out.room (12 + k) (by omega)
        simpa using this
      case mx => unfold maxLen; omega
      case bytes => omega
      case room =>
        intro hroom
        have hp := HRa.out.push (255 - x) (by rw [HL1.out]; omega)
        rw [HL1.out] at hp
        have HP := Aside0.mk hp
        have HB2 := Aside0.mk (show Below g w (((wr.alloc (.cells #[.int .u8 (255 - x)] 5))).setCells g3 (12 + k) [.int .u8 (255 - x)]) from by
          simp only [World.setCells]
          exact HBa.out.setCell HG3.out _)
        clear hp
        generalize (wr.alloc (.cells #[.int .u8 (255 - x)] 5)).setCells g3 (12 + k) [.int .u8 (255 - x)] = wr2 at *
        go_wp2
        go_roundw
        case rel => exact ⟨k + 1, g3, cap, by omega, by go_num, rfl, ⟨by rw [HX.out]; exact HP.out⟩, HG3, HB2⟩
        case measure => simp [intOf]; omega
      case grow =>
        intro hfull v2 w3 hown hgrow
        have hown2 : w3.ownsRow (wr.alloc (.cells #[.int .u8 (255 - x)] 5)).heap.size 5 1 v2 (12 + k + 1) (nums .u8 (xs ++ [255 - x])) := by rw [nums_append]; simpa [nums] using hown
        obtain ⟨g4, cap4, hv, hg4, hc4⟩ := crow_of_own hown2 (by omega)
        have h8 := HG3.out
        have HB2 := Aside0.mk (HBa.out.grown hgrow (by simp; omega) (fun k hk => by cases hk))
        have HC4 := Aside0.mk hc4
        have HG4 := Aside0.mk (show g ≤ g4 by simp at hg4; omega)
        rw [hv]
        clear hown hown2 hgrow hc4 hg4 hv
        go_wp2
        go_roundw
        case rel => exact ⟨k + 1, g4, cap4, by omega, by go_num, rfl, ⟨by rw [HX.out]; exact HC4.out⟩, HG4, HB2⟩
        case measure => simp [intOf]; omega
    · obtain rfl : k = 12 := by omega
      have hcs := fun C => string_of_reads (P := Try.prog) (c := C) (A := some ⟨g3, 0, none⟩) (n := 24) Try.underlying67 Try.underlying5 Try.underlying9 ⟨HL1.out, by omega, fun _ => ⟨_, rfl, fun j hj => by rw [add_plain]; exact HR1.out.cell j (by rw [HL1.out]; omega)⟩⟩
      go_wp2
      go_ret2
      refine ⟨congrArg (fun z => Ending.returned (.tuple #[.string z, .int .i64 0])) ?_, ?_⟩
      · show strOfNums _ = _
        rw [List.take_of_length_le (by rw [List.length_map, HL.out]; omega), strOfNums_append, strOfNums_bytesOf, entB, hdB, ← HSS.out, compB]
      · rw [← HGE.out]; exact HB1.out
set_option maxHeartbeats 1600000 in
theorem put_no (a b c d : Int) (w : World) (h : recMayB a b c d = false) :
    Calls Try.prog 75 #[.agg #[.int .i64 a, .int .i64 b, .int .i64 c, .int .i64 d]] w fun e w' => e = .returned (.tuple #[.string ⟨#[]⟩, .int .i64 400]) ∧ Below w.heap.size w w' := by
  have H := Lib.hid h
  clear h
  go_enter Try.func75, Try.ntmps75
  go_wp2_with (go_at_call 54; refine (refRecMay_calls a b c d _).mono ?_; rintro e w1 ⟨rfl, hb⟩; rw [H.out])
  go_ret2
  exact ⟨rfl, below_step (below_alloc (Below.refl _ _) _) hb⟩
def skiffref1_PutEntry.f (a0_0 a0_1 a0_2 a0_3 : Int) : Option (ByteArray × Int) := if recMayB a0_0 a0_1 a0_2 a0_3 = true then some (entB a0_0 a0_1 a0_2 a0_3, 0) else some (⟨#[]⟩, 400)
theorem skiffref1_PutEntry.calls (a0_0 : Int) (a0_1 : Int) (a0_2 : Int) (a0_3 : Int) (r1 : ByteArray) (r2 : Int) (w : World) (h : skiffref1_PutEntry.f a0_0 a0_1 a0_2 a0_3 = some (r1, r2)) :
    Calls Try.prog 75 #[.agg #[.int .i64 a0_0, .int .i64 a0_1, .int .i64 a0_2, .int .i64 a0_3]] w fun e w' => e = .returned (.tuple #[.string r1, .int .i64 r2]) ∧ Below w.heap.size w w' := by
  unfold skiffref1_PutEntry.f at h
  cases hb : recMayB a0_0 a0_1 a0_2 a0_3
  · rw [hb, if_neg (by decide)] at h
    simp only [Option.some.injEq, Prod.mk.injEq] at h
    obtain ⟨rfl, rfl⟩ := h
    exact put_no _ _ _ _ _ hb
  · rw [hb, if_pos rfl] at h
    simp only [Option.some.injEq, Prod.mk.injEq] at h
    obtain ⟨rfl, rfl⟩ := h
    exact put_yes _ _ _ _ _ hb
end Go.Proofs.Ytaibkfgpdgabaaa.P
end

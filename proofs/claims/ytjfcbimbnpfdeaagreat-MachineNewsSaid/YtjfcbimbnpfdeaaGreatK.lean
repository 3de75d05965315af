/- The machine's struct; idle. -/
import Derived.Test.YtjfcbimbnpfdeaaGreatJ
import Derived.Outline
namespace Go.Proofs.YtjfcbimbnpfdeaaGreat
open Go.RowKit

/-- The machine's cells: memory, stack, registers, frames, handlers, globals, entry, value, used, budget, steps. -/
def macL (m : Nat) (stack : Int) (regs : List Int) (fv kv gv : Value) (entry value used budget steps : Int) : List Value :=
  [.pointer (some ⟨m, 0, none⟩), .int .i64 stack] ++ (iv .u64 regs ++ [fv, kv, gv, .int .u64 entry, .int .u64 value, .int .i64 used, .int .i64 budget, .int .i64 steps])
def macCells (m : Nat) (stack : Int) (regs : List Int) (fv kv gv : Value) (entry value used budget steps : Int) : Array Value := (macL m stack regs fv kv gv entry value used budget steps).toArray

section
variable {m : Nat} {stack : Int} {regs : List Int} {fv kv gv : Value} {entry value used budget steps : Int}
theorem macCells_get (j : Nat) : (macCells m stack regs fv kv gv entry value used budget steps)[j]? = (macL m stack regs fv kv gv entry value used budget steps)[j]? := by simp [macCells]
theorem mac_tail (hr : regs.length = 16) (j : Nat) : (macCells m stack regs fv kv gv entry value used budget steps)[18 + j]? = ([fv, kv, gv, .int .u64 entry, .int .u64 value, .int .i64 used, .int .i64 budget, .int .i64 steps] : List Value)[j]? := by
  rw [macCells_get]
  unfold macL
  rw [List.getElem?_append_right (by simp; omega), List.getElem?_append_right (by simp [iv, hr]; omega)]
  simp only [iv, List.length_cons, List.length_nil, List.length_map, hr]
  rw [show 18 + j - (0 + 1 + 1) - 16 = j by omega]
theorem mac_reg (j : Nat) (hj : j < regs.length) : (macCells m stack regs fv kv gv entry value used budget steps)[2 + j]? = some (.int .u64 (regs.getD j 0)) := by
  rw [macCells_get]
  unfold macL
  rw [List.getElem?_append_right (by simp), List.getElem?_append_left (by simp [iv]; omega)]
  simpa using iv_get .u64 regs j hj
theorem mac_m : (macCells m stack regs fv kv gv entry value used budget steps)[0]? = some (.pointer (some ⟨m, 0, none⟩)) := rfl
theorem mac_stack : (macCells m stack regs fv kv gv entry value used budget steps)[1]? = some (.int .i64 stack) := rfl
theorem mac_setReg (j : Nat) (hj : j < regs.length) (x : Int) : (macCells m stack regs fv kv gv entry value used budget steps).setIfInBounds (2 + j) (.int .u64 x) = macCells m stack (regs.set j x) fv kv gv entry value used budget steps := by
  apply Array.toList_inj.1
  rw [Array.toList_setIfInBounds]
  simp only [macCells, macL]
  rw [List.set_append_right _ _ (by simp), show 2 + j - ([Value.pointer (some ⟨m, 0, none⟩), .int .i64 stack] : List Value).length = j by simp, List.set_append_left _ _ (by simp [iv]; omega)]
  simp [iv]
theorem mac_setTail (hr : regs.length = 16) (j : Nat) (v : Value) : (macCells m stack regs fv kv gv entry value used budget steps).setIfInBounds (18 + j) v = (([.pointer (some ⟨m, 0, none⟩), .int .i64 stack] : List Value) ++ (iv .u64 regs ++ ([fv, kv, gv, .int .u64 entry, .int .u64 value, .int .i64 used, .int .i64 budget, .int .i64 steps] : List Value).set j v)).toArray := by
  apply Array.toList_inj.1
  rw [Array.toList_setIfInBounds]
  simp only [macCells, macL]
  rw [List.set_append_right _ _ (by simp; omega), List.set_append_right _ _ (by simp [iv, hr]; omega)]
  simp only [iv, List.length_cons, List.length_nil, List.length_map, hr]
  rw [show 18 + j - (0 + 1 + 1) - 16 = j by omega]
theorem mac_setF (hr : regs.length = 16) (v : Value) : (macCells m stack regs fv kv gv entry value used budget steps).setIfInBounds 18 v = macCells m stack regs v kv gv entry value used budget steps := mac_setTail hr 0 v
theorem mac_setK (hr : regs.length = 16) (v : Value) : (macCells m stack regs fv kv gv entry value used budget steps).setIfInBounds 19 v = macCells m stack regs fv v gv entry value used budget steps := mac_setTail hr 1 v
theorem mac_setG (hr : regs.length = 16) (v : Value) : (macCells m stack regs fv kv gv entry value used budget steps).setIfInBounds 20 v = macCells m stack regs fv kv v entry value used budget steps := mac_setTail hr 2 v
theorem mac_setE (hr : regs.length = 16) (x : Int) : (macCells m stack regs fv kv gv entry value used budget steps).setIfInBounds 21 (.int .u64 x) = macCells m stack regs fv kv gv x value used budget steps := mac_setTail hr 3 _
theorem mac_setV (hr : regs.length = 16) (x : Int) : (macCells m stack regs fv kv gv entry value used budget steps).setIfInBounds 22 (.int .u64 x) = macCells m stack regs fv kv gv entry x used budget steps := mac_setTail hr 4 _
theorem mac_setU (hr : regs.length = 16) (x : Int) : (macCells m stack regs fv kv gv entry value used budget steps).setIfInBounds 23 (.int .i64 x) = macCells m stack regs fv kv gv entry value x budget steps := mac_setTail hr 5 _
theorem mac_setB (hr : regs.length = 16) (x : Int) : (macCells m stack regs fv kv gv entry value used budget steps).setIfInBounds 24 (.int .i64 x) = macCells m stack regs fv kv gv entry value used x steps := mac_setTail hr 6 _
theorem mac_setS (hr : regs.length = 16) (x : Int) : (macCells m stack regs fv kv gv entry value used budget steps).setIfInBounds 25 (.int .i64 x) = macCells m stack regs fv kv gv entry value used budget x := mac_setTail hr 7 _
end


theorem still_of {P : Program} {f : FuncId} {args : Array Value} {w : World} {v : Value} (h : Calls P f args w fun e w' => e = .returned v ∧ w = w') : Calls P f args w fun e w' => e = .returned v ∧ w' = w :=
  h.mono fun _ _ hh => ⟨hh.1, hh.2.symm⟩

def oneK (k : Nat) (regs : List Int) : List Int := List.replicate k 1 ++ regs.drop k
theorem oneK_len (k : Nat) (regs : List Int) (hr : regs.length = 16) (hk : k ≤ 16) : (oneK k regs).length = 16 := by simp [oneK]; omega
theorem oneK_set (k : Nat) (regs : List Int) (hk : k < regs.length) : (oneK k regs).set k 1 = oneK (k + 1) regs := by
  unfold oneK
  rw [List.set_append_right _ _ (by simp), List.length_replicate, Nat.sub_self, List.drop_eq_getElem_cons hk, List.set_cons_zero, List.replicate_succ' (n := k)]
  simp
def ones : List Int := List.replicate 16 1
theorem oneK_16 (regs : List Int) (hr : regs.length = 16) : oneK 16 regs = ones := by simp [oneK, ones, hr]

set_option maxRecDepth 100000 in
set_option maxHeartbeats 2000000 in
theorem machineIdle (gx m : Nat) (stack : Int) (regs : List Int) (fv kv gv : Value) (entry value used budget steps : Int) (w : World) (hr : regs.length = 16) (hent : (entry == 0) = false)
    (h0 : w.heap[gx]? = some (.cells (macCells m stack regs fv kv gv entry value used budget steps) 94 (0, 0))) :
    Calls Tryz.prog 43 #[.pointer (some ⟨gx, 0, none⟩)] w fun e w' => e = .returned (.tuple #[]) ∧
      w'.heap[gx]? = some (.cells (macCells m stack ones (.slice none 0 0) (.slice none 0 0) gv entry 1 0 budget steps) 94 (0, 0)) ∧ Kp (fun i => i = gx) w w' := by
  have hgl := at_lt h0
  have c18 : w.cell? ⟨gx, 18, none⟩ = some fv := (cell_of_row _ _ _ _ _ _ h0).trans (mac_tail hr 0)
  have c19 : w.cell? ⟨gx, 19, none⟩ = some kv := (cell_of_row _ _ _ _ _ _ h0).trans (mac_tail hr 1)
  have c23 : w.cell? ⟨gx, 23, none⟩ = some (.int .i64 used) := (cell_of_row _ _ _ _ _ _ h0).trans (mac_tail hr 5)
  have f18 : w.frozen? ⟨gx, 18, none⟩ = false := frozen_of_row _ _ _ _ _ h0
  have f19 : w.frozen? ⟨gx, 19, none⟩ = false := frozen_of_row _ _ _ _ _ h0
  have f23 : w.frozen? ⟨gx, 23, none⟩ = false := frozen_of_row _ _ _ _ _ h0
  have h1 := heap_setCell_same w gx 18 _ 94 (.slice none 0 0) h0
  rw [mac_setF hr] at h1
  have h2 := heap_setCell_same _ gx 19 _ 94 (.slice none 0 0) h1
  rw [mac_setK hr] at h2
  have h3 := heap_setCell_same _ gx 23 _ 94 (.int .i64 0) h2
  rw [mac_setU hr] at h3
  have k3 := (((Kp.refl (fun i => i = gx) w).setCell (p := ⟨gx, 18, none⟩) (.inl rfl) (.slice none 0 0)).setCell (p := ⟨gx, 19, none⟩) (.inl rfl) (.slice none 0 0)).setCell (p := ⟨gx, 23, none⟩) (.inl rfl) (.int .i64 0)
  have H3 := Lib.hid h3
  have K3 := Lib.hid k3
  clear h0 h1 h2 h3 k3
  go_enter Tryz.func43, Tryz.ntmps43
  go_wp2
  go_loopw [12, 2] (fun i _ wr => ∃ k : Nat, k ≤ 16 ∧ i = .int .i64 k ∧ wr.heap[gx]? = some (.cells (macCells m stack (oneK k regs) (.slice none 0 0) (.slice none 0 0) gv entry value 0 budget steps) 94 (0, 0)) ∧ Kp (fun i => i = gx) w wr) (fun i _ _ => 16 - (intOf i).toNat)
  case atStart => exact ⟨0, by omega, rfl, H3.out, K3.out⟩
  case round =>
    obtain ⟨k, hk, rfl, hb, hkp⟩ := hrel
    clear H3 K3 c18 c19 c23 f18 f19 f23
    have hlen := oneK_len k regs hr hk
    have hgl' := at_lt hb
    by_cases hlt : k < 16
    · have hc : wr.cell? ⟨gx, 2 + k, none⟩ = some (.int .u64 ((oneK k regs).getD k 0)) := (cell_of_row _ _ _ _ _ _ hb).trans (mac_reg k (by omega))
      have hf : wr.frozen? ⟨gx, 2 + k, none⟩ = false := frozen_of_row _ _ _ _ _ hb
      go_wp2
      go_still_tail 6, (by kernel_rfl)
      still_call (still_of (numInt _ _))
      rw [wInt_zero]
      repeat still_step
      refine wpStill_nil ?_
      change wpList _ _ _ _ _ wr.drew
      have hb' : wr.drew.heap[gx]? = _ := hb
      have hc' : wr.drew.cell? ⟨gx, 2 + k, none⟩ = _ := hc
      have hf' : wr.drew.frozen? ⟨gx, 2 + k, none⟩ = _ := hf
      have hkp' := hkp.drew
      clear hb hc hf hkp
      generalize wr.drew = w2 at *
      have h4 := heap_setCell_same w2 gx (2 + k) _ 94 (.int .u64 1) hb'
      rw [mac_setReg k (by omega), oneK_set k regs (by omega)] at h4
      have H4 := Lib.hid h4
      have K4 := Lib.hid (hkp'.setCell (p := ⟨gx, 2 + k, none⟩) (.inl rfl) (.int .u64 1))
      clear h4 hb' hkp'
      go_wp2
      go_roundw
      case rel => exact ⟨k + 1, by omega, by go_num, H4.out, K4.out⟩
      case measure => simp [intOf]; omega
    · have hk16 : k = 16 := by omega
      subst hk16
      rw [oneK_16 regs hr] at hb
      have c22 : wr.cell? ⟨gx, 22, none⟩ = some (.int .u64 value) := (cell_of_row _ _ _ _ _ _ hb).trans (mac_tail rfl 4)
      have c21 : wr.cell? ⟨gx, 21, none⟩ = some (.int .u64 entry) := (cell_of_row _ _ _ _ _ _ hb).trans (mac_tail rfl 3)
      have f22 : wr.frozen? ⟨gx, 22, none⟩ = false := frozen_of_row _ _ _ _ _ hb
      have h4 := heap_setCell_same wr gx 22 _ 94 (.int .u64 1) hb
      rw [mac_setV rfl] at h4
      have H4 := Lib.hid h4
      have K4 := Lib.hid (hkp.setCell (p := ⟨gx, 22, none⟩) (.inl rfl) (.int .u64 1))
      clear h4 hb hkp
      go_wp2_with (go_at_call 46; refine (numInt _ _).mono ?_; rintro e w' ⟨rfl, rfl⟩; rw [wInt_zero])
      go_end0
      exact ⟨rfl, H4.out, K4.out⟩
set_option maxRecDepth 100000 in
set_option maxHeartbeats 2000000 in
theorem machineIdle0 (gx m : Nat) (stack : Int) (regs : List Int) (fv kv gv : Value) (value used budget steps : Int) (w : World) (hr : regs.length = 16)
    (h0 : w.heap[gx]? = some (.cells (macCells m stack regs fv kv gv 0 value used budget steps) 94 (0, 0))) :
    Calls Tryz.prog 43 #[.pointer (some ⟨gx, 0, none⟩)] w fun e w' => e = .returned (.tuple #[]) ∧
      w'.heap[gx]? = some (.cells (macCells m stack ones (.slice none 0 0) (.slice none 0 0) gv 1 1 0 budget steps) 94 (0, 0)) ∧ Kp (fun i => i = gx) w w' := by
  have hgl := at_lt h0
  have c18 : w.cell? ⟨gx, 18, none⟩ = some fv := (cell_of_row _ _ _ _ _ _ h0).trans (mac_tail hr 0)
  have c19 : w.cell? ⟨gx, 19, none⟩ = some kv := (cell_of_row _ _ _ _ _ _ h0).trans (mac_tail hr 1)
  have c23 : w.cell? ⟨gx, 23, none⟩ = some (.int .i64 used) := (cell_of_row _ _ _ _ _ _ h0).trans (mac_tail hr 5)
  have f18 : w.frozen? ⟨gx, 18, none⟩ = false := frozen_of_row _ _ _ _ _ h0
  have f19 : w.frozen? ⟨gx, 19, none⟩ = false := frozen_of_row _ _ _ _ _ h0
  have f23 : w.frozen? ⟨gx, 23, none⟩ = false := frozen_of_row _ _ _ _ _ h0
  have h1 := heap_setCell_same w gx 18 _ 94 (.slice none 0 0) h0
  rw [mac_setF hr] at h1
  have h2 := heap_setCell_same _ gx 19 _ 94 (.slice none 0 0) h1
  rw [mac_setK hr] at h2
  have h3 := heap_setCell_same _ gx 23 _ 94 (.int .i64 0) h2
  rw [mac_setU hr] at h3
  have k3 := (((Kp.refl (fun i => i = gx) w).setCell (p := ⟨gx, 18, none⟩) (.inl rfl) (.slice none 0 0)).setCell (p := ⟨gx, 19, none⟩) (.inl rfl) (.slice none 0 0)).setCell (p := ⟨gx, 23, none⟩) (.inl rfl) (.int .i64 0)
  have H3 := Lib.hid h3
  have K3 := Lib.hid k3
  clear h0 h1 h2 h3 k3
  go_enter Tryz.func43, Tryz.ntmps43
  go_wp2
  go_loopw [12, 2] (fun i _ wr => ∃ k : Nat, k ≤ 16 ∧ i = .int .i64 k ∧ wr.heap[gx]? = some (.cells (macCells m stack (oneK k regs) (.slice none 0 0) (.slice none 0 0) gv 0 value 0 budget steps) 94 (0, 0)) ∧ Kp (fun i => i = gx) w wr) (fun i _ _ => 16 - (intOf i).toNat)
  case atStart => exact ⟨0, by omega, rfl, H3.out, K3.out⟩
  case round =>
    obtain ⟨k, hk, rfl, hb, hkp⟩ := hrel
    clear H3 K3 c18 c19 c23 f18 f19 f23
    have hlen := oneK_len k regs hr hk
    have hgl' := at_lt hb
    by_cases hlt : k < 16
    · have hc : wr.cell? ⟨gx, 2 + k, none⟩ = some (.int .u64 ((oneK k regs).getD k 0)) := (cell_of_row _ _ _ _ _ _ hb).trans (mac_reg k (by omega))
      have hf : wr.frozen? ⟨gx, 2 + k, none⟩ = false := frozen_of_row _ _ _ _ _ hb
      go_wp2
      go_still_tail 6, (by kernel_rfl)
      still_call (still_of (numInt _ _))
      rw [wInt_zero]
      repeat still_step
      refine wpStill_nil ?_
      change wpList _ _ _ _ _ wr.drew
      have hb' : wr.drew.heap[gx]? = _ := hb
      have hc' : wr.drew.cell? ⟨gx, 2 + k, none⟩ = _ := hc
      have hf' : wr.drew.frozen? ⟨gx, 2 + k, none⟩ = _ := hf
      have hkp' := hkp.drew
      clear hb hc hf hkp
      generalize wr.drew = w2 at *
      have h4 := heap_setCell_same w2 gx (2 + k) _ 94 (.int .u64 1) hb'
      rw [mac_setReg k (by omega), oneK_set k regs (by omega)] at h4
      have H4 := Lib.hid h4
      have K4 := Lib.hid (hkp'.setCell (p := ⟨gx, 2 + k, none⟩) (.inl rfl) (.int .u64 1))
      clear h4 hb' hkp'
      go_wp2
      go_roundw
      case rel => exact ⟨k + 1, by omega, by go_num, H4.out, K4.out⟩
      case measure => simp [intOf]; omega
    · have hk16 : k = 16 := by omega
      subst hk16
      rw [oneK_16 regs hr] at hb
      have c22 : wr.cell? ⟨gx, 22, none⟩ = some (.int .u64 value) := (cell_of_row _ _ _ _ _ _ hb).trans (mac_tail rfl 4)
      have c21 : wr.cell? ⟨gx, 21, none⟩ = some (.int .u64 0) := (cell_of_row _ _ _ _ _ _ hb).trans (mac_tail rfl 3)
      have f22 : wr.frozen? ⟨gx, 22, none⟩ = false := frozen_of_row _ _ _ _ _ hb
      have h4 := heap_setCell_same wr gx 22 _ 94 (.int .u64 1) hb
      rw [mac_setV rfl] at h4
      have f21 : wr.frozen? ⟨gx, 21, none⟩ = false := frozen_of_row _ _ _ _ _ hb
      have h5 := heap_setCell_same _ gx 21 _ 94 (.int .u64 1) h4
      rw [mac_setE rfl] at h5
      have H4 := Lib.hid h5
      have K4 := Lib.hid ((hkp.setCell (p := ⟨gx, 22, none⟩) (.inl rfl) (.int .u64 1)).setCell (p := ⟨gx, 21, none⟩) (.inl rfl) (.int .u64 1))
      clear h4 h5 hb hkp
      go_wp2_with (go_at_call 46; refine (numInt _ _).mono ?_; rintro e w' ⟨rfl, rfl⟩; rw [wInt_zero])
      go_end0
      exact ⟨rfl, H4.out, K4.out⟩
end Go.Proofs.YtjfcbimbnpfdeaaGreat

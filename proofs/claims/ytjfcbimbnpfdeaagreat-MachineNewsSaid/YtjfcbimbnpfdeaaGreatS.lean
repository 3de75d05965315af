/- Value, Global, an early Run, New refused. -/
import Derived.Test.YtjfcbimbnpfdeaaGreatR
namespace Go.Proofs.YtjfcbimbnpfdeaaGreat
open Go.RowKit

set_option maxHeartbeats 400000 in
theorem machineNew_no (words stack : Int) (w : World) (h : words < 64 ∨ 65536 < words ∨ stack < 16 ∨ 65536 < stack) :
    Calls Tryz.prog 18 #[.int .i64 words, .int .i64 stack] w fun e w' => e = .returned (.tuple #[.pointer none, .int .i64 1]) ∧ Below w.heap.size w w' := by
  by_cases h1 : words < 64 ∨ 65536 < words
  · go_enter Tryz.func18, Tryz.ntmps18
    go_wp2_with (go_at_call 45; refine (memNew_no _ _ h1).mono ?_; rintro e w' ⟨rfl, rfl⟩)
    go_ret2
    exact ⟨rfl, Below.refl _ _⟩
  · have h2 : 64 ≤ words := by omega
    have h3 : words ≤ 65536 := by omega
    by_cases h4 : stack < 16
    · go_enter Tryz.func18, Tryz.ntmps18
      go_wp2_with (go_at_call 45; refine (memNew_ok _ _ h2 h3).mono ?_; rintro e w' ⟨rfl, rfl⟩)
      go_ret2
      exact ⟨rfl, ((Below.refl _ _).alloc (Nat.le_refl _) _).alloc (by simp) _⟩
    · have h5 : 65536 < stack := by omega
      go_enter Tryz.func18, Tryz.ntmps18
      go_wp2_with (go_at_call 45; refine (memNew_ok _ _ h2 h3).mono ?_; rintro e w' ⟨rfl, rfl⟩)
      go_ret2
      exact ⟨rfl, ((Below.refl _ _).alloc (Nat.le_refl _) _).alloc (by simp) _⟩

theorem machineValue (gx m : Nat) (stack : Int) (regs : List Int) (fv kv gv : Value) (entry value used budget steps : Int) (w : World) (hr : regs.length = 16)
    (h : w.heap[gx]? = some (.cells (macCells m stack regs fv kv gv entry value used budget steps) 94 (0, 0))) :
    Calls Tryz.prog 24 #[.pointer (some ⟨gx, 0, none⟩)] w fun e w' => e = .returned (.int .u64 value) ∧ w = w' := by
  have c := (cell_of_row _ _ _ _ _ _ h).trans (mac_tail (m := m) (stack := stack) (fv := fv) (kv := kv) (gv := gv) (entry := entry) (value := value) (used := used) (budget := budget) (steps := steps) hr 4)
  have c22 : w.cell? ⟨gx, 22, none⟩ = some (.int .u64 value) := c
  go_enter Tryz.func24, Tryz.ntmps24
  go_wp2
  go_ret
  exact ⟨rfl, rfl⟩

set_option maxRecDepth 100000 in
set_option maxHeartbeats 400000 in
theorem machineGlobal (gx m gg : Nat) (stack : Int) (regs : List Int) (fv kv : Value) (entry value used budget steps : Int) (gl : List Int) (k : Nat) (w : World) (hr : regs.length = 16)
    (h : w.heap[gx]? = some (.cells (macCells m stack regs fv kv (.slice (some ⟨gg, 0, none⟩) 1024 1024) entry value used budget steps) 94 (0, 0)))
    (hg : Rw w 51 .u64 (.slice (some ⟨gg, 0, none⟩) 1024 1024) gl) (hl : gl.length = 1024) (hk : k < 1024) :
    Calls Tryz.prog 25 #[.pointer (some ⟨gx, 0, none⟩), .int .i64 k] w fun e w' => e = .returned (.int .u64 (gl.getD k 0)) ∧ w = w' := by
  have c := (cell_of_row _ _ _ _ _ _ h).trans (mac_tail (m := m) (stack := stack) (fv := fv) (kv := kv) (gv := (.slice (some ⟨gg, 0, none⟩) 1024 1024)) (entry := entry) (value := value) (used := used) (budget := budget) (steps := steps) hr 2)
  have c20 : w.cell? ⟨gx, 20, none⟩ = some (.slice (some ⟨gg, 0, none⟩) 1024 1024) := c
  obtain ⟨ga, cap, hh, _, _, hcell, _⟩ := hg.some_ (by omega)
  injection hh with hh
  injection hh with hh
  injection hh with hh
  subst hh
  have hc := hcell k (by omega)
  clear hcell c hg h
  have hk0 : ¬ (k : Int) < 0 := by omega
  have hk1 : ¬ (1024 : Int) ≤ k := by omega
  have hk2 : (k : Int) < 1024 := by omega
  obtain ⟨y, hy⟩ : ∃ y, y = gl.getD k 0 := ⟨_, rfl⟩
  rw [← hy] at hc ⊢
  clear hy hl hr
  go_enter Tryz.func25, Tryz.ntmps25
  go_wp2
  go_ret
  exact ⟨rfl, rfl⟩

theorem machineGlobal_out (gx m gg : Nat) (stack : Int) (regs : List Int) (fv kv : Value) (entry value used budget steps : Int) (k : Int) (w : World) (hr : regs.length = 16)
    (h : w.heap[gx]? = some (.cells (macCells m stack regs fv kv (.slice (some ⟨gg, 0, none⟩) 1024 1024) entry value used budget steps) 94 (0, 0)))
    (hk : k < 0 ∨ 1024 ≤ k) :
    Calls Tryz.prog 25 #[.pointer (some ⟨gx, 0, none⟩), .int .i64 k] w fun e w' => e = .returned (.int .u64 1) ∧ w = w' := by
  have c := (cell_of_row _ _ _ _ _ _ h).trans (mac_tail (m := m) (stack := stack) (fv := fv) (kv := kv) (gv := (.slice (some ⟨gg, 0, none⟩) 1024 1024)) (entry := entry) (value := value) (used := used) (budget := budget) (steps := steps) hr 2)
  have c20 : w.cell? ⟨gx, 20, none⟩ = some (.slice (some ⟨gg, 0, none⟩) 1024 1024) := c
  clear c h
  rcases hk with hk | hk
  · go_enter Tryz.func25, Tryz.ntmps25
    go_wp2_with (go_at_call 46; refine (numInt _ _).mono ?_; rintro e w' ⟨rfl, rfl⟩; rw [wInt_zero])
    go_ret
    exact ⟨rfl, rfl⟩
  · have : ¬ k < 0 := by omega
    go_enter Tryz.func25, Tryz.ntmps25
    go_wp2_with (go_at_call 46; refine (numInt _ _).mono ?_; rintro e w' ⟨rfl, rfl⟩; rw [wInt_zero])
    go_ret
    exact ⟨rfl, rfl⟩

theorem machineRun_no (gx g gg mb : Nat) (words stack a b c : Int) (w : World) (h : Fresh w gx g gg mb words stack) :
    Calls Tryz.prog 17 #[.pointer (some ⟨gx, 0, none⟩), .int .i64 a, .int .i64 b, .int .i64 c] w fun e w' => e = .returned (.agg #[.int .i64 0, .int .i64 0]) ∧ Below w.heap.size w w' := by
  have c21 : w.cell? ⟨gx, 21, none⟩ = some (.int .u64 1) := (cell_of_row _ _ _ _ _ _ h.mac).trans (mac_tail (by rfl) 3)
  have hlt := h.lt.1
  clear h
  go_enter Tryz.func17, Tryz.ntmps17
  go_wp2
  refine bodyPost_ret (v := .agg #[.int .i64 0, .int .i64 0]) (by simp [results, Tryz.results17, go_sem]) rfl ?_
  refine ⟨rfl, ?_⟩
  exact (Below.refl _ _).alloc (Nat.le_refl _) _
end Go.Proofs.YtjfcbimbnpfdeaaGreat

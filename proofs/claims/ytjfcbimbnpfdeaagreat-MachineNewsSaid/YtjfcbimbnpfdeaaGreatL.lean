/- machine.New. -/
import Derived.Test.YtjfcbimbnpfdeaaGreatK
import Derived.Outline
namespace Go.Proofs.YtjfcbimbnpfdeaaGreat
open Go.RowKit

set_option maxHeartbeats 400000 in
theorem memNew_ok (n : Int) (w : World) (h0 : 64 ≤ n) (h1 : n ≤ 65536) :
    Calls Tryz.prog 45 #[.int .i64 n] w fun e w' => e = .returned (.tuple #[.pointer (some ⟨w.heap.size + 1, 0, none⟩), .int .i64 0]) ∧
      w' = (w.alloc (.map #[] 0)).alloc (.cells (memCells n 0 1 (.slice none 0 0) (.slice none 0 0) (n+1) (.slice none 0 0) (.slice none 0 0) w.heap.size) 129) := by
  have hmm := @run_makeMap Tryz.prog
  go_enter Tryz.func45, Tryz.ntmps45
  go_wp2
  go_ret2
  exact ⟨rfl, rfl⟩
theorem memNew_no (n : Int) (w : World) (h0 : n < 64 ∨ 65536 < n) :
    Calls Tryz.prog 45 #[.int .i64 n] w fun e w' => e = .returned (.tuple #[.pointer none, .int .i64 1]) ∧ w' = w := by
  rcases h0 with h0 | h0
  · go_enter Tryz.func45, Tryz.ntmps45
    go_wp2
    go_ret2
    exact ⟨rfl, rfl⟩
  · have : ¬ n < 64 := by omega
    go_enter Tryz.func45, Tryz.ntmps45
    go_wp2
    go_ret2
    exact ⟨rfl, rfl⟩

/-- A machine as it is new, or idle, with its memory: what lies where. -/
structure Fresh (w : World) (gx g gg mb : Nat) (words stack : Int) : Prop where
  mac : w.heap[gx]? = some (.cells (macCells g stack ones (.slice none 0 0) (.slice none 0 0) (.slice (some ⟨gg, 0, none⟩) 1024 1024) 1 1 0 0 0) 94 (0, 0))
  mem : w.heap[g]? = some (.cells (memCells words 0 1 (.slice none 0 0) (.slice none 0 0) (words + 1) (.slice none 0 0) (.slice none 0 0) mb) 129 (0, 0))
  map : w.heap[mb]? = some (.map #[] 0)
  glob : Rw w 51 .u64 (.slice (some ⟨gg, 0, none⟩) 1024 1024) (List.replicate 1024 1)

def partG (k : Nat) : List Int := List.replicate k 1 ++ List.replicate (1024 - k) 0
theorem partG_len (k : Nat) (hk : k ≤ 1024) : (partG k).length = 1024 := by simp [partG]; omega
theorem partG_set (k : Nat) (hk : k < 1024) : (partG k).set k 1 = partG (k + 1) := by
  unfold partG
  rw [List.set_append_right _ _ (by simp), List.length_replicate, Nat.sub_self, show 1024 - k = (1024 - (k + 1)) + 1 by omega, List.replicate_succ, List.set_cons_zero, List.replicate_succ' (n := k)]
  simp

def macNew (g : Nat) (stack : Int) (gg : Nat) : Array Value := macCells g stack (List.replicate 16 0) (.slice none 0 0) (.slice none 0 0) (.slice (some ⟨gg, 0, none⟩) 1024 1024) 0 0 0 0 0
structure Newing (w wr : World) (words stack : Int) (k : Nat) : Prop where
  mac : wr.heap[w.heap.size + 3]? = some (.cells (macNew (w.heap.size + 1) stack (w.heap.size + 2)) 94 (0, 0))
  mem : wr.heap[w.heap.size + 1]? = some (.cells (memCells words 0 1 (.slice none 0 0) (.slice none 0 0) (words + 1) (.slice none 0 0) (.slice none 0 0) w.heap.size) 129 (0, 0))
  map : wr.heap[w.heap.size]? = some (.map #[] 0)
  glob : Rw wr 51 .u64 (.slice (some ⟨w.heap.size + 2, 0, none⟩) 1024 1024) (partG k)
  kp : Kp (fun _ => False) w wr
theorem newing_start (w : World) (words stack : Int) : Newing w ((((w.alloc (.map #[] 0)).alloc (.cells (memCells words 0 1 (.slice none 0 0) (.slice none 0 0) (words+1) (.slice none 0 0) (.slice none 0 0) w.heap.size) 129)).alloc (.cells (madeCells #[.int .u64 0] 1024) 51)).alloc (.cells (macNew (w.heap.size + 1) stack (w.heap.size + 2)) 94)) words stack 0 := by
  obtain ⟨A, hA⟩ : ∃ A, A = w.alloc (.map #[] 0) := ⟨_, rfl⟩
  obtain ⟨B, hB⟩ : ∃ B, B = A.alloc (.cells (memCells words 0 1 (.slice none 0 0) (.slice none 0 0) (words+1) (.slice none 0 0) (.slice none 0 0) w.heap.size) 129) := ⟨_, rfl⟩
  obtain ⟨C, hC⟩ : ∃ C, C = B.alloc (.cells (madeCells #[.int .u64 0] 1024) 51) := ⟨_, rfl⟩
  rw [← hA, ← hB, ← hC]
  have sA : A.heap.size = w.heap.size + 1 := by rw [hA]; simp
  have sB : B.heap.size = w.heap.size + 2 := by rw [hB]; simp [sA]
  have sC : C.heap.size = w.heap.size + 3 := by rw [hC]; simp [sB]
  have kA : Kp (fun _ => False) w A := by rw [hA]; exact (Kp.refl _ _).alloc _
  have kB : Kp (fun _ => False) A B := by rw [hB]; exact (Kp.refl _ _).alloc _
  have kC : Kp (fun _ => False) B C := by rw [hC]; exact (Kp.refl _ _).alloc _
  have kD : Kp (fun _ => False) C (C.alloc (.cells (macNew (w.heap.size + 1) stack (w.heap.size + 2)) 94)) := (Kp.refl _ _).alloc _
  have a0 : A.heap[w.heap.size]? = some (.map #[] 0) := by rw [hA]; exact heap_alloc_new w _
  have b0 := heap_alloc_new A (.cells (memCells words 0 1 (.slice none 0 0) (.slice none 0 0) (words+1) (.slice none 0 0) (.slice none 0 0) w.heap.size) 129)
  rw [← hB, sA] at b0
  have c0 := Rw.made B 51 1024 (by omega)
  rw [← hC, sB] at c0
  have d0 := heap_alloc_new C (.cells (macNew (w.heap.size + 1) stack (w.heap.size + 2)) 94)
  rw [sC] at d0
  exact ⟨d0, kD.at_ (kC.at_ b0 id) id, kD.at_ (kC.at_ (kB.at_ a0 id) id) id, c0.kp kD (fun _ _ h => h), ((kA.trans kB (fun _ h => h.elim)).trans kC (fun _ h => h.elim)).trans kD (fun _ h => h.elim)⟩

set_option maxRecDepth 100000 in
set_option maxHeartbeats 2000000 in
theorem machineNew (words stack : Int) (w : World) (h0 : 64 ≤ words) (h1 : words ≤ 65536) (h2 : 16 ≤ stack) (h3 : stack ≤ 65536) :
    Calls Tryz.prog 18 #[.int .i64 words, .int .i64 stack] w fun e w' => e = .returned (.tuple #[.pointer (some ⟨w.heap.size + 3, 0, none⟩), .int .i64 0]) ∧
      Fresh w' (w.heap.size + 3) (w.heap.size + 1) (w.heap.size + 2) w.heap.size words stack ∧ Kp (fun _ => False) w w' := by
  have hmk : ∀ W : World, (Instr.makeSlice 43 (.int .i64 1024) (.int .i64 1024)).run Tryz.prog W = .ok (.slice (some ⟨W.heap.size, 0, none⟩) 1024 1024) (W.alloc (.cells (madeCells #[.int .u64 0] 1024) 51)) := fun W => run_make_row' (P := Tryz.prog) 43 51 (.int .u64 0) 8 Tryz.underlying43 info51 rfl .i64 .i64 1024 (by omega) (by omega) W
  have HN := Lib.hid (newing_start w words stack)
  go_enter Tryz.func18, Tryz.ntmps18
  go_wp2_with (go_at_call 45; refine (memNew_ok _ _ h0 h1).mono ?_; rintro e w' ⟨rfl, rfl⟩)
  go_loopw [35, 9] (fun i _ wr => ∃ k : Nat, k ≤ 1024 ∧ i = .int .i64 k ∧ Newing w wr words stack k) (fun i _ _ => 1024 - (intOf i).toNat)
  case atStart => exact ⟨0, by omega, rfl, HN.out⟩
  case round =>
    obtain ⟨k, hk, rfl, hn⟩ := hrel
    clear HN
    have hlen := partG_len k hk
    by_cases hlt : k < 1024
    · have c20 : wr.drew.cell? ⟨w.heap.size + 3, 20, none⟩ = some (.slice (some ⟨w.heap.size + 2, 0, none⟩) 1024 1024) := (cell_of_row _ _ _ _ _ _ hn.mac).trans (mac_tail (by rfl) 2)
      go_wp2
      go_still_tail 7, (by kernel_rfl)
      still_call (still_of (numInt _ _))
      rw [wInt_zero]
      repeat still_step
      refine wpStill_nil ?_
      change wpList _ _ _ _ _ wr.drew
      obtain ⟨gg, cc, hh, _, _, hcell, hfr, hgl⟩ := hn.glob.some_ (by omega)
      obtain rfl : gg = w.heap.size + 2 := by injection hh with hh; injection hh with hh; injection hh with hh; exact hh.symm
      clear hh
      have hc : wr.drew.cell? ⟨w.heap.size + 2, k, none⟩ = some (.int .u64 ((partG k).getD k 0)) := hcell k (by omega)
      have hf : wr.drew.frozen? ⟨w.heap.size + 2, k, none⟩ = false := hfr k
      have hn' : Newing w (wr.drew.setCell ⟨w.heap.size + 2, k, none⟩ (.int .u64 1)) words stack (k + 1) := by
        have kk : Kp (fun i => i = w.heap.size + 2) wr (wr.drew.setCell ⟨w.heap.size + 2, k, none⟩ (.int .u64 1)) := ((Kp.refl (fun i => i = w.heap.size + 2) wr).drew).setCell (p := ⟨w.heap.size + 2, k, none⟩) (.inl rfl) _
        have r3 := (show Rw wr.drew 51 .u64 (.slice (some ⟨w.heap.size + 2, 0, none⟩) (partG k).length 1024) (partG k) by rw [hlen]; exact hn.glob).set k 1
        rw [partG_set k hlt, hlen] at r3
        exact ⟨kk.at_ hn.mac (by omega), kk.at_ hn.mem (by omega), kk.at_ hn.map (by omega), r3, hn.kp.trans kk (fun i hi => .inr (by omega))⟩
      clear hcell hfr hn hlen
      generalize wr.drew = w2 at *
      go_wp2
      go_roundw
      case rel => exact ⟨k + 1, by omega, by go_num, hn'⟩
      case measure => simp [intOf]; omega
    · have hk16 : k = 1024 := by omega
      subst hk16
      clear hlen
      go_wp2_with fail
      refine (machineIdle0 (w.heap.size + 3) (w.heap.size + 1) stack (List.replicate 16 0) _ _ _ 0 0 0 0 wr rfl hn.mac).mono ?_
      rintro e w1 ⟨rfl, p1, p2⟩
      have kf : Kp (fun _ => False) w w1 := hn.kp.trans p2 (fun i hi => .inr (by omega))
      have ff : Fresh w1 (w.heap.size + 3) (w.heap.size + 1) (w.heap.size + 2) w.heap.size words stack :=
        ⟨p1, p2.at_ hn.mem (by omega), p2.at_ hn.map (by omega), hn.glob.kp p2 (fun b hb => by cases hb; show ¬ w.heap.size + 2 = w.heap.size + 3; omega)⟩
      clear hn p1 p2
      go_wp2
      go_ret2
      exact ⟨rfl, ff, kf⟩
end Go.Proofs.YtjfcbimbnpfdeaaGreat

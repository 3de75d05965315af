/- A copy of an empty memory. -/
import Derived.Test.YtjfcbimbnpfdeaaGreatS
namespace Go.Proofs.YtjfcbimbnpfdeaaGreat
open Go.RowKit

set_option maxHeartbeats 400000 in
theorem copied_nil (f : Int) (w : World) :
    Calls Tryz.prog 71 #[.agg #[.int .i64 f, .slice none 0 0, .slice none 0 0]] w fun e w' => e = .returned (.agg #[.int .i64 f, .slice none 0 0, .slice none 0 0]) ∧ Below w.heap.size w w' := by
  go_enter Tryz.func71, Tryz.ntmps71
  go_wp2
  refine bodyPost_ret (v := .agg #[.int .i64 f, .slice none 0 0, .slice none 0 0]) (by simp [results, Tryz.results71, go_sem]) rfl ?_
  exact ⟨rfl, ((Below.refl _ _).alloc (Nat.le_refl _) _).alloc (by simp) _⟩

/-- The empty memory and its struct's copy, in the midst of Copy. -/
structure CopyAt (w : World) (g mb : Nat) (words f2 : Int) (W : World) : Prop where
  src : W.heap[g]? = some (.cells (memCells words 0 1 (.slice none 0 0) (.slice none 0 0) f2 (.slice none 0 0) (.slice none 0 0) mb) 129 (0, 0))
  dst : W.heap[w.heap.size]? = some (.cells (memCells words 0 1 (.slice none 0 0) (.slice none 0 0) f2 (.slice none 0 0) (.slice none 0 0) mb) 129 (0, 0))
  map : W.heap[mb]? = some (.map #[] 0)
  bel : Below w.heap.size w W
theorem CopyAt.call {w W W' : World} {g mb : Nat} {words f2 : Int} (h : CopyAt w g mb words f2 W) (hb : Below W.heap.size W W') : CopyAt w g mb words f2 W' :=
  ⟨(hb.block g (at_lt h.src)).trans h.src, (hb.block _ (at_lt h.dst)).trans h.dst, (hb.block _ (at_lt h.map)).trans h.map, h.bel.trans (hb.mono h.bel.size)⟩
theorem mem_cells {W : World} {g mb : Nat} {words f2 : Int} (h : W.heap[g]? = some (.cells (memCells words 0 1 (.slice none 0 0) (.slice none 0 0) f2 (.slice none 0 0) (.slice none 0 0) mb) 129 (0, 0))) :
    W.cell? ⟨g, 0, none⟩ = some (.int .i64 words) ∧ W.cell? ⟨g, 1, none⟩ = some (.int .i64 0) ∧ W.cell? ⟨g, 2, none⟩ = some (.int .i64 1) ∧ W.cell? ⟨g, 3, none⟩ = some (.slice none 0 0) ∧ W.cell? ⟨g, 4, none⟩ = some (.slice none 0 0) ∧
    W.cell? ⟨g, 5, none⟩ = some (.int .i64 f2) ∧ W.cell? ⟨g, 6, none⟩ = some (.slice none 0 0) ∧ W.cell? ⟨g, 7, none⟩ = some (.slice none 0 0) ∧ W.cell? ⟨g, 8, none⟩ = some (.map (some mb)) ∧ ∀ j, W.frozen? ⟨g, j, none⟩ = false :=
  have c : ∀ j, W.cell? ⟨g, j, none⟩ = (memCells words 0 1 (.slice none 0 0) (.slice none 0 0) f2 (.slice none 0 0) (.slice none 0 0) mb)[j]? := fun _ => cell_of_row _ _ _ _ _ _ h
  ⟨c 0, c 1, c 2, c 3, c 4, c 5, c 6, c 7, c 8, fun _ => frozen_of_row _ _ _ _ _ h⟩

theorem CopyAt.sets {w W : World} {g mb : Nat} {words f2 : Int} (h : CopyAt w g mb words f2 W) (hg : g < w.heap.size) (hm : mb < w.heap.size) :
    ∃ W3, W3 = ((((((W.setCell ⟨w.heap.size, 2, none⟩ (.int .i64 1)).setCell ⟨w.heap.size, 3, none⟩ (.slice none 0 0)).setCell ⟨w.heap.size, 4, none⟩ (.slice none 0 0)).setCell ⟨w.heap.size, 5, none⟩ (.int .i64 f2)).setCell ⟨w.heap.size, 6, none⟩ (.slice none 0 0)).setCell ⟨w.heap.size, 7, none⟩ (.slice none 0 0)) ∧ CopyAt w g mb words f2 W3 := by
  have k : Kp (fun i => i = w.heap.size) W ((((((W.setCell ⟨w.heap.size, 2, none⟩ (.int .i64 1)).setCell ⟨w.heap.size, 3, none⟩ (.slice none 0 0)).setCell ⟨w.heap.size, 4, none⟩ (.slice none 0 0)).setCell ⟨w.heap.size, 5, none⟩ (.int .i64 f2)).setCell ⟨w.heap.size, 6, none⟩ (.slice none 0 0)).setCell ⟨w.heap.size, 7, none⟩ (.slice none 0 0)) :=
    ((((((Kp.refl (fun i => i = w.heap.size) W).setCell (.inl rfl) _).setCell (.inl rfl) _).setCell (.inl rfl) _).setCell (.inl rfl) _).setCell (.inl rfl) _).setCell (.inl rfl) _
  have d2 := heap_setCell_same W _ 2 _ _ (.int .i64 1) h.dst
  have d3 := heap_setCell_same _ _ 3 _ _ (.slice none 0 0) d2
  have d4 := heap_setCell_same _ _ 4 _ _ (.slice none 0 0) d3
  have d5 := heap_setCell_same _ _ 5 _ _ (.int .i64 f2) d4
  have d6 := heap_setCell_same _ _ 6 _ _ (.slice none 0 0) d5
  have d7 := heap_setCell_same _ _ 7 _ _ (.slice none 0 0) d6
  exact ⟨_, rfl, k.at_ h.src (by omega), d7, k.at_ h.map (by omega), h.bel.trans (k.below (B := w.heap.size) h.bel.size (by rintro i rfl; exact Nat.le_refl _))⟩

theorem run_makeMap0 (w : World) : (Instr.makeMap 127 (some (.int .i64 0))).run Tryz.prog w = .ok (.map (some w.heap.size)) (w.alloc (.map #[] 0)) := by
  simp [Instr.makeMap, go_sem, run_underlying (P := Tryz.prog) (show Tryz.prog.underlying 127 = some (.map 3 3) by kernel_rfl)]

theorem CopyAt.tail {w W3 : World} {g mb : Nat} {words f2 : Int} (hC : CopyAt w g mb words f2 W3) (hg : g < w.heap.size) (hm : mb < w.heap.size) :
    (Builtin.len_ #[127] 3 #[Value.map (some mb)]).run Tryz.prog W3 = .ok (.int .i64 0) W3 ∧
    ∃ W4, W4 = (W3.setCell ⟨w.heap.size, 8, none⟩ (.map (some W3.heap.size))).alloc (.map #[] 0) ∧ W4.cell? ⟨g, 8, none⟩ = some (.map (some mb)) ∧
      (Instr.range 127 (.map (some mb))).run Tryz.prog W4 = .ok (.pointer (some ⟨W3.heap.size + 1, 0, none⟩)) (W4.alloc (.mapIter (some mb) 0 #[] 0)) ∧
      (∀ ty, (Instr.next (.pointer (some ⟨W3.heap.size + 1, 0, none⟩)) false ty).run Tryz.prog (W4.alloc (.mapIter (some mb) 0 #[] 0)) = .ok (.tuple #[.bool false]) (W4.alloc (.mapIter (some mb) 0 #[] 0))) ∧
      w.heap.size ≤ W3.heap.size ∧
      (W4.alloc (.mapIter (some mb) 0 #[] 0)).heap[w.heap.size]? = some (.cells (memCells words 0 1 (.slice none 0 0) (.slice none 0 0) f2 (.slice none 0 0) (.slice none 0 0) W3.heap.size) 129 (0, 0)) ∧
      (W4.alloc (.mapIter (some mb) 0 #[] 0)).heap[W3.heap.size]? = some (.map #[] 0) ∧ Below w.heap.size w (W4.alloc (.mapIter (some mb) 0 #[] 0)) := by
  have hs3 := hC.bel.size
  have hd3 := at_lt hC.dst
  have hln : (Builtin.len_ #[127] 3 #[Value.map (some mb)]).run Tryz.prog W3 = .ok (.int .i64 0) W3 := run_len_map (t := 127) (ty := 3) (r := mb) (es := #[]) (clock := 0) (h := by kernel_rfl) (hb := hC.map)
  obtain ⟨W4, hW4⟩ : ∃ W4, W4 = (W3.setCell ⟨w.heap.size, 8, none⟩ (.map (some W3.heap.size))).alloc (.map #[] 0) := ⟨_, rfl⟩
  have hk4 : Kp (fun i => i = w.heap.size) W3 W4 := by rw [hW4]; exact ((Kp.refl (fun i => i = w.heap.size) W3).setCell (p := ⟨w.heap.size, 8, none⟩) (.inl rfl) _).alloc _
  have hm4 := hk4.at_ hC.map (by omega)
  have k : Kp (fun _ => False) (W3.setCell ⟨w.heap.size, 8, none⟩ (.map (some W3.heap.size))) W4 := by rw [hW4]; exact (Kp.refl _ _).alloc _
  have hn4 : W4.heap[W3.heap.size]? = some (.map #[] 0) := by
    have := heap_alloc_new (W3.setCell ⟨w.heap.size, 8, none⟩ (.map (some W3.heap.size))) (.map #[] 0)
    rw [hW4]
    simpa using this
  have hd4 : W4.heap[w.heap.size]? = some (.cells (memCells words 0 1 (.slice none 0 0) (.slice none 0 0) f2 (.slice none 0 0) (.slice none 0 0) W3.heap.size) 129 (0, 0)) :=
    k.at_ (heap_setCell_same _ _ 8 _ _ (.map (some W3.heap.size)) hC.dst) id
  have hb4 : Below w.heap.size w W4 := hC.bel.trans (hk4.below (B := w.heap.size) hs3 (by rintro i rfl; exact Nat.le_refl _))
  have hc8 : W4.cell? ⟨g, 8, none⟩ = some (.map (some mb)) := cell_of_row _ _ _ _ _ _ (hk4.at_ hC.src (by omega))
  have hrg := run_range_map (P := Tryz.prog) W4 127 3 3 mb #[] 0 (by kernel_rfl) hm4
  have hz4 : W4.heap.size = W3.heap.size + 1 := by rw [hW4]; simp
  rw [hz4] at hrg
  have k5 : Kp (fun _ => False) W4 (W4.alloc (.mapIter (some mb) 0 #[] 0)) := (Kp.refl _ _).alloc _
  refine ⟨hln, W4, hW4, hc8, hrg, fun ty => ?_, hs3, k5.at_ hd4 id, k5.at_ hn4 id, hb4.trans (k5.below (B := w.heap.size) hb4.size (fun _ h => h.elim))⟩
  rcases run_next_at (P := Tryz.prog) (W4.alloc (.mapIter (some mb) 0 #[] 0)) ty (W3.heap.size + 1) mb 0 0 #[] #[] 0 (by rw [← hz4]; exact heap_alloc_new W4 _) (k5.at_ hm4 id) (by simp) (Nat.le_refl _) with ⟨_, h⟩ | ⟨e, he, _⟩
  · exact h
  · simp [leftOf] at he

set_option maxRecDepth 100000 in
set_option maxHeartbeats 4000000 in
theorem memCopy_nil (g mb : Nat) (words f2 : Int) (w : World) (hm : w.heap[g]? = some (.cells (memCells words 0 1 (.slice none 0 0) (.slice none 0 0) f2 (.slice none 0 0) (.slice none 0 0) mb) 129 (0, 0))) (hb : w.heap[mb]? = some (.map #[] 0)) :
    Calls Tryz.prog 41 #[.pointer (some ⟨g, 0, none⟩)] w fun e w' => ∃ g' mb', e = .returned (.pointer (some ⟨g', 0, none⟩)) ∧ w.heap.size ≤ g' ∧ w.heap.size ≤ mb' ∧
      w'.heap[g']? = some (.cells (memCells words 0 1 (.slice none 0 0) (.slice none 0 0) f2 (.slice none 0 0) (.slice none 0 0) mb') 129 (0, 0)) ∧ w'.heap[mb']? = some (.map #[] 0) ∧ Below w.heap.size w w' := by
  have hlt := at_lt hm
  have hltb := at_lt hb
  obtain ⟨c0, c1, c2, c3, c4, c5, c6, c7, c8, -⟩ := mem_cells hm
  have hb0 : Below w.heap.size w (w.alloc (.cells (memCells words 0 1 (.slice none 0 0) (.slice none 0 0) f2 (.slice none 0 0) (.slice none 0 0) mb) 129)) := (Below.refl _ _).alloc (Nat.le_refl _) _
  have hC : CopyAt w g mb words f2 (w.alloc (.cells (memCells words 0 1 (.slice none 0 0) (.slice none 0 0) f2 (.slice none 0 0) (.slice none 0 0) mb) 129)) :=
    ⟨(hb0.block g hlt).trans hm, heap_alloc_new w _, (hb0.block mb hltb).trans hb, hb0⟩
  go_enter Tryz.func41, Tryz.ntmps41
  go_wp2
  clear c0 c1 c2 c3 c4 c5 c6 c7 c8 hb0
  change Code.wp _ _ _ _ (w.alloc (.cells (memCells words 0 1 (.slice none 0 0) (.slice none 0 0) f2 (.slice none 0 0) (.slice none 0 0) mb) 129))
  generalize w.alloc (.cells (memCells words 0 1 (.slice none 0 0) (.slice none 0 0) f2 (.slice none 0 0) (.slice none 0 0) mb) 129) = W at *
  have hC : CopyAt w g mb words f2 W.drew := hC.call ((Below.refl _ _).drew)
  obtain ⟨_, _, c2, c3, c4, c5, c6, c7, _⟩ := mem_cells hC.src
  obtain ⟨_, _, d2, d3, d4, d5, d6, d7, _, df⟩ := mem_cells hC.dst
  go_region_with (go_at_call 71; refine (copied_nil _ _).mono ?_; rintro e w1 ⟨rfl, hb1⟩; have hC := CopyAt.call hC hb1; obtain ⟨_, _, c2, c3, c4, c5, c6, c7, _⟩ := mem_cells hC.src; obtain ⟨_, _, d2, d3, d4, d5, d6, d7, _, df⟩ := mem_cells hC.dst)
  all_goals (
    obtain ⟨W3, hW3, hC⟩ := hC.sets hlt hltb
    clear c2 c3 c4 c5 c6 c7 d2 d3 d4 d5 d6 d7 df
    rw [← hW3]
    clear hW3
    obtain ⟨_, _, c2, c3, c4, c5, c6, c7, c8, _⟩ := mem_cells hC.src
    obtain ⟨_, _, d2, d3, d4, d5, d6, d7, d8, df⟩ := mem_cells hC.dst)
  all_goals (
    have hd3 := at_lt hC.dst
    obtain ⟨hln, W4, hW4, hc8, hrg, hnx, hs3, r1, r2, r3⟩ := hC.tail hlt hltb
    subst hW4
    have hmm := run_makeMap0 W3
    go_wp2
    try refine wp_loop_rounds 1 ?_
    try rw [rounds_succ]
    go_wp2
    go_ret
    exact ⟨_, _, rfl, Nat.le_refl _, hs3, r1, r2, r3⟩)

set_option maxHeartbeats 1000000 in
theorem machineMemory_nil (gx g gg mb : Nat) (words stack : Int) (w : World) (h : Fresh w gx g gg mb words stack) :
    Calls Tryz.prog 32 #[.pointer (some ⟨gx, 0, none⟩)] w fun e w' => ∃ g' mb', e = .returned (.pointer (some ⟨g', 0, none⟩)) ∧ w.heap.size ≤ g' ∧ w.heap.size ≤ mb' ∧
      w'.heap[g']? = some (.cells (memCells words 0 1 (.slice none 0 0) (.slice none 0 0) (words + 1) (.slice none 0 0) (.slice none 0 0) mb') 129 (0, 0)) ∧ w'.heap[mb']? = some (.map #[] 0) ∧ Below w.heap.size w w' := by
  have c0 : w.cell? ⟨gx, 0, none⟩ = some (.pointer (some ⟨g, 0, none⟩)) := (cell_of_row _ _ _ _ _ _ h.mac).trans mac_m
  go_enter Tryz.func32, Tryz.ntmps32
  go_wp2_with (go_at_call 41; refine (memCopy_nil g mb words (words + 1) w h.mem h.map).mono ?_; rintro e w' ⟨g', mb', rfl, h1, h2, h3, h4, h5⟩)
  go_ret
  exact ⟨_, _, rfl, h1, h2, h3, h4, h5⟩
end Go.Proofs.YtjfcbimbnpfdeaaGreat

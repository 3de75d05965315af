/- known is true. -/
import Derived.Test.YtjfcbimbnpfdeaaGreatAn
namespace Go.Proofs.YtjfcbimbnpfdeaaGreat
open Go.RowKit

set_option maxHeartbeats 400000 in
theorem lawInt35 (w : World) : Calls Tryz.prog 40 #[.int .i64 (-35)] w fun e w' => e = .returned (.int .u64 (wInt (-35))) ∧ w = w' := by
  go_enter Tryz.func40, Tryz.ntmps40
  go_wp2
  go_ret
  exact ⟨ret_u64 (by decide +kernel), rfl⟩
theorem MachAt.value_is {w : World} {gx : Nat} {M : MS} {L : ML} (h : MachAt w gx M L) : Calls Tryz.prog 24 #[.pointer (some ⟨gx, 0, none⟩)] w fun e w' => e = .returned (.int .u64 M.value) ∧ w = w' :=
  machineValue gx _ _ _ _ _ _ _ _ _ _ _ w h.r16 h.mac
def kRow : Obj := .cells #[.int .i64 1, .int .i64 2, .int .i64 0, .int .i64 0, .int .i64 5, .int .i64 1, .int .i64 3, .int .i64 0, .int .i64 0, .int .i64 (-7), .int .i64 9, .int .i64 2, .int .i64 2, .int .i64 3, .int .i64 0, .int .i64 28, .int .i64 2, .int .i64 0, .int .i64 0, .int .i64 0] 62 (0, 0)
theorem kInsAt {w : World} {g : Nat} (h : w.heap[g]? = some kRow) : InsAt w (.slice (some ⟨g, 0, none⟩) 4 4) kIns := by
  refine ⟨some ⟨g, 0, none⟩, 4, rfl, ?_⟩
  intro k i hi
  have hk : k < 4 := (List.getElem?_eq_some_iff.1 hi).1
  have hc := fun j => cell_of_row w g j _ _ _ h
  refine ⟨g, rfl, ⟨_, h⟩, ?_⟩
  have hcase : k = 0 ∨ k = 1 ∨ k = 2 ∨ k = 3 := by omega
  rcases hcase with rfl | rfl | rfl | rfl <;> (obtain rfl := Option.some.inj hi; exact ⟨hc _, hc _, hc _, hc _, hc _⟩)
set_option maxRecDepth 100000 in
set_option maxHeartbeats 4000000 in
theorem lawKnown (w : World) : Calls Tryz.prog 14 #[] w fun e w' => e = .returned (.bool true) ∧ Below w.heap.size w w' := by
  have heq : ∀ W, (binOp .eql 34 (.agg #[.int .i64 1, .int .i64 4]) (.agg #[.int .i64 1, .int .i64 4])).run Tryz.prog W = .ok (.bool true) W := fun _ => by kernel_rfl
  go_enter Tryz.func14, Tryz.ntmps14
  go_wp2_with fail
  refine (machineNew 64 16 w (by omega) (by omega) (by omega) (by omega)).mono ?_
  rintro e w1 ⟨rfl, hf, k1⟩
  obtain ⟨gx, hgx⟩ : ∃ n, n = w.heap.size + 3 := ⟨_, rfl⟩
  obtain ⟨g, hg⟩ : ∃ n, n = w.heap.size + 1 := ⟨_, rfl⟩
  obtain ⟨gg, hgg⟩ : ∃ n, n = w.heap.size + 2 := ⟨_, rfl⟩
  obtain ⟨mb, hmb⟩ : ∃ n, n = w.heap.size := ⟨_, rfl⟩
  rw [← hgx, ← hg, ← hgg, ← hmb] at hf
  rw [← hgx]
  have Hgx := Lib.hid hgx
  have Hg := Lib.hid hg
  have Hgg := Lib.hid hgg
  have Hmb := Lib.hid hmb
  clear hgx hg hgg hmb
  go_wp2_with fail
  obtain ⟨w2, hw2⟩ : ∃ w2, w2 = (w1.alloc kRow).alloc (.cells #[.slice none 0 0, .slice (some ⟨w1.heap.size, 0, none⟩) 4 4] 60) := ⟨_, rfl⟩
  have k2 : Kp (fun _ => False) w1 w2 := by rw [hw2]; exact ((Kp.refl _ w1).alloc _).alloc _
  have hr2 : w2.heap[w1.heap.size]? = some kRow := by
    rw [hw2]; exact ((Kp.refl (fun _ => False) (w1.alloc kRow)).alloc _).at_ (heap_alloc_new _ _) id
  have hc2 : w2.heap[w1.heap.size + 1]? = some (.cells #[.slice none 0 0, .slice (some ⟨w1.heap.size, 0, none⟩) 4 4] 60 (0, 0)) := by
    have := heap_alloc_new (w1.alloc kRow) (.cells #[.slice none 0 0, .slice (some ⟨w1.heap.size, 0, none⟩) 4 4] 60)
    rw [← hw2] at this
    simpa using this
  unfold kRow at hw2
  rw [← hw2]
  clear hw2
  have hf2 := hf.kp k2
  have hL := machineLoad1 gx g gg mb (w1.heap.size + 1) 64 16 _ kIns w2 hf2 (kInsAt hr2) (by decide) kIns_ok (by decide) hc2 (by omega)
  refine hL.mono ?_
  rintro e w3 ⟨rfl, ⟨wv, hv, hl, hnew, hnew2⟩, k3⟩
  have hm3 := kMach hf2 k3 hl hnew
  clear hl hL hr2 hc2
  have hrun := hm3.run_is 9 0 0 (by omega) (kGoes _) (by decide) (by unfold isW; decide) (by rfl) (0, 0) ⟨by decide, by decide, by decide, rfl⟩ (fun h => by omega) (fun W M L A h hI => kStep _ W gx M L A h hI)
  rw [kRun] at hrun
  have Hrun := Lib.hid hrun
  clear hrun
  go_wp2_with fail
  refine Hrun.out.mono ?_
  rintro e w4 ⟨rfl, M', L', hJ, hm4, t4⟩
  rw [if_pos (.inl rfl)] at hm4
  have hval : M'.value = wInt (-35) := hJ.2.2 rfl
  have hv2 : ∀ W, Kp (fun _ => False) w4 W → Calls Tryz.prog 24 #[.pointer (some ⟨gx, 0, none⟩)] W fun e w' => e = .returned (.int .u64 (wInt (-35))) ∧ W = w' := fun W hW => by
    have := (hm4.still hW).value_is
    rw [hval] at this
    exact this
  have Hv2 := Lib.hid hv2
  have k14 : Kp (fun i => w.heap.size ≤ i) w w4 := by
    refine ((k1.mono (fun _ h => h.elim)).trans k2 (fun _ h => h.elim)).trans k3 (fun i hi => .inl (by have := Hgx.out; have := Hg.out; omega)) |>.trans t4.kp (fun i hi => .inl ?_)
    have e1 := k1.size
    have e2 := k2.size
    have := Hgx.out
    have := Hg.out
    have := Hgg.out
    have := Hmb.out
    rcases hi with hi | hi | hi | hi | hi | ⟨s, hs, hi⟩
    · omega
    · rcases hi with hi | hi | hi | hi | hi | hi
      · simp only at hi; omega
      · simp only at hi; omega
      · have := hnew _ hi; omega
      · have := hnew2 _ hi; omega
      · cases hi
      · cases hi
    · cases hi
    · cases hi
    · have : i = gg := by cases hi; rfl
      omega
    · cases hs
  have Hk := Lib.hid k14
  clear hv2 hval hJ hm4 t4 k14 Hrun hm3 hnew hnew2 k3 hf2 hf k2 k1
  go_wp2_with (first
    | (go_at_call 24; refine (Hv2.out _ ((Kp.refl _ w4).alloc _)).mono ?_; rintro e w' ⟨rfl, rfl⟩)
    | (go_at_call 40; refine (lawInt35 _).mono ?_; rintro e w' ⟨rfl, rfl⟩)
    | fail)
  go_ret
  have hb := Hk.out.below (Nat.le_refl _) (fun i h => h)
  exact ⟨rfl, hb.alloc hb.size _⟩
end Go.Proofs.YtjfcbimbnpfdeaaGreat

/- The reference's State of a new machine; SameWords; the law's same. -/
import Derived.Test.YtjfcbimbnpfdeaaGreatW
namespace Go.Proofs.YtjfcbimbnpfdeaaGreat
open Go.RowKit

set_option maxHeartbeats 400000 in
theorem refWord0 (p : Value) (w : World) :
    Calls Tryz.prog 129 #[.agg #[.bool false, .int .i64 0, .int .i64 0], p] w fun e w' => e = .returned (.slice (some ⟨w.heap.size + 1, 0, none⟩) 2 2) ∧ w' = (w.alloc (.cells #[.bool false, .int .i64 0, .int .i64 0] 71)).alloc (.cells #[.int .u64 1, .int .u64 0] 51) := by
  go_enter Tryz.func129, Tryz.ntmps129
  go_wp2
  go_ret
  exact ⟨rfl, rfl⟩

theorem zrow_cells {w : World} {base : Nat} {v : Value} {n : Nat} (hv : w.ownsRow base 71 3 v n (zwl n)) :
    ∃ A c, v = .slice A n c ∧ ∀ k, k < n → ∃ g, A = some ⟨g, 0, none⟩ ∧ w.cell? ⟨g, k * 3, none⟩ = some (.bool false) ∧ w.cell? ⟨g, k * 3 + 1, none⟩ = some (.int .i64 0) ∧ w.cell? ⟨g, k * 3 + 2, none⟩ = some (.int .i64 0) ∧ g < w.heap.size := by
  rcases hv.2 with ⟨rfl, rfl⟩ | ⟨g, cap, cur, rfl, h2, h3, h4, h5, h6, h7⟩
  · exact ⟨none, 0, rfl, fun k hk => by omega⟩
  · have hz : ∀ j, j < n * 3 → w.cell? ⟨g, j, none⟩ = some (zc j) := by
      intro j hj
      rw [cell_of_row _ _ _ _ _ _ h3]
      have h8 := zwl_get n j hj
      rw [← h7, List.getElem?_take_of_lt hj] at h8
      simpa using h8
    refine ⟨_, _, rfl, fun k hk => ⟨g, rfl, ?_, ?_, ?_, at_lt h3⟩⟩
    · rw [hz _ (by omega)]; unfold zc; rw [if_pos (by omega)]
    · rw [hz _ (by omega)]; unfold zc; rw [if_neg (by omega)]
    · rw [hz _ (by omega)]; unfold zc; rw [if_neg (by omega)]

theorem row2b (w : World) : ∀ j u, (iv .u64 [1, 0])[j]? = some u → ((w.alloc (.cells #[.bool false, .int .i64 0, .int .i64 0] 71)).alloc (.cells #[.int .u64 1, .int .u64 0] 51)).cell? ((⟨w.heap.size + 1, 0, none⟩ : Addr).add j) = some u := by
  have := row2 (w.alloc (.cells #[.bool false, .int .i64 0, .int .i64 0] 71))
  rw [World.size_alloc] at this
  exact this

set_option maxRecDepth 100000 in
set_option maxHeartbeats 4000000 in
theorem refGraph (gy gg : Nat) (words stack : Int) (v : Value) (base : Nat) (w : World) (h : RFresh w gy gg words stack) (hv : w.ownsRow base 71 3 v 1025 (zwl 1025)) :
    Calls Tryz.prog 91 #[.pointer (some ⟨gy, 0, none⟩), v] w fun e w' => ∃ out, e = .returned out ∧ w'.ownsRow w.heap.size 51 1 out 2050 (iv .u64 (gr 1025)) ∧ Below w.heap.size w w' := by
  obtain ⟨i51, hi51, hz0, hz1, hz2⟩ := info_parts info51
  have c2 : ∀ W, Below w.heap.size w W → W.cell? ⟨gy, 2, none⟩ = some (.slice none 0 0) := fun W hW => (hW.cell (p := ⟨gy, 2, none⟩) (at_lt h.mac)).trans (cell_of_row _ _ 2 _ _ _ h.mac)
  have hmk : ∀ W : World, (Instr.makeSlice 68 (.int .i64 0) (.int .i64 0)).run Tryz.prog W = .ok (.slice (some ⟨W.heap.size, 0, none⟩) 0 0) (W.alloc (.cells (madeCells #[.int .i64 0] 0) 3)) := fun W => run_make_row' (P := Tryz.prog) 68 3 (.int .i64 0) 8 Tryz.underlying68 (by kernel_rfl) rfl .i64 .i64 0 (by omega) (by omega) W
  have hO := refOrder gy gg 1025 words stack v base w h hv (by omega)
  obtain ⟨A, c, rfl, hc⟩ := zrow_cells hv
  clear hv
  have Hc := Lib.hid hc
  have C2 := Lib.hid c2
  clear hc c2
  go_enter Tryz.func91, Tryz.ntmps91
  go_wp2_with (first
    | (go_at_call 88; refine hO.mono ?_; rintro e w1 ⟨rfl, b1⟩; have c2 := C2.out w1 b1)
    | fail)
  obtain ⟨W, hW⟩ : ∃ W, W = w1.alloc (.cells (madeCells #[.int .i64 0] 0) 3) := ⟨_, rfl⟩
  have bW : Below w.heap.size w W := by rw [hW]; exact b1.alloc b1.size _
  rw [← hW]
  clear hW hmk hO
  refine wp_loop_rounds 1 ?_
  rw [rounds_succ]
  go_wp2
  go_loopw [9, 8] (fun i out wr => ∃ k : Nat, k ≤ 1025 ∧ i = .int .i64 k ∧ wr.ownsRow w.heap.size 51 1 out (2 * k) (iv .u64 (gr k)) ∧ Below w.heap.size w wr) (fun i _ _ => 1025 - (intOf i).toNat)
  case atStart => exact ⟨0, Nat.zero_le _, rfl, World.ownsRow_nil _ _ _ _, bW⟩
  case round =>
    clear bW b1
    obtain ⟨k, hk, rfl, hown, hB⟩ := hrel
    by_cases hlt : k < 1025
    · obtain ⟨g, rfl, x0, x1, x2, hgl⟩ := Hc.out k hlt
      have y0 := (hB.cell (p := ⟨g, k * 3, none⟩) hgl).trans x0
      have y1 := (hB.cell (p := ⟨g, k * 3 + 1, none⟩) hgl).trans x1
      have y2 := (hB.cell (p := ⟨g, k * 3 + 2, none⟩) hgl).trans x2
      clear x0 x1 x2
      go_wp2_with (first
        | (go_at_call 129; refine (refWord0 _ _).mono ?_; rintro e w' ⟨rfl, rfl⟩)
        | (at_builtin; refine wpList_append_own_at _ rfl (.tmp 44) (.tmp 50) 43 rfl w.heap.size 51 i51 (.int .u64 0) 1 8 Tryz.underlying43 hi51 hz0 hz1 hz2 rfl (by decide) _ (2 * k) (iv .u64 (gr k)) rfl (own_below hown (((Below.refl _ _).alloc (Nat.le_refl _) _).alloc (by simp) _)) ⟨wr.heap.size + 1, 0, none⟩ 2 2 (iv .u64 [1, 0]) rfl rfl (row2b wr) (iv_one _ _) (by unfold maxLen; omega) (by omega) (by have := hB.size; simp; omega) ?_; intro v3 w3 hv3 hg3 _ _)
        | fail)
      have hB3 : Below w.heap.size w w3 := ((hB.alloc hB.size _).alloc (by have := hB.size; simp; omega) _).grown hg3 (by have := hB.size; simp; omega) (fun j hj => own_ge hown hj)
      rw [← iv_append] at hv3
      go_roundw
      case rel => exact ⟨k + 1, by omega, by go_num, hv3, hB3⟩
      case measure => simp [intOf]; omega
    · have hk16 : k = 1025 := by omega
      subst hk16
      rw [show ((1025 : Nat) : Int) = 1025 from rfl]
      go_wp2
      refine wp_loop_rounds 1 ?_
      rw [rounds_succ]
      go_wp2
      go_ret
      exact ⟨_, rfl, hown, hB⟩

set_option maxRecDepth 100000 in
set_option maxHeartbeats 2000000 in
theorem refState (gy gg : Nat) (words stack : Int) (w : World) (h : RFresh w gy gg words stack) :
    Calls Tryz.prog 58 #[.pointer (some ⟨gy, 0, none⟩)] w fun e w' => ∃ out, e = .returned out ∧ w'.ownsRow w.heap.size 51 1 out 2050 (iv .u64 (gr 1025)) ∧ Below w.heap.size w w' := by
  have bd : Below w.heap.size w w.drew := (Below.refl _ w).drew
  have b0 : Below w.heap.size w (w.alloc (.cells #[.bool false, .int .i64 0, .int .i64 0] 71)).drew := ((Below.refl _ w).alloc (Nat.le_refl _) _).drew
  have r0 : ((w.alloc (.cells #[.bool false, .int .i64 0, .int .i64 0] 71)).drew).ownsRow w.heap.size 71 3 (.slice (some ⟨w.heap.size, 0, none⟩) 1 1) 1 (zwl 1) :=
    ⟨rfl, .inr ⟨w.heap.size, 1, _, rfl, Nat.le_refl _, heap_alloc_new w _, Nat.le_refl _, by unfold maxLen; omega, rfl, rfl⟩⟩
  obtain ⟨v1, w1, a1, o1, g1⟩ := append_zero ((w.alloc (.cells #[.bool false, .int .i64 0, .int .i64 0] 71)).drew) w.heap.size (.slice (some ⟨w.heap.size, 0, none⟩) 1 1) 1 1024 1024 ⟨gg, 0, none⟩ r0 (fun j hj => by
    rw [Addr.add_plain, b0.cell (p := ⟨gg, j, none⟩) (at_lt h.glob), cell_of_row _ _ _ _ _ _ h.glob, List.getElem?_toArray]
    exact zwl_get _ _ hj) (by omega) b0.size
  have b1 : Below w.heap.size w w1 := b0.grown g1 b0.size (fun k hk => by cases hk; exact Nat.le_refl _)
  have c : ∀ j, w.drew.cell? ⟨gy, j, none⟩ = (rfCells words stack gg)[j]? := fun j => (bd.cell (p := ⟨gy, j, none⟩) (at_lt h.mac)).trans (cell_of_row _ _ _ _ _ _ h.mac)
  have e7 : w.drew.cell? ⟨gy, 54, none⟩ = some (.slice (some ⟨gg, 0, none⟩) 1024 1024) := c 54
  have e8 : w.drew.cell? ⟨gy, 58, none⟩ = some (.bool false) := c 58
  have e9 : w.drew.cell? ⟨gy, 59, none⟩ = some (.int .i64 0) := c 59
  have e10 : w.drew.cell? ⟨gy, 60, none⟩ = some (.int .i64 0) := c 60
  have e7' : (w.alloc (.cells #[.bool false, .int .i64 0, .int .i64 0] 71)).cell? ⟨gy, 54, none⟩ = some (.slice (some ⟨gg, 0, none⟩) 1024 1024) := (b0.cell (p := ⟨gy, 54, none⟩) (at_lt h.mac)).trans (cell_of_row _ _ 54 _ _ _ h.mac)
  clear c
  have hG := refGraph gy gg words stack v1 _ w1 (h.below b1) o1
  go_enter Tryz.func58, Tryz.ntmps58
  go_wp2
  go_region_law (first | (refine step_append_run (.tmp 8) (.tmp 12) 76 rfl rfl rfl rfl a1 ?_) | (go_simp; go_at_call 91; refine hG.mono ?_; rintro e w2 ⟨out, rfl, o2, b2⟩))
  all_goals go_wp2
  all_goals refine bodyPost_ret (results_tmp rfl _ _ _) rfl ?_
  all_goals exact ⟨_, rfl, by first | exact ⟨o2.1, o2.2.imp id fun ⟨g, cap, cur, h1, h2, h3⟩ => ⟨g, cap, cur, h1, Nat.le_trans b1.size h2, h3⟩⟩, b1.trans (b2.mono b1.size)⟩

set_option maxRecDepth 100000 in
set_option maxHeartbeats 1000000 in
theorem sameWords_yes (u v : Value) (xs : List Int) (w : World) (hu : Rw w 51 .u64 u xs) (hv : Rw w 51 .u64 v xs) (hn : xs.length ≤ 1000000) :
    Calls Tryz.prog 21 #[u, v] w fun e w' => e = .returned (.bool true) ∧ Below w.heap.size w w' := by
  have Hu := Lib.hid hu
  have Hv := Lib.hid hv
  obtain ⟨A, c, rfl, hc1, hc2⟩ := hu.len
  obtain ⟨A', c', rfl, hc1', hc2'⟩ := hv.len
  obtain ⟨n, hN⟩ : ∃ n, n = xs.length := ⟨_, rfl⟩
  have HN := Lib.hid hN
  rw [← hN] at hc1 hc1' hn ⊢
  clear hN hu hv
  go_enter Tryz.func21, Tryz.ntmps21
  go_wp2
  go_loopw [5] (fun i wr => ∃ k : Nat, k ≤ n ∧ i = .int .i64 k ∧ Below w.heap.size w wr) (fun i _ => n - (intOf i).toNat)
  case atStart => exact ⟨0, Nat.zero_le _, rfl, Below.refl _ _⟩
  case round =>
    obtain ⟨k, hk, rfl, hB⟩ := hrel
    by_cases hlt : k < n
    · have hN := HN.out
      obtain ⟨g1, cap1, hh, _, _, hc1, _, hg1⟩ := Hu.out.some_ (by omega)
      injection hh with hh _ hh2
      subst hh hh2
      obtain ⟨g2, cap2, hh, _, _, hc2, _, hg2⟩ := Hv.out.some_ (by omega)
      injection hh with hh _ hh2
      subst hh hh2
      have x1 := (hB.cell (p := ⟨g1, k, none⟩) hg1).trans (hc1 k (by omega))
      have x2 := (hB.cell (p := ⟨g2, k, none⟩) hg2).trans (hc2 k (by omega))
      obtain ⟨y, hy⟩ : ∃ y, y = xs.getD k 0 := ⟨_, rfl⟩
      rw [← hy] at x1 x2
      clear hc1 hc2 hN hy
      go_wp2
      go_quiet (fail)
      go_wp2
      go_roundw
      case rel => exact ⟨k + 1, by omega, by go_num, hB.trans (((Kp.refl (fun _ => False) wr).drewN _).below hB.size (fun _ h => h.elim))⟩
      case measure => simp [intOf]; omega
    · have hk16 : k = n := by omega
      subst hk16
      go_wp2
      go_ret
      exact ⟨rfl, hB⟩

theorem Rw.of_base_below {w W : World} {n : Nat} {v : Value} {xs : List Int} {l : Nat} (hl : xs.length = l) (h : w.ownsRow n 51 1 v l (iv .u64 xs)) (hb : Below w.heap.size w W) : Rw W 51 .u64 v xs := (Rw.of_base hl h).below hb

set_option maxHeartbeats 1000000 in
theorem lawSame (gx g gg mb gy gr' : Nat) (words stack : Int) (w : World) (h : Fresh w gx g gg mb words stack) (hr : RFresh w gy gr' words stack) :
    Calls Tryz.prog 26 #[.pointer (some ⟨gx, 0, none⟩), .pointer (some ⟨gy, 0, none⟩)] w fun e w' => e = .returned (.bool true) ∧ Below w.heap.size w w' := by
  have hl : (gr 1025).length = 2050 := gr_len 1025
  have HL := Lib.hid hl
  clear hl
  go_enter Tryz.func26, Tryz.ntmps26
  go_wp2_with (first
    | (go_at_call 20; refine (lawGraph gx g gg mb words stack w h).mono ?_; rintro e w1 ⟨v1, rfl, o1, b1⟩; have h1 := h.kp (Kp.of_below b1); have r1 := hr.below b1)
    | (go_at_call 23; refine (machineLive gx g gg mb words stack w1 h1).mono ?_; rintro e w2 ⟨rfl, b2⟩; have r2 := r1.below b2)
    | (go_at_call 57; refine (refLive gy gr' words stack w2 r2).mono ?_; rintro e w3 ⟨rfl, b3⟩; have r3 := r2.below b3)
    | (go_at_call 58; refine (refState gy gr' words stack w3 r3).mono ?_; rintro e w4 ⟨v4, rfl, o4, b4⟩)
    | (go_at_call 21; refine (sameWords_yes v1 v4 (gr 1025) w4 (Rw.of_base_below HL.out o1 ((b2.trans (b3.mono b2.size)).trans (b4.mono (Nat.le_trans b2.size b3.size)))) (Rw.of_base HL.out o4) (by rw [HL.out]; omega)).mono ?_; rintro e w5 ⟨rfl, b5⟩)
    | fail)
  go_ret
  refine ⟨rfl, ?_⟩
  have s1 := b1.size
  have s2 := b2.size
  have s3 := b3.size
  have s4 := b4.size
  exact (((b1.trans (b2.mono (by omega))).trans (b3.mono (by omega))).trans (b4.mono (by omega))).trans (b5.mono (by omega))
end Go.Proofs.YtjfcbimbnpfdeaaGreat

/- The memory: Free, Next, put. -/
import Derived.Test.YtjfcbimbnpfdeaaGreatE
import Derived.Outline
namespace Go.Proofs.YtjfcbimbnpfdeaaGreat
open Go.RowKit

set_option maxHeartbeats 400000 in
theorem memFree (g : Nat) (size half f1 f2 : Int) (A : Option Addr) (n c : Nat) (hv ov qv : Value) (mb : Nat) (w : World) (hn : n ≤ 1000000) (hs : 0 ≤ size ∧ size ≤ 1000000)
    (h0 : w.heap[g]? = some (.cells (memCells size half f1 (.slice A n c) hv f2 ov qv mb) 129 (0, 0))) :
    Calls Tryz.prog 34 #[.pointer (some ⟨g, 0, none⟩)] w fun e w' => e = .returned (.int .i64 (size - n)) ∧ ∃ k, w' = w.drewN k := by
  have c0 : w.cell? ⟨g, 0, none⟩ = some (.int .i64 size) := cell_of_row _ _ _ _ _ _ h0
  have c3 : w.cell? ⟨g, 3, none⟩ = some (.slice A n c) := cell_of_row _ _ _ _ _ _ h0
  obtain ⟨hs0, hs1⟩ := hs
  clear h0
  go_enter Tryz.func34, Tryz.ntmps34
  go_wp2
  go_quiet (fail)
  go_wp2
  go_ret
  exact ⟨rfl, _, rfl⟩

set_option maxHeartbeats 400000 in
theorem memNext (g : Nat) (size half f1 f2 : Int) (A : Option Addr) (n c : Nat) (hv ov qv : Value) (mb : Nat) (w : World) (hn : n ≤ 1000000) (hs : 0 ≤ f1 ∧ f1 ≤ 1000000)
    (h0 : w.heap[g]? = some (.cells (memCells size half f1 (.slice A n c) hv f2 ov qv mb) 129 (0, 0))) :
    Calls Tryz.prog 35 #[.pointer (some ⟨g, 0, none⟩)] w fun e w' => e = .returned (.int .i64 (f1 + n)) ∧ ∃ k, w' = w.drewN k := by
  have c0 : w.cell? ⟨g, 2, none⟩ = some (.int .i64 f1) := cell_of_row _ _ _ _ _ _ h0
  have c3 : w.cell? ⟨g, 3, none⟩ = some (.slice A n c) := cell_of_row _ _ _ _ _ _ h0
  obtain ⟨hs0, hs1⟩ := hs
  clear h0
  go_enter Tryz.func35, Tryz.ntmps35
  go_wp2
  go_quiet (fail)
  go_wp2
  go_ret
  exact ⟨rfl, _, rfl⟩

theorem drewN_heap (w : World) (k : Nat) : (w.drewN k).heap = w.heap := rfl

set_option maxRecDepth 100000 in
set_option maxHeartbeats 1000000 in
/-- put: the words behind the others, the address behind the heads. -/
theorem memPut (g : Nat) (size half f1 f2 : Int) (wv hv ov qv : Value) (mb : Nat) (ws hs : List Int) (ad : Addr) (m c : Nat) (news : List Int) (w : World)
    (hf : 0 ≤ f1 ∧ f1 ≤ 1000000) (hws : ws.length ≤ 100000) (hhs : hs.length ≤ 100000) (hm : m = news.length) (hm1 : m ≤ 100000)
    (h0 : w.heap[g]? = some (.cells (memCells size half f1 wv hv f2 ov qv mb) 129 (0, 0)))
    (hW : Rw w 51 .u64 wv ws) (hH : Rw w 3 .i64 hv hs) (hN : ∀ j u, (iv .u64 news)[j]? = some u → w.cell? (ad.add j) = some u) :
    Calls Tryz.prog 69 #[.pointer (some ⟨g, 0, none⟩), .slice (some ad) m c] w fun e w' => e = .returned (.int .i64 (f1 + ws.length)) ∧
      ∃ wv' hv', w'.heap[g]? = some (.cells (memCells size half f1 wv' hv' f2 ov qv mb) 129 (0, 0)) ∧ Rw w' 51 .u64 wv' (ws ++ news) ∧ Rw w' 3 .i64 hv' (hs ++ [f1 + ws.length]) ∧
        Kp (fun i => i = g ∨ wv.ownBlock = some i ∨ hv.ownBlock = some i) w w' ∧ (∀ i, wv'.ownBlock = some i → wv.ownBlock = some i ∨ w.heap.size ≤ i) ∧ (∀ i, hv'.ownBlock = some i → hv.ownBlock = some i ∨ w.heap.size ≤ i) := by
  subst hm
  obtain ⟨i51, hi51, hz0, hz1, hz2⟩ := info_parts info51
  obtain ⟨i3, hi3, hy0, hy1, hy2⟩ := info_parts info3
  obtain ⟨A, n, hwv, hn1, hn2⟩ := hW.len
  go_enter Tryz.func69, Tryz.ntmps69
  go_wp2_with fail
  refine (memNext g size half f1 f2 A ws.length n hv ov qv mb _ (by omega) hf (by rw [hwv] at h0; exact h0)).mono ?_
  rintro e w1 ⟨rfl, k, rfl⟩
  obtain ⟨w1, hw1⟩ : ∃ w1, w1 = w.drewN k := ⟨_, rfl⟩
  rw [← hw1]
  have h1 : w1.heap[g]? = some (.cells (memCells size half f1 wv hv f2 ov qv mb) 129 (0, 0)) := by rw [hw1]; exact h0
  have hk1 : Kp (fun i => i = g ∨ wv.ownBlock = some i ∨ hv.ownBlock = some i) w w1 := by rw [hw1]; exact (Kp.refl _ _).drewN k
  have hW1 : Rw w1 51 .u64 wv ws := by rw [hw1]; exact hW
  have hH1 : Rw w1 3 .i64 hv hs := by rw [hw1]; exact hH
  have hN1 : ∀ j u, (iv .u64 news)[j]? = some u → w1.cell? (ad.add j) = some u := by rw [hw1]; exact hN
  clear hW hH hN h0 hw1 hwv
  have c3 : w1.cell? ⟨g, 3, none⟩ = some wv := cell_of_row _ _ _ _ _ _ h1
  have hgl := at_lt h1
  go_wp2_with (at_builtin; go_loud (refine wpList_append_own_at _ rfl (.tmp 13) (.tmp 14) 43 rfl 0 51 i51 (.int .u64 0) 1 8 Tryz.underlying43 hi51 hz0 hz1 hz2 rfl (by decide) wv ws.length (iv .u64 ws) rfl hW1 ad news.length c (iv .u64 news) rfl (by rw [iv_length]; omega) hN1 (iv_one _ _) (by unfold maxLen; omega) (by omega) (Nat.zero_le _) ?_))
  intro wv1 w2 hown hgrow _ hat
  have hwg : wv.ownBlock ≠ some g := hW1.off h1 (by decide)
  have hhg : hv.ownBlock ≠ some g := hH1.off h1 (by decide)
  have hwh : ∀ b, wv.ownBlock = some b → hv.ownBlock ≠ some b := hW1.apart hH1 (by decide)
  have hW2 : Rw w2 51 .u64 wv1 (ws ++ news) := Rw.of_own hown
  have kk := Kp.grownBy (F := fun i => wv.ownBlock = some i) hgrow (fun k hk => hk)
  have h2 : w2.heap[g]? = _ := kk.at_ h1 hwg
  have hH2 : Rw w2 3 .i64 hv hs := hH1.kp kk (fun b hb hb' => hwh b hb' hb)
  have hat2 : ∀ i, wv1.ownBlock = some i → wv.ownBlock = some i ∨ w.heap.size ≤ i := by
    intro i hi
    rcases hat with h | h
    · exact .inl (h ▸ hi)
    · rw [h] at hi; cases hi; exact .inr hk1.size
  have hk2 : Kp (fun i => i = g ∨ wv.ownBlock = some i ∨ hv.ownBlock = some i) w w2 := hk1.trans kk (fun i hi => .inl (.inr (.inl hi)))
  obtain ⟨A1, N1, c1, rfl, hl1⟩ := hW2.slice
  have c3 : w2.cell? ⟨g, 3, none⟩ = some wv := cell_of_row _ _ _ _ _ _ h2
  have f3 : w2.frozen? ⟨g, 3, none⟩ = false := frozen_of_row _ _ _ _ _ h2
  have c4 : w2.cell? ⟨g, 4, none⟩ = some hv := cell_of_row _ _ _ _ _ _ h2
  have f4 : w2.frozen? ⟨g, 4, none⟩ = false := frozen_of_row _ _ _ _ _ h2
  have h3 := heap_setCell_same w2 g 3 _ 129 (.slice A1 N1 c1) h2
  have k3 : Kp (fun i => i = g) w2 (w2.setCell ⟨g, 3, none⟩ (.slice A1 N1 c1)) := (Kp.refl (fun i => i = g) w2).setCell (p := ⟨g, 3, none⟩) (.inl rfl) _
  obtain ⟨o3, ho3⟩ : ∃ o3 : Obj, o3 = .cells #[.int .i64 (f1 + ws.length)] 3 := ⟨_, rfl⟩
  have k4 : Kp (fun i => i = g) w2 ((w2.setCell ⟨g, 3, none⟩ (.slice A1 N1 c1)).alloc o3) := k3.alloc _
  have hH3 := hH2.kp k4 (fun b hb hb' => hhg (by rw [hb, hb']))
  have hgl2 := at_lt h2
  have hW3 := hW2.kp k4 (fun b hb hb' => hW2.off h2 (by decide) (by rw [hb, hb']))
  have h33 : ((w2.setCell ⟨g, 3, none⟩ (.slice A1 N1 c1)).alloc o3).heap[g]? = some (.cells (memCells size half f1 (.slice A1 N1 c1) hv f2 ov qv mb) 129 (0, 0)) :=
    (Below.heap_alloc _ o3 g (by simpa using hgl2)).trans h3
  have hsz3 : ((w2.setCell ⟨g, 3, none⟩ (.slice A1 N1 c1)).alloc o3).heap.size = w2.heap.size + 1 := by simp
  have k04 : Kp (fun i => i = g ∨ wv.ownBlock = some i ∨ hv.ownBlock = some i) w ((w2.setCell ⟨g, 3, none⟩ (.slice A1 N1 c1)).alloc o3) := hk2.trans k4 (fun i hi => .inl (.inl hi))
  clear hW1 hH1 hN1 h1 hown hgrow hat kk hk1 k3 h3 k4
  subst ho3
  go_wp2_with (at_builtin; go_loud (refine wpList_append_own_at _ rfl (.tmp 24) (.tmp 26) 68 rfl 0 3 i3 (.int .i64 0) 1 8 Tryz.underlying68 hi3 hy0 hy1 hy2 rfl (by decide) hv hs.length (iv .i64 hs) rfl hH3 ⟨w2.heap.size, 0, none⟩ 1 1 (iv .i64 [f1 + ws.length]) rfl rfl (new_one _ _ _ _ _) (iv_one _ _) (by unfold maxLen; omega) (by omega) (Nat.zero_le _) ?_))
  intro hv1 w5 hown hgrow _ hat
  have hH5 : Rw w5 3 .i64 hv1 (hs ++ [f1 + ws.length]) := Rw.of_own hown
  have k5 := Kp.grownBy (F := fun i => hv.ownBlock = some i) hgrow (fun k hk => hk)
  have h5 : w5.heap[g]? = _ := k5.at_ h33 hhg
  have hW5 : Rw w5 51 .u64 (.slice A1 N1 c1) (ws ++ news) := hW3.kp k5 (fun b hb hb' => hW3.apart hH3 (by decide) b hb hb')
  have hat5 : ∀ i, hv1.ownBlock = some i → hv.ownBlock = some i ∨ w.heap.size ≤ i := by
    intro i hi
    rcases hat with h | h
    · exact .inl (h ▸ hi)
    · rw [h] at hi; cases hi
      refine .inr ?_
      have := hk2.size
      simp; omega
  have k05 : Kp (fun i => i = g ∨ wv.ownBlock = some i ∨ hv.ownBlock = some i) w w5 := k04.trans k5 (fun i hi => .inl (.inr (.inr hi)))
  obtain ⟨A5, N5, c5, rfl, hl5⟩ := hH5.slice
  have d4 : w5.cell? ⟨g, 4, none⟩ = some hv := cell_of_row _ _ _ _ _ _ h5
  have e4 : w5.frozen? ⟨g, 4, none⟩ = false := frozen_of_row _ _ _ _ _ h5
  have k6 : Kp (fun i => i = g) w5 (w5.setCell ⟨g, 4, none⟩ (.slice A5 N5 c5)) := (Kp.refl (fun i => i = g) w5).setCell (p := ⟨g, 4, none⟩) (.inl rfl) _
  have h6 := heap_setCell_same w5 g 4 _ 129 (.slice A5 N5 c5) h5
  have hW6 := hW5.kp k6 (fun b hb hb' => hW5.off h5 (by decide) (by rw [hb, hb']))
  have hH6 := hH5.kp k6 (fun b hb hb' => hH5.off h5 (by decide) (by rw [hb, hb']))
  have k06 := k05.trans k6 (fun i hi => .inl (.inl hi))
  clear hW3 hH3 h33 hsz3 k04 hown hgrow hat k5 h5 hW5 hH5 k05 k6 hW2 hH2 h2 hk2 c3 c4 f3 f4
  go_wp2
  go_ret
  exact ⟨rfl, _, _, h6, hW6, hH6, k06, hat2, hat5⟩
end Go.Proofs.YtjfcbimbnpfdeaaGreat

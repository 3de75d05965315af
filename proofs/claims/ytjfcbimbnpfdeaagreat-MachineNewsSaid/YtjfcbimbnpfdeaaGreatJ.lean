/- Alloc of what a header may say, where there is room. -/
import Derived.Test.YtjfcbimbnpfdeaaGreatI
import Derived.Deep.OwnRows
import Derived.Laws.OwnMore
import Derived.Outline
namespace Go.Proofs.YtjfcbimbnpfdeaaGreat
open Go.RowKit

def objW (kind : Int) (sz tg : Nat) : List Int := hdr kind sz tg :: (List.replicate tg 1 ++ List.replicate (sz - tg) 0)
theorem objW_len (kind : Int) (sz tg : Nat) (h : tg ≤ sz) : (objW kind sz tg).length = sz + 1 := by simp [objW]; omega
def fillW (h : Int) (k n : Nat) : List Int := h :: (List.replicate k 1 ++ List.replicate (n - k) 0)
theorem fillW_len (h : Int) (k n : Nat) (hk : k ≤ n) : (fillW h k n).length = n + 1 := by simp [fillW]; omega
theorem fillW_set (h : Int) (k n : Nat) (hk : k < n) : (fillW h k n).set (k + 1) 1 = fillW h (k + 1) n := by
  unfold fillW
  rw [List.set_cons_succ, show n - k = (n - (k + 1)) + 1 by omega, List.replicate_succ, List.set_append_right _ _ (by simp), List.length_replicate, Nat.sub_self, List.set_cons_zero, List.replicate_succ' (n := k)]
  simp
theorem iv_zeros (n : Nat) : iv .u64 (List.replicate n 0) = List.replicate n (.int .u64 0) := by simp [iv]

theorem Rw.made (W : World) (e : TypeId) (n : Nat) (hn : n ≤ 1000000) : Rw (W.alloc (.cells (madeCells #[.int .u64 0] n) e)) e .u64 (.slice (some ⟨W.heap.size, 0, none⟩) n n) (List.replicate n 0) := by
  have := Rw.mk (w := W.alloc (.cells (madeCells #[.int .u64 0] n) e)) (xs := List.replicate n 0) (k := .u64) (cap := n) (heap_alloc_new W _) (by simp) (by omega) (size_madeCells _ _) (by
    rw [toList_madeCells_one, iv_zeros, List.length_replicate, List.take_of_length_le (by simp)])
  simpa using this

theorem Addr.add_plain (g j : Nat) : (⟨g, 0, none⟩ : Addr).add j = ⟨g, j, none⟩ := by unfold Addr.add; split <;> simp_all

set_option maxRecDepth 100000 in
set_option maxHeartbeats 2000000 in
theorem memAlloc (g : Nat) (size half first f2 : Int) (wv hv ov qv : Value) (mb : Nat) (ws hs : List Int) (kind : Int) (sz tg : Nat) (w : World)
    (ok : vh kind sz tg) (hm : MW first ws hs) (hroom : (sz : Int) + 1 + ws.length ≤ size) (hsz : 0 ≤ size ∧ size ≤ 70000) (hhs : hs.length ≤ 100000)
    (h0 : w.heap[g]? = some (.cells (memCells size half first wv hv f2 ov qv mb) 129 (0, 0))) (hW : Rw w 51 .u64 wv ws) (hH : Rw w 3 .i64 hv hs) :
    Calls Tryz.prog 37 #[.pointer (some ⟨g, 0, none⟩), .int .i64 kind, .int .i64 sz, .int .i64 tg] w fun e w' => e = .returned (.tuple #[.int .i64 (first + ws.length), .int .i64 0]) ∧
      ∃ wv' hv', w'.heap[g]? = some (.cells (memCells size half first wv' hv' f2 ov qv mb) 129 (0, 0)) ∧ Rw w' 51 .u64 wv' (ws ++ objW kind sz tg) ∧ Rw w' 3 .i64 hv' (hs ++ [first + ws.length]) ∧
        Kp (fun i => i = g ∨ wv.ownBlock = some i ∨ hv.ownBlock = some i) w w' ∧ (∀ i, wv'.ownBlock = some i → wv.ownBlock = some i ∨ w.heap.size ≤ i) ∧ (∀ i, hv'.ownBlock = some i → hv.ownBlock = some i ∨ w.heap.size ≤ i) := by
  obtain ⟨⟨s1, s2, s3, s4⟩, -⟩ := id ok
  obtain ⟨z1, z2⟩ := hsz
  have hf1 := hm.f1
  have hf2 := hm.f2
  have htg : tg ≤ sz := by omega
  have hmk := fun W => run_make_row' (P := Tryz.prog) 43 51 (.int .u64 0) 8 Tryz.underlying43 info51 rfl .i64 .i64 (sz + 1) (by omega) (by omega) W
  rw [show ((sz + 1 : Nat) : Int) = (sz : Int) + 1 by omega] at hmk
  obtain ⟨A, n, hwv, hn1, hn2⟩ := hW.len
  go_enter Tryz.func37, Tryz.ntmps37
  go_wp2_with (go_at_call 68; refine (memHeader _ _ _ _ ok).mono ?_; rintro e w' ⟨rfl, rfl⟩)
  refine (memFree g size half first f2 A ws.length n hv ov qv mb _ (by omega) ⟨z1, by omega⟩ (by rw [hwv] at h0; exact h0)).mono ?_
  rintro e w1 ⟨rfl, k, rfl⟩
  obtain ⟨w1, hw1⟩ : ∃ w1, w1 = w.drewN k := ⟨_, rfl⟩
  rw [← hw1]
  have h1 : w1.heap[g]? = some (.cells (memCells size half first wv hv f2 ov qv mb) 129 (0, 0)) := by rw [hw1]; exact h0
  have hk1 : Kp (fun i => i = g ∨ wv.ownBlock = some i ∨ hv.ownBlock = some i) w w1 := by rw [hw1]; exact (Kp.refl _ _).drewN k
  have hW1 : Rw w1 51 .u64 wv ws := by rw [hw1]; exact hW
  have hH1 : Rw w1 3 .i64 hv hs := by rw [hw1]; exact hH
  have hroom2 : (sz : Int) + 1 ≤ size - ws.length := by omega
  clear hW hH h0 hw1 hwv
  have r0 := Rw.made w1 51 (sz + 1) (by omega)
  have hc0 : (w1.alloc (.cells (madeCells #[.int .u64 0] (sz + 1)) 51)).cell? ⟨w1.heap.size, 0, none⟩ = some (.int .u64 0) := by
    obtain ⟨gg, cc, hh, _, _, hcc, _⟩ := r0.some_ (by simp)
    injection hh with hh _ _
    injection hh with hh
    injection hh with hh
    subst hh
    simpa using hcc 0 (by simp)
  have hf0 : (w1.alloc (.cells (madeCells #[.int .u64 0] (sz + 1)) 51)).frozen? ⟨w1.heap.size, 0, none⟩ = false := frozen_of_row _ _ _ _ _ (heap_alloc_new w1 _)
  have r1 := (show Rw (w1.alloc (.cells (madeCells #[.int .u64 0] (sz + 1)) 51)) 51 .u64 (.slice (some ⟨w1.heap.size, 0, none⟩) (List.replicate (sz + 1) (0 : Int)).length (sz + 1)) (List.replicate (sz + 1) 0) by simpa using r0).set 0 (hdr kind sz tg)
  rw [World.setCell_alloc_at _ _ _ _ _ rfl, List.replicate_succ, List.set_cons_zero, List.length_cons, List.length_replicate] at r1
  have r2 : Rw (w1.alloc (.cells ((madeCells #[.int .u64 0] (sz + 1)).setIfInBounds 0 (.int .u64 (hdr kind sz tg))) 51)) 51 .u64 (.slice (some ⟨w1.heap.size, 0, none⟩) (sz + 1) (sz + 1)) (fillW (hdr kind sz tg) 0 sz) := by
    simpa [fillW] using r1
  have R2 := Lib.hid r2
  clear r0 r1 r2
  have hgl := at_lt h1
  go_wp2
  go_loopw [13] (fun i wr => ∃ k : Nat, k ≤ tg ∧ i = .int .i64 ((k : Int) + 1) ∧ Rw wr 51 .u64 (.slice (some ⟨w1.heap.size, 0, none⟩) (sz + 1) (sz + 1)) (fillW (hdr kind sz tg) k sz) ∧ Kp (fun _ => False) w1 wr) (fun i _ => tg + 1 - (intOf i).toNat)
  case atStart => exact ⟨0, Nat.zero_le _, rfl, R2.out, (Kp.refl _ _).alloc _⟩
  case round =>
    obtain ⟨k, hk, rfl, hr, hkp⟩ := hrel
    have hlen := fillW_len (hdr kind sz tg) k sz (by omega)
    obtain ⟨gg, cc, hh, hcc1, hcc2, hcell, hfr, hgl'⟩ := hr.some_ (by omega)
    obtain ⟨rfl, rfl⟩ : gg = w1.heap.size ∧ cc = sz + 1 := by injection hh with hh _ h2; injection hh with hh; injection hh with hh; exact ⟨hh.symm, h2.symm⟩
    clear hh
    by_cases hlt : k < tg
    · have hc := hcell (k + 1) (by omega)
      have hf := hfr (k + 1)
      have r3 := (show Rw wr 51 .u64 (.slice (some ⟨w1.heap.size, 0, none⟩) (fillW (hdr kind sz tg) k sz).length (sz + 1)) (fillW (hdr kind sz tg) k sz) by rw [hlen]; exact hr).set (k + 1) 1
      rw [fillW_set _ _ _ (by omega), hlen] at r3
      have R3 := Lib.hid r3
      have k3 : Kp (fun _ => False) w1 (wr.setCell ⟨w1.heap.size, k + 1, none⟩ (.int .u64 1)) := hkp.setCell (p := ⟨w1.heap.size, k + 1, none⟩) (.inr (Nat.le_refl _)) _
      have K3 := Lib.hid k3
      clear hcell hfr r3 k3 hlen
      go_wp2_with (go_at_call 46; refine (numInt _ _).mono ?_; rintro e w' ⟨rfl, rfl⟩; rw [wInt_zero])
      go_roundw
      case rel => exact ⟨k + 1, by omega, by go_num, R3.out, K3.out⟩
      case measure => simp [intOf]; omega
    · have hkt : k = tg := by omega
      subst hkt
      clear hcell hfr hlen
      have h1' : wr.heap[g]? = _ := hkp.at_ h1 (fun h => h)
      have hW' := hW1.kp hkp (fun _ _ h => h)
      have hH' := hH1.kp hkp (fun _ _ h => h)
      have hobj : fillW (hdr kind sz k) k sz = objW kind sz k := rfl
      rw [hobj] at hr
      have hl2 := objW_len kind sz k (by omega)
      obtain ⟨gg, cc, hh, _, _, hcell, _, _⟩ := hr.some_ (by omega)
      have e1 : gg = w1.heap.size := by injection hh with hh; injection hh with hh; injection hh with hh; exact hh.symm
      subst e1
      clear hh
      have hN : ∀ j u, (iv .u64 (objW kind sz k))[j]? = some u → wr.cell? ((⟨w1.heap.size, 0, none⟩ : Addr).add j) = some u := by
        intro j u hj
        have hjl : j < (objW kind sz k).length := by have := (List.getElem?_eq_some_iff.1 hj).1; simpa [iv] using this
        rw [iv_get _ _ _ hjl] at hj
        rw [Addr.add_plain, hcell j hjl]
        exact hj
      have HN := Lib.hid hN
      have Hl2 := Lib.hid hl2
      clear hcell hN hl2
      go_wp2_with fail
      refine (memPut g size half first f2 wv hv ov qv mb ws hs ⟨w1.heap.size, 0, none⟩ (sz + 1) (sz + 1) (objW kind sz k) wr ⟨by omega, hf2⟩ (by omega) hhs Hl2.out.symm (by omega) h1' hW' hH' HN.out).mono ?_
      rintro e w5 ⟨rfl, wv', hv', p1, p2, p3, p4, p5, p6⟩
      have k5 : Kp (fun i => i = g ∨ wv.ownBlock = some i ∨ hv.ownBlock = some i) w w5 := (hk1.trans hkp (fun _ h => h.elim)).trans p4 (fun i hi => .inl hi)
      have hle : w.heap.size ≤ wr.heap.size := Nat.le_trans hk1.size hkp.size
      have p5' : ∀ i, wv'.ownBlock = some i → wv.ownBlock = some i ∨ w.heap.size ≤ i := fun i hi => (p5 i hi).imp id (fun h => by omega)
      have p6' : ∀ i, hv'.ownBlock = some i → hv.ownBlock = some i ∨ w.heap.size ≤ i := fun i hi => (p6 i hi).imp id (fun h => by omega)
      have F := Lib.hid (And.intro p1 (And.intro p2 (And.intro p3 (And.intro k5 (And.intro p5' p6')))))
      clear p1 p2 p3 p4 p5 p6 p5' p6' k5 h1' hW' hH' hr hkp hk1 h1 hW1 hH1
      go_wp2
      go_ret2
      exact ⟨rfl, wv', hv', F.out⟩
end Go.Proofs.YtjfcbimbnpfdeaaGreat

/- reckon: what is no quotient and no test. -/
import Derived.Test.YtjfcbimbnpfdeaaGreatAh
namespace Go.Proofs.YtjfcbimbnpfdeaaGreat
open Go.RowKit

section
variable {w : World} {gx : Nat} {M : MS} {L : ML} (h : MachAt w gx M L)
include h

set_option maxRecDepth 100000 in
set_option maxHeartbeats 2000000 in
theorem MachAt.reck_add (a b c : Nat) (n : Int) (ha : a < 16) (hb : b < 16) (hc : c < 16) (huw : isW (M.regs.getD b 0)) (hui : wIsInt (M.regs.getD b 0) = true) (hvw : isW (M.regs.getD c 0)) (hvi : wIsInt (M.regs.getD c 0) = true) :
    Calls Tryz.prog 76 #[.pointer (some ⟨gx, 0, none⟩), insW 7 a b c n] w fun e w' => e = .returned (.int .i64 0) ∧ MachAt w' gx { M with regs := M.regs.set a (wInt (w63 (wToInt (M.regs.getD b 0) + wToInt (M.regs.getD c 0)))) } L ∧ Turned w w' (L.own gx) (L.own gx) := by
  have ha2 : (a : Int) < 16 := by omega
  have hb2 : (b : Int) < 16 := by omega
  have hc2 : (c : Int) < 16 := by omega
  obtain ⟨u, hu⟩ : ∃ u, u = M.regs.getD b 0 := ⟨_, rfl⟩
  rw [← hu] at huw hui
  have Hu := Lib.hid hu
  clear hu
  obtain ⟨v, hv⟩ : ∃ v, v = M.regs.getD c 0 := ⟨_, rfl⟩
  rw [← hv] at hvw hvi
  have Hv := Lib.hid hv
  clear hv
  have Hh := Lib.hid h
  clear h
  unfold insW
  go_enter Tryz.func76, Tryz.ntmps76
  go_upto_region 1 with fail
  obtain ⟨w1, hw1⟩ : ∃ w1, w1 = w.alloc (boxI 7 a b c n) := ⟨_, rfl⟩
  have hb1 : w1.heap[w.heap.size]? = some (boxI 7 a b c n) := by rw [hw1]; exact heap_alloc_new _ _
  have hm1 : MachAt w1 gx M L := by rw [hw1]; exact Hh.out.boxed _ _ _ _ _
  have t1 : Turned w w1 (L.own gx) (L.own gx) := by rw [hw1]; exact Turned.still ((Kp.refl _ w).alloc _)
  unfold boxI at hw1
  rw [← hw1]
  clear hw1
  obtain ⟨x0, x1, x2, x3, x4⟩ := boxI_cells hb1
  have cb := hm1.cr b hb
  rw [← Hu.out] at cb
  have cc := hm1.cr c hc
  rw [← Hv.out] at cc
  go_quiet (fail)
  obtain ⟨w2, hw2⟩ : ∃ w2, w2 = w1.drewN nq := ⟨_, rfl⟩
  have hb2' : w2.heap[w.heap.size]? = some (boxI 7 a b c n) := by rw [hw2]; exact hb1
  have hm2 : MachAt w2 gx M L := by rw [hw2]; exact hm1.dr _
  have t2 : Turned w w2 (L.own gx) (L.own gx) := by rw [hw2]; exact t1.trans (Turned.still ((Kp.refl _ w1).drewN _))
  rw [← hw2]
  clear hw2 x0 x1 x2 x3 x4 cb cc hm1 hb1 t1
  obtain ⟨x0, x1, -, -, -⟩ := boxI_cells hb2'
  go_wp2_with (first
    | (go_at_call 101; refine (numIsInt _ _ huw).mono ?_; rintro e w' ⟨rfl, rfl⟩; rw [hui])
    | (go_at_call 101; refine (numIsInt _ _ hvw).mono ?_; rintro e w' ⟨rfl, rfl⟩; rw [hvi])
    | (go_at_call 106; refine (numToInt _ _ huw).mono ?_; rintro e w' ⟨rfl, rfl⟩)
    | (go_at_call 106; refine (numToInt _ _ hvw).mono ?_; rintro e w' ⟨rfl, rfl⟩)
    | (go_at_call 107; refine (numAdd _ _ _).mono ?_; rintro e w' ⟨rfl, rfl⟩)
    | fail)
  go_still_tail 8, (by kernel_rfl)
  still_call (still_of (numInt _ _))
  repeat still_step
  refine wpStill_nil ?_
  change wpList _ _ _ _ _ w2.drew
  have hm3 : MachAt w2.drew gx M L := hm2.still ((Kp.refl _ w2).drew)
  have t3 : Turned w w2.drew (L.own gx) (L.own gx) := t2.trans (Turned.still ((Kp.refl _ w2).drew))
  clear x0 x1 hm2 t2 hb2'
  generalize w2.drew = w3 at *
  have c2 := hm3.cr a ha
  have f2 := hm3.fz (2 + a)
  rw [Hu.out, Hv.out]
  have hf := Lib.hid (hm3.setReg a ha (wInt (w63 (wToInt (M.regs.getD b 0) + wToInt (M.regs.getD c 0)))))
  have ht := Lib.hid (t3.trans (Turned.set (gx := gx) (L := L) (2 + a) (.int .u64 (wInt (w63 (wToInt (M.regs.getD b 0) + wToInt (M.regs.getD c 0)))))))
  clear hm3 t3
  go_wp2
  go_ret
  exact ⟨rfl, hf.out, ht.out⟩

set_option maxRecDepth 100000 in
set_option maxHeartbeats 2000000 in
theorem MachAt.reck_sub (a b c : Nat) (n : Int) (ha : a < 16) (hb : b < 16) (hc : c < 16) (huw : isW (M.regs.getD b 0)) (hui : wIsInt (M.regs.getD b 0) = true) (hvw : isW (M.regs.getD c 0)) (hvi : wIsInt (M.regs.getD c 0) = true) :
    Calls Tryz.prog 76 #[.pointer (some ⟨gx, 0, none⟩), insW 8 a b c n] w fun e w' => e = .returned (.int .i64 0) ∧ MachAt w' gx { M with regs := M.regs.set a (wInt (w63 (wToInt (M.regs.getD b 0) - wToInt (M.regs.getD c 0)))) } L ∧ Turned w w' (L.own gx) (L.own gx) := by
  have ha2 : (a : Int) < 16 := by omega
  have hb2 : (b : Int) < 16 := by omega
  have hc2 : (c : Int) < 16 := by omega
  obtain ⟨u, hu⟩ : ∃ u, u = M.regs.getD b 0 := ⟨_, rfl⟩
  rw [← hu] at huw hui
  have Hu := Lib.hid hu
  clear hu
  obtain ⟨v, hv⟩ : ∃ v, v = M.regs.getD c 0 := ⟨_, rfl⟩
  rw [← hv] at hvw hvi
  have Hv := Lib.hid hv
  clear hv
  have Hh := Lib.hid h
  clear h
  unfold insW
  go_enter Tryz.func76, Tryz.ntmps76
  go_upto_region 1 with fail
  obtain ⟨w1, hw1⟩ : ∃ w1, w1 = w.alloc (boxI 8 a b c n) := ⟨_, rfl⟩
  have hb1 : w1.heap[w.heap.size]? = some (boxI 8 a b c n) := by rw [hw1]; exact heap_alloc_new _ _
  have hm1 : MachAt w1 gx M L := by rw [hw1]; exact Hh.out.boxed _ _ _ _ _
  have t1 : Turned w w1 (L.own gx) (L.own gx) := by rw [hw1]; exact Turned.still ((Kp.refl _ w).alloc _)
  unfold boxI at hw1
  rw [← hw1]
  clear hw1
  obtain ⟨x0, x1, x2, x3, x4⟩ := boxI_cells hb1
  have cb := hm1.cr b hb
  rw [← Hu.out] at cb
  have cc := hm1.cr c hc
  rw [← Hv.out] at cc
  go_quiet (fail)
  obtain ⟨w2, hw2⟩ : ∃ w2, w2 = w1.drewN nq := ⟨_, rfl⟩
  have hb2' : w2.heap[w.heap.size]? = some (boxI 8 a b c n) := by rw [hw2]; exact hb1
  have hm2 : MachAt w2 gx M L := by rw [hw2]; exact hm1.dr _
  have t2 : Turned w w2 (L.own gx) (L.own gx) := by rw [hw2]; exact t1.trans (Turned.still ((Kp.refl _ w1).drewN _))
  rw [← hw2]
  clear hw2 x0 x1 x2 x3 x4 cb cc hm1 hb1 t1
  obtain ⟨x0, x1, -, -, -⟩ := boxI_cells hb2'
  go_wp2_with (first
    | (go_at_call 101; refine (numIsInt _ _ huw).mono ?_; rintro e w' ⟨rfl, rfl⟩; rw [hui])
    | (go_at_call 101; refine (numIsInt _ _ hvw).mono ?_; rintro e w' ⟨rfl, rfl⟩; rw [hvi])
    | (go_at_call 106; refine (numToInt _ _ huw).mono ?_; rintro e w' ⟨rfl, rfl⟩)
    | (go_at_call 106; refine (numToInt _ _ hvw).mono ?_; rintro e w' ⟨rfl, rfl⟩)
    | (go_at_call 108; refine (numSub _ _ _).mono ?_; rintro e w' ⟨rfl, rfl⟩)
    | fail)
  go_still_tail 8, (by kernel_rfl)
  still_call (still_of (numInt _ _))
  repeat still_step
  refine wpStill_nil ?_
  change wpList _ _ _ _ _ w2.drew
  have hm3 : MachAt w2.drew gx M L := hm2.still ((Kp.refl _ w2).drew)
  have t3 : Turned w w2.drew (L.own gx) (L.own gx) := t2.trans (Turned.still ((Kp.refl _ w2).drew))
  clear x0 x1 hm2 t2 hb2'
  generalize w2.drew = w3 at *
  have c2 := hm3.cr a ha
  have f2 := hm3.fz (2 + a)
  rw [Hu.out, Hv.out]
  have hf := Lib.hid (hm3.setReg a ha (wInt (w63 (wToInt (M.regs.getD b 0) - wToInt (M.regs.getD c 0)))))
  have ht := Lib.hid (t3.trans (Turned.set (gx := gx) (L := L) (2 + a) (.int .u64 (wInt (w63 (wToInt (M.regs.getD b 0) - wToInt (M.regs.getD c 0)))))))
  clear hm3 t3
  go_wp2
  go_ret
  exact ⟨rfl, hf.out, ht.out⟩

set_option maxRecDepth 100000 in
set_option maxHeartbeats 2000000 in
theorem MachAt.reck_mul (a b c : Nat) (n : Int) (ha : a < 16) (hb : b < 16) (hc : c < 16) (huw : isW (M.regs.getD b 0)) (hui : wIsInt (M.regs.getD b 0) = true) (hvw : isW (M.regs.getD c 0)) (hvi : wIsInt (M.regs.getD c 0) = true) :
    Calls Tryz.prog 76 #[.pointer (some ⟨gx, 0, none⟩), insW 9 a b c n] w fun e w' => e = .returned (.int .i64 0) ∧ MachAt w' gx { M with regs := M.regs.set a (wInt (w63 (wToInt (M.regs.getD b 0) * wToInt (M.regs.getD c 0)))) } L ∧ Turned w w' (L.own gx) (L.own gx) := by
  have ha2 : (a : Int) < 16 := by omega
  have hb2 : (b : Int) < 16 := by omega
  have hc2 : (c : Int) < 16 := by omega
  obtain ⟨u, hu⟩ : ∃ u, u = M.regs.getD b 0 := ⟨_, rfl⟩
  rw [← hu] at huw hui
  have Hu := Lib.hid hu
  clear hu
  obtain ⟨v, hv⟩ : ∃ v, v = M.regs.getD c 0 := ⟨_, rfl⟩
  rw [← hv] at hvw hvi
  have Hv := Lib.hid hv
  clear hv
  have Hh := Lib.hid h
  clear h
  unfold insW
  go_enter Tryz.func76, Tryz.ntmps76
  go_upto_region 1 with fail
  obtain ⟨w1, hw1⟩ : ∃ w1, w1 = w.alloc (boxI 9 a b c n) := ⟨_, rfl⟩
  have hb1 : w1.heap[w.heap.size]? = some (boxI 9 a b c n) := by rw [hw1]; exact heap_alloc_new _ _
  have hm1 : MachAt w1 gx M L := by rw [hw1]; exact Hh.out.boxed _ _ _ _ _
  have t1 : Turned w w1 (L.own gx) (L.own gx) := by rw [hw1]; exact Turned.still ((Kp.refl _ w).alloc _)
  unfold boxI at hw1
  rw [← hw1]
  clear hw1
  obtain ⟨x0, x1, x2, x3, x4⟩ := boxI_cells hb1
  have cb := hm1.cr b hb
  rw [← Hu.out] at cb
  have cc := hm1.cr c hc
  rw [← Hv.out] at cc
  go_quiet (fail)
  obtain ⟨w2, hw2⟩ : ∃ w2, w2 = w1.drewN nq := ⟨_, rfl⟩
  have hb2' : w2.heap[w.heap.size]? = some (boxI 9 a b c n) := by rw [hw2]; exact hb1
  have hm2 : MachAt w2 gx M L := by rw [hw2]; exact hm1.dr _
  have t2 : Turned w w2 (L.own gx) (L.own gx) := by rw [hw2]; exact t1.trans (Turned.still ((Kp.refl _ w1).drewN _))
  rw [← hw2]
  clear hw2 x0 x1 x2 x3 x4 cb cc hm1 hb1 t1
  obtain ⟨x0, x1, -, -, -⟩ := boxI_cells hb2'
  go_wp2_with (first
    | (go_at_call 101; refine (numIsInt _ _ huw).mono ?_; rintro e w' ⟨rfl, rfl⟩; rw [hui])
    | (go_at_call 101; refine (numIsInt _ _ hvw).mono ?_; rintro e w' ⟨rfl, rfl⟩; rw [hvi])
    | (go_at_call 106; refine (numToInt _ _ huw).mono ?_; rintro e w' ⟨rfl, rfl⟩)
    | (go_at_call 106; refine (numToInt _ _ hvw).mono ?_; rintro e w' ⟨rfl, rfl⟩)
    | (go_at_call 109; refine (numMul _ _ _).mono ?_; rintro e w' ⟨rfl, rfl⟩)
    | fail)
  go_still_tail 8, (by kernel_rfl)
  still_call (still_of (numInt _ _))
  repeat still_step
  refine wpStill_nil ?_
  change wpList _ _ _ _ _ w2.drew
  have hm3 : MachAt w2.drew gx M L := hm2.still ((Kp.refl _ w2).drew)
  have t3 : Turned w w2.drew (L.own gx) (L.own gx) := t2.trans (Turned.still ((Kp.refl _ w2).drew))
  clear x0 x1 hm2 t2 hb2'
  generalize w2.drew = w3 at *
  have c2 := hm3.cr a ha
  have f2 := hm3.fz (2 + a)
  rw [Hu.out, Hv.out]
  have hf := Lib.hid (hm3.setReg a ha (wInt (w63 (wToInt (M.regs.getD b 0) * wToInt (M.regs.getD c 0)))))
  have ht := Lib.hid (t3.trans (Turned.set (gx := gx) (L := L) (2 + a) (.int .u64 (wInt (w63 (wToInt (M.regs.getD b 0) * wToInt (M.regs.getD c 0)))))))
  clear hm3 t3
  go_wp2
  go_ret
  exact ⟨rfl, hf.out, ht.out⟩

set_option maxRecDepth 100000 in
set_option maxHeartbeats 2000000 in
theorem MachAt.reck_neg (a b c : Nat) (n : Int) (ha : a < 16) (hb : b < 16) (hc : c < 16) (huw : isW (M.regs.getD b 0)) (hui : wIsInt (M.regs.getD b 0) = true) :
    Calls Tryz.prog 76 #[.pointer (some ⟨gx, 0, none⟩), insW 12 a b c n] w fun e w' => e = .returned (.int .i64 0) ∧ MachAt w' gx { M with regs := M.regs.set a (wInt (w63 (-wToInt (M.regs.getD b 0)))) } L ∧ Turned w w' (L.own gx) (L.own gx) := by
  have ha2 : (a : Int) < 16 := by omega
  have hb2 : (b : Int) < 16 := by omega
  have hc2 : (c : Int) < 16 := by omega
  obtain ⟨u, hu⟩ : ∃ u, u = M.regs.getD b 0 := ⟨_, rfl⟩
  rw [← hu] at huw hui
  have Hu := Lib.hid hu
  clear hu
  have Hh := Lib.hid h
  clear h
  unfold insW
  go_enter Tryz.func76, Tryz.ntmps76
  go_upto_region 1 with fail
  obtain ⟨w1, hw1⟩ : ∃ w1, w1 = w.alloc (boxI 12 a b c n) := ⟨_, rfl⟩
  have hb1 : w1.heap[w.heap.size]? = some (boxI 12 a b c n) := by rw [hw1]; exact heap_alloc_new _ _
  have hm1 : MachAt w1 gx M L := by rw [hw1]; exact Hh.out.boxed _ _ _ _ _
  have t1 : Turned w w1 (L.own gx) (L.own gx) := by rw [hw1]; exact Turned.still ((Kp.refl _ w).alloc _)
  unfold boxI at hw1
  rw [← hw1]
  clear hw1
  obtain ⟨x0, x1, x2, x3, x4⟩ := boxI_cells hb1
  have cb := hm1.cr b hb
  rw [← Hu.out] at cb
  have cc := hm1.cr c hc
  go_quiet (fail)
  obtain ⟨w2, hw2⟩ : ∃ w2, w2 = w1.drewN nq := ⟨_, rfl⟩
  have hb2' : w2.heap[w.heap.size]? = some (boxI 12 a b c n) := by rw [hw2]; exact hb1
  have hm2 : MachAt w2 gx M L := by rw [hw2]; exact hm1.dr _
  have t2 : Turned w w2 (L.own gx) (L.own gx) := by rw [hw2]; exact t1.trans (Turned.still ((Kp.refl _ w1).drewN _))
  rw [← hw2]
  clear hw2 x0 x1 x2 x3 x4 cb cc hm1 hb1 t1
  obtain ⟨x0, x1, -, -, -⟩ := boxI_cells hb2'
  go_wp2_with (first
    | (go_at_call 101; refine (numIsInt _ _ huw).mono ?_; rintro e w' ⟨rfl, rfl⟩; rw [hui])
    | (go_at_call 106; refine (numToInt _ _ huw).mono ?_; rintro e w' ⟨rfl, rfl⟩)
    | (go_at_call 112; refine (numNeg _ _).mono ?_; rintro e w' ⟨rfl, rfl⟩)
    | fail)
  go_still_tail 8, (by kernel_rfl)
  still_call (still_of (numInt _ _))
  repeat still_step
  refine wpStill_nil ?_
  change wpList _ _ _ _ _ w2.drew
  have hm3 : MachAt w2.drew gx M L := hm2.still ((Kp.refl _ w2).drew)
  have t3 : Turned w w2.drew (L.own gx) (L.own gx) := t2.trans (Turned.still ((Kp.refl _ w2).drew))
  clear x0 x1 hm2 t2 hb2'
  generalize w2.drew = w3 at *
  have c2 := hm3.cr a ha
  have f2 := hm3.fz (2 + a)
  rw [Hu.out]
  have hf := Lib.hid (hm3.setReg a ha (wInt (w63 (-wToInt (M.regs.getD b 0)))))
  have ht := Lib.hid (t3.trans (Turned.set (gx := gx) (L := L) (2 + a) (.int .u64 (wInt (w63 (-wToInt (M.regs.getD b 0)))))))
  clear hm3 t3
  go_wp2
  go_ret
  exact ⟨rfl, hf.out, ht.out⟩
end
end Go.Proofs.YtjfcbimbnpfdeaaGreat

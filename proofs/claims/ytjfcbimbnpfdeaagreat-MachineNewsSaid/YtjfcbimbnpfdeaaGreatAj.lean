/- goes: return. -/
import Derived.Test.YtjfcbimbnpfdeaaGreatAi
namespace Go.Proofs.YtjfcbimbnpfdeaaGreat
open Go.RowKit

set_option maxRecDepth 100000 in
set_option maxHeartbeats 4000000 in
theorem MachAt.return_last {w : World} {gx : Nat} {M : MS} {L : ML} (h : MachAt w gx M L) (a b c : Nat) (n : Int) (fp : Value) (ha : a < 16) (hb : b < 16) (f : Fr) (hfs : M.frames = [f]) (hown : M.own = false) (hn : M.hands.length ≤ 1000000) (hu1 : fsz M.frames ≤ M.used) (hu2 : M.used ≤ 100000000) :
    Calls Tryz.prog 81 #[.pointer (some ⟨gx, 0, none⟩), insW 28 a b c n, fp] w fun e w' => e = .returned (.int .i64 1) ∧ ∃ L', MachAt w' gx { M.drop 0 with value := M.regs.getD a 0 } L' ∧ Turned w w' (L.own gx) (L'.own gx) := by
  have hlen : M.frames.length = 1 := by rw [hfs]; rfl
  have Hlen := Lib.hid hlen
  have Hown := Lib.hid hown
  clear hlen hown
  have ha2 : (a : Int) < 16 := by omega
  have hb2 : (b : Int) < 16 := by omega
  have Hh := Lib.hid h
  clear h
  unfold insW
  go_enter Tryz.func81, Tryz.ntmps81
  go_upto_region 1 with fail
  obtain ⟨w1, hw1⟩ : ∃ w1, w1 = w.alloc (boxI 28 a b c n) := ⟨_, rfl⟩
  have hb1 : w1.heap[w.heap.size]? = some (boxI 28 a b c n) := by rw [hw1]; exact heap_alloc_new _ _
  have hm1 : MachAt w1 gx M L := by rw [hw1]; exact Hh.out.boxed _ _ _ _ _
  have k1 : Kp (fun _ => False) w w1 := by rw [hw1]; exact (Kp.refl _ w).alloc _
  unfold boxI at hw1
  rw [← hw1]
  clear hw1
  obtain ⟨x0, x1, x2, x3, x4⟩ := boxI_cells hb1
  have ca := hm1.cr a ha
  have cb := hm1.cr b hb
  obtain ⟨u, hu⟩ : ∃ u, u = M.regs.getD a 0 := ⟨_, rfl⟩
  obtain ⟨v, hv'⟩ : ∃ v, v = M.regs.getD b 0 := ⟨_, rfl⟩
  rw [← hu] at ca
  rw [← hv'] at cb
  have Hu := Lib.hid hu
  have Hv' := Lib.hid hv'
  clear hu hv'
  go_quiet (fail)
  obtain ⟨w2, hw2⟩ : ∃ w2, w2 = w1.drewN nq := ⟨_, rfl⟩
  have hb2' : w2.heap[w.heap.size]? = some (boxI 28 a b c n) := by rw [hw2]; exact hb1
  have hm2 : MachAt w2 gx M L := by rw [hw2]; exact hm1.dr _
  have K2 := Lib.hid (show Kp (fun _ => False) w w2 by rw [hw2]; exact k1.drewN _)
  have T2 := Lib.hid (Turned.still (o := L.own gx) K2.out)
  rw [← hw2]
  clear hw2 x0 x1 x2 x3 x4 ca cb hm1 hb1 k1
  obtain ⟨x0, x1, x2, x3, x4⟩ := boxI_cells hb2'
  have HB := Lib.hid hb2'
  have Hm2 := Lib.hid hm2
  clear hb2' hm2
  have ho := Hm2.out.own_is (by rw [Hlen.out]; omega) hn
  rw [Hown.out] at ho
  have Ho := Lib.hid ho
  clear ho
  go_wp2_with fail
  refine Ho.out.mono ?_
  rintro e w3 ⟨rfl, k, hk⟩
  have hm3 : MachAt w3 gx M L := by rw [hk]; exact Hm2.out.dr _
  have T3 := Lib.hid (show Turned w w3 (L.own gx) (L.own gx) by rw [hk]; exact T2.out.trans (Turned.still ((Kp.refl _ w2).drewN k)))
  clear hk x0 x1 x2 x3 x4
  obtain ⟨A, cap, hfv, -, -⟩ := own_len hm3.fr
  have c18 := hm3.c18
  rw [hfv, Hlen.out] at c18
  clear hfv
  have Hd := Lib.hid (hm3.drop_is 0 (Nat.zero_le _) (by rw [Hlen.out]; omega) hu1 hu2)
  clear hm3
  go_wp2_with fail
  refine Hd.out.mono ?_
  rintro e w4 ⟨rfl, L4, hm4, t4⟩
  clear c18
  obtain ⟨A4, cap4, hfv4, -, -⟩ := own_len hm4.fr
  have hz : (M.drop 0).frames.length = 0 := by simp [MS.drop]
  have c18 := hm4.c18
  rw [hfv4, hz] at c18
  have f22 := hm4.fz 22
  have c22 := hm4.c22
  have Hf := Lib.hid (hm4.setValue (M.regs.getD a 0))
  have HT := Lib.hid ((T3.out.trans t4).trans (Turned.set (gx := gx) (L := L4) 22 (.int .u64 (M.regs.getD a 0))))
  rw [← Hu.out] at Hf HT
  clear hm4 t4 hfv4 hz Hd
  go_wp2
  go_ret
  rw [← Hu.out]
  exact ⟨rfl, L4, Hf.out, HT.out⟩
end Go.Proofs.YtjfcbimbnpfdeaaGreat

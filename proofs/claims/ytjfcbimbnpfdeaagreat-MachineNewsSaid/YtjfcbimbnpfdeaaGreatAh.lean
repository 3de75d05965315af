/- move: the instruction int. -/
import Derived.Test.YtjfcbimbnpfdeaaGreatAg
namespace Go.Proofs.YtjfcbimbnpfdeaaGreat
open Go.RowKit

def insW (op : Int) (a b c : Nat) (n : Int) : Value := .agg #[.int .i64 op, .int .i64 a, .int .i64 b, .int .i64 c, .int .i64 n]
def boxI (op : Int) (a b c : Nat) (n : Int) : Obj := .cells #[.int .i64 op, .int .i64 a, .int .i64 b, .int .i64 c, .int .i64 n] 62 (0, 0)
/-- The world behind the boxing of an instruction. -/
theorem MachAt.boxed {w : World} {gx : Nat} {M : MS} {L : ML} (h : MachAt w gx M L) (op : Int) (a b c : Nat) (n : Int) : MachAt (w.alloc (boxI op a b c n)) gx M L := h.still ((Kp.refl _ w).alloc _)
theorem boxI_cells {w : World} {B : Nat} {op : Int} {a b c : Nat} {n : Int} (h : w.heap[B]? = some (boxI op a b c n)) :
    w.cell? ⟨B, 0, none⟩ = some (.int .i64 op) ∧ w.cell? ⟨B, 1, none⟩ = some (.int .i64 a) ∧ w.cell? ⟨B, 2, none⟩ = some (.int .i64 b) ∧ w.cell? ⟨B, 3, none⟩ = some (.int .i64 c) ∧ w.cell? ⟨B, 4, none⟩ = some (.int .i64 n) :=
  ⟨cell_of_row _ _ _ _ _ _ h, cell_of_row _ _ _ _ _ _ h, cell_of_row _ _ _ _ _ _ h, cell_of_row _ _ _ _ _ _ h, cell_of_row _ _ _ _ _ _ h⟩

section
variable {w : World} {gx : Nat} {M : MS} {L : ML} (h : MachAt w gx M L)
include h

set_option maxRecDepth 100000 in
set_option maxHeartbeats 1000000 in
theorem MachAt.move_int (a b c : Nat) (n : Int) (fp lits : Value) (ha : a < 16) :
    Calls Tryz.prog 75 #[.pointer (some ⟨gx, 0, none⟩), insW 1 a b c n, fp, lits] w fun e w' => e = .returned (.int .i64 0) ∧ MachAt w' gx { M with regs := M.regs.set a (wInt n) } L ∧ Turned w w' (L.own gx) (L.own gx) := by
  have ha2 : (a : Int) < 16 := by omega
  have Hh := Lib.hid h
  clear h
  unfold insW
  go_enter Tryz.func75, Tryz.ntmps75
  go_upto_region 3 with fail
  obtain ⟨w1, hw1⟩ : ∃ w1, w1 = w.alloc (boxI 1 a b c n) := ⟨_, rfl⟩
  have hb1 : w1.heap[w.heap.size]? = some (boxI 1 a b c n) := by rw [hw1]; exact heap_alloc_new _ _
  have hm1 : MachAt w1.drew gx M L := by rw [hw1]; exact Hh.out.still (((Kp.refl _ w).alloc _).drew)
  have t1 : Turned w w1.drew (L.own gx) (L.own gx) := by rw [hw1]; exact Turned.still (((Kp.refl _ w).alloc _).drew)
  unfold boxI at hw1
  rw [← hw1]
  clear hw1
  obtain ⟨-, x1, -, -, x4⟩ := boxI_cells hb1
  go_still_tail 9, (by kernel_rfl)
  still_call (still_of (numInt _ _))
  repeat still_step
  refine wpStill_nil ?_
  change wpList _ _ _ _ _ w1.drew
  clear x1 x4 hb1
  generalize w1.drew = w2 at *
  have c2 := hm1.cr a ha
  have f2 := hm1.fz (2 + a)
  have hf := Lib.hid (hm1.setReg a ha (wInt n))
  have ht := Lib.hid (t1.trans (Turned.set (gx := gx) (L := L) (2 + a) (.int .u64 (wInt n))))
  clear hm1 t1
  go_wp2
  go_ret
  exact ⟨rfl, hf.out, ht.out⟩
end
end Go.Proofs.YtjfcbimbnpfdeaaGreat

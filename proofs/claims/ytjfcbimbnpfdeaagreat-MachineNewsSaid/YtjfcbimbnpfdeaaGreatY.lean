/- machine.check of a code without literals; room where there is room. -/
import Derived.Test.YtjfcbimbnpfdeaaGreatX
namespace Go.Proofs.YtjfcbimbnpfdeaaGreat
open Go.RowKit

structure Ins where
  op : Int
  a : Int
  b : Int
  c : Int
  n : Int
def Ins.ok (i : Ins) : Prop := chk i.op i.a i.b i.c i.n = 0
/-- A slice of instructions and its cells. -/
def InsAt (w : World) (v : Value) (xs : List Ins) : Prop :=
  ∃ A c, v = .slice A xs.length c ∧ ∀ k (i : Ins), xs[k]? = some i → ∃ g, A = some ⟨g, 0, none⟩ ∧ (∃ cur, w.heap[g]? = some (.cells cur 62 (0, 0))) ∧
    w.cell? ⟨g, k * 5, none⟩ = some (.int .i64 i.op) ∧ w.cell? ⟨g, k * 5 + 1, none⟩ = some (.int .i64 i.a) ∧ w.cell? ⟨g, k * 5 + 2, none⟩ = some (.int .i64 i.b) ∧ w.cell? ⟨g, k * 5 + 3, none⟩ = some (.int .i64 i.c) ∧ w.cell? ⟨g, k * 5 + 4, none⟩ = some (.int .i64 i.n)
theorem InsAt.below {w W : World} {v : Value} {xs : List Ins} (h : InsAt w v xs) (hb : Below w.heap.size w W) : InsAt W v xs := by
  obtain ⟨A, c, hv, h⟩ := h
  refine ⟨A, c, hv, fun k i hi => ?_⟩
  obtain ⟨g, h1, ⟨cur, h2⟩, c0, c1, c2, c3, c4⟩ := h k i hi
  have hg := at_lt h2
  exact ⟨g, h1, ⟨cur, (hb.block g hg).trans h2⟩, (hb.cell (p := ⟨g, _, none⟩) hg).trans c0, (hb.cell (p := ⟨g, _, none⟩) hg).trans c1, (hb.cell (p := ⟨g, _, none⟩) hg).trans c2, (hb.cell (p := ⟨g, _, none⟩) hg).trans c3, (hb.cell (p := ⟨g, _, none⟩) hg).trans c4⟩
theorem InsAt.kp {F : Nat → Prop} {w W : World} {v : Value} {xs : List Ins} (h : InsAt w v xs) (hk : Kp F w W) (hF : ∀ g cur, w.heap[g]? = some (.cells cur 62 (0, 0)) → ¬ F g) : InsAt W v xs := by
  obtain ⟨A, c, hv, h⟩ := h
  refine ⟨A, c, hv, fun k i hi => ?_⟩
  obtain ⟨g, h1, ⟨cur, h2⟩, c0, c1, c2, c3, c4⟩ := h k i hi
  have h3 := hk.at_ h2 (hF g cur h2)
  have e : ∀ j, W.cell? ⟨g, j, none⟩ = w.cell? ⟨g, j, none⟩ := fun j => by rw [cell_of_row _ _ _ _ _ _ h3, cell_of_row _ _ _ _ _ _ h2]
  exact ⟨g, h1, ⟨cur, h3⟩, (e _).trans c0, (e _).trans c1, (e _).trans c2, (e _).trans c3, (e _).trans c4⟩

set_option maxRecDepth 100000 in
set_option maxHeartbeats 4000000 in
theorem codeCheck (v : Value) (codes : Int) (xs : List Ins) (w : World) (hv : InsAt w v xs) (hn : xs.length ≤ 16384) (hok : ∀ i ∈ xs, Ins.ok i) :
    Calls Tryz.prog 47 #[.agg #[.slice none 0 0, v], .int .i64 codes] w fun e w' => e = .returned (.tuple #[.int .i64 (1 + xs.length), .int .i64 0]) ∧ Below w.heap.size w w' := by
  obtain ⟨A, c, rfl, hc⟩ := hv
  obtain ⟨n, hN⟩ : ∃ n, n = xs.length := ⟨_, rfl⟩
  have HN := Lib.hid hN
  have Hc := Lib.hid hc
  have Hok := Lib.hid hok
  rw [← hN] at hn ⊢
  clear hN hc hok
  have hng : ¬ (16384 : Int) < n := by omega
  have hn2 : (n : Int) ≤ 16384 := by omega
  go_enter Tryz.func47, Tryz.ntmps47
  go_wp2
  refine wp_loop_rounds 1 ?_
  rw [rounds_succ]
  go_wp2
  have hB0 : Below w.heap.size w (w.alloc (.cells #[.slice none 0 0, .slice A n c] 60)) := (Below.refl _ _).alloc (Nat.le_refl _) _
  go_loopw [75] (fun i wr => ∃ k : Nat, k ≤ n ∧ i = .int .i64 k ∧ Below w.heap.size w wr) (fun i _ => n - (intOf i).toNat)
  case atStart => exact ⟨0, Nat.zero_le _, rfl, hB0⟩
  case round =>
    clear hB0
    obtain ⟨k, hk, rfl, hB⟩ := hrel
    by_cases hlt : k < n
    · obtain ⟨i, hi⟩ : ∃ i, xs[k]? = some i := ⟨xs[k]'(by rw [← HN.out]; exact hlt), List.getElem?_eq_getElem _⟩
      obtain ⟨g, rfl, ⟨cur, hg0⟩, c0, c1, c2, c3, c4⟩ := Hc.out k i hi
      have hg := at_lt hg0
      have y0 := (hB.cell (p := ⟨g, _, none⟩) hg).trans c0
      have y1 := (hB.cell (p := ⟨g, _, none⟩) hg).trans c1
      have y2 := (hB.cell (p := ⟨g, _, none⟩) hg).trans c2
      have y3 := (hB.cell (p := ⟨g, _, none⟩) hg).trans c3
      have y4 := (hB.cell (p := ⟨g, _, none⟩) hg).trans c4
      have hz := Lib.hid (Hok.out i (List.mem_of_getElem? hi))
      clear c0 c1 c2 c3 c4 hi hg0
      go_wp2_with (go_at_call 83; refine (isaCheck i.op i.a i.b i.c i.n _).mono ?_; rintro e w3 ⟨rfl, b3⟩; rw [show chk i.op i.a i.b i.c i.n = 0 from hz.out])
      go_roundw
      case rel => exact ⟨k + 1, by omega, by go_num, (hB.alloc hB.size _).trans (b3.mono (by have := hB.size; simp; omega))⟩
      case measure => simp [intOf]; omega
    · have hk16 : k = n := by omega
      subst hk16
      go_wp2
      go_ret2
      exact ⟨rfl, hB⟩

set_option maxHeartbeats 1000000 in
/-- There is room: nothing is collected. -/
theorem machineRoom (gx g : Nat) (stack : Int) (regs : List Int) (fv kv gv : Value) (entry value used budget steps : Int) (size half f1 f2 : Int) (A : Option Addr) (n c : Nat) (hv ov qv : Value) (mb : Nat) (need : Int) (w : World)
    (hn : n ≤ 1000000) (hs : 0 ≤ size ∧ size ≤ 1000000) (hx : w.heap[gx]? = some (.cells (macCells g stack regs fv kv gv entry value used budget steps) 94 (0, 0)))
    (h0 : w.heap[g]? = some (.cells (memCells size half f1 (.slice A n c) hv f2 ov qv mb) 129 (0, 0))) (hneed : need ≤ size - n) :
    Calls Tryz.prog 48 #[.pointer (some ⟨gx, 0, none⟩), .int .i64 need] w fun e w' => e = .returned (.bool true) ∧ Kp (fun _ => False) w w' := by
  have H : ∀ W, Kp (fun _ => False) w W → Calls Tryz.prog 34 #[.pointer (some ⟨g, 0, none⟩)] W fun e w' => e = .returned (.int .i64 (size - n)) ∧ ∃ k, w' = W.drewN k := fun W hW => memFree g size half f1 f2 A n c hv ov qv mb W hn hs (hW.at_ h0 id)
  have c0 : w.cell? ⟨gx, 0, none⟩ = some (.pointer (some ⟨g, 0, none⟩)) := (cell_of_row _ _ _ _ _ _ hx).trans mac_m
  have HH := Lib.hid H
  have h1 : ¬ size - n < need := by omega
  clear H hx h0
  go_enter Tryz.func48, Tryz.ntmps48
  go_wp2_with (first
    | (go_at_call 34; refine (HH.out w (Kp.refl _ _)).mono ?_; rintro e w' ⟨rfl, k, rfl⟩)
    | (go_at_call 34; refine (HH.out _ ((Kp.refl _ w).drewN k)).mono ?_; rintro e w' ⟨rfl, k2, rfl⟩))
  go_ret
  exact ⟨ret_bool (by simp), (Kp.refl _ w).drewN (k + k2)⟩
end Go.Proofs.YtjfcbimbnpfdeaaGreat

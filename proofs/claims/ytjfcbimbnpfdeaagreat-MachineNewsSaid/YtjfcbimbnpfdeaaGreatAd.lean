/- The machine's object, field, own; arithmetic. -/
import Derived.Test.YtjfcbimbnpfdeaaGreatAc
namespace Go.Proofs.YtjfcbimbnpfdeaaGreat
open Go.RowKit

theorem MemAt.dr {w : World} {m : MemS} {L : MemL} (h : MemAt w m L) (n : Nat) : MemAt (w.drewN n) m L := h.kp ((Kp.refl (fun _ => False) w).drewN n) (fun _ _ h => h)
theorem MachAt.dr {w : World} {gx : Nat} {M : MS} {L : ML} (h : MachAt w gx M L) (n : Nat) : MachAt (w.drewN n) gx M L := h.still ((Kp.refl _ w).drewN n)
theorem ret_tup2 {k k' : IntKind} {a b c d : Int} (h : a = c) (h' : b = d) : Ending.returned (.tuple #[.int k a, .int k' b]) = .returned (.tuple #[.int k c, .int k' d]) := by rw [h, h']

section
variable {w : World} {gx : Nat} {M : MS} {L : ML} (h : MachAt w gx M L)
include h

set_option maxHeartbeats 400000 in
theorem MachAt.object_yes (x : Int) (hx : isW x) (j : Nat) (o : Ob) (ho : M.mem.objs[j]? = some o) (hj : wToPtr x = M.mem.addr j) :
    Calls Tryz.prog 116 #[.pointer (some ⟨gx, 0, none⟩), .int .u64 x] w fun e w' => e = .returned (.tuple #[.int .i64 o.kind, .int .i64 o.tg]) ∧ ∃ k, w' = w.drewN k := by
  have c0 := h.c0
  have hm := Lib.hid h.mem
  have Ho := Lib.hid ho
  have Hj := Lib.hid hj
  clear h ho hj
  go_enter Tryz.func116, Tryz.ntmps116
  go_wp2
  go_quiet ((first | (go_at_call 72; exact Calls.quiet_of_same (still_of (numToPtr _ _ hx))) | (go_at_call 53; exact Calls.quiet_of ((hm.out.dr _).look_yes j o Ho.out _ Hj.out))))
  go_wp2
  go_ret2
  exact ⟨rfl, _, rfl⟩
set_option maxHeartbeats 400000 in
theorem MachAt.object_no (x : Int) (hx : isW x) (hj : M.mem.no (wToPtr x)) :
    Calls Tryz.prog 116 #[.pointer (some ⟨gx, 0, none⟩), .int .u64 x] w fun e w' => e = .returned (.tuple #[.int .i64 0, .int .i64 0]) ∧ ∃ k, w' = w.drewN k := by
  have c0 := h.c0
  have hm := Lib.hid h.mem
  have Hj := Lib.hid hj
  clear h hj
  go_enter Tryz.func116, Tryz.ntmps116
  go_wp2
  go_quiet ((first | (go_at_call 72; exact Calls.quiet_of_same (still_of (numToPtr _ _ hx))) | (go_at_call 53; exact Calls.quiet_of ((hm.out.dr _).look_no _ Hj.out))))
  go_wp2
  go_ret2
  exact ⟨rfl, _, rfl⟩
set_option maxHeartbeats 400000 in
theorem MachAt.field_yes (x i : Int) (hx : isW x) (j : Nat) (o : Ob) (ho : M.mem.objs[j]? = some o) (hj : wToPtr x = M.mem.addr j) (hi : 0 ≤ i ∧ i < o.fs.length) :
    Calls Tryz.prog 74 #[.pointer (some ⟨gx, 0, none⟩), .int .u64 x, .int .i64 i] w fun e w' => e = .returned (.int .u64 (o.fs.getD i.toNat 0)) ∧ ∃ k, w' = w.drewN k := by
  have c0 := h.c0
  have hm := Lib.hid h.mem
  have Ho := Lib.hid ho
  have Hj := Lib.hid hj
  have Hi := Lib.hid hi
  clear h ho hj hi
  go_enter Tryz.func74, Tryz.ntmps74
  go_wp2
  go_quiet ((first | (go_at_call 72; exact Calls.quiet_of_same (still_of (numToPtr _ _ hx))) | (go_at_call 54; exact Calls.quiet_of ((hm.out.dr _).load_yes j o Ho.out _ _ Hj.out Hi.out))))
  go_wp2
  go_ret
  exact ⟨rfl, _, rfl⟩

/-- Whether the uppermost handler is the uppermost frame's. -/
def MS.own (M : MS) : Bool := match M.hands.getLast? with
  | none => false
  | some p => p.1 == (M.frames.length : Int) - 1
end
theorem hdCells_get (l : List (Int × Int)) (j : Nat) (p : Int × Int) (h : l[j]? = some p) : (hdCells l)[2 * j]? = some (.int .i64 p.1) ∧ (hdCells l)[2 * j + 1]? = some (.int .i64 p.2) := by
  induction l generalizing j with
  | nil => simp at h
  | cons q l ih =>
    cases j with
    | zero => simp at h; subst h; exact ⟨rfl, rfl⟩
    | succ j =>
      have := ih j (by simpa using h)
      rw [show 2 * (j + 1) + 1 = (2 * j + 1) + 2 by omega, show 2 * (j + 1) = 2 * j + 2 by omega]
      exact this
theorem hdCells_len (l : List (Int × Int)) : (hdCells l).length = l.length * 2 := by induction l with | nil => rfl | cons q l ih => simp [hdCells] at ih ⊢; omega
theorem own_cell {w : World} {n : Nat} {e : TypeId} {z : Nat} {v : Value} {l : Nat} {xs : List Value} (h : w.ownsRow n e z v l xs) (hp : 0 < l) :
    ∃ g cap, v = .slice (some ⟨g, 0, none⟩) l cap ∧ l ≤ cap ∧ cap ≤ 9223372036854775807 ∧ (∀ j, j < l * z → w.cell? ⟨g, j, none⟩ = xs[j]?) ∧ (∀ j, w.frozen? ⟨g, j, none⟩ = false) ∧ g < w.heap.size := by
  rcases h with ⟨h0, ⟨rfl, h2⟩ | ⟨g, cap, cur, rfl, h3, h4, h5, h6, h7, h8⟩⟩
  · omega
  · refine ⟨g, cap, rfl, h5, by unfold maxLen at h6; omega, fun j hj => ?_, fun j => frozen_of_row _ _ _ _ _ h4, at_lt h4⟩
    rw [cell_of_row _ _ _ _ _ _ h4, ← h8, List.getElem?_take_of_lt hj]
    simp
theorem own_len {w : World} {n : Nat} {e : TypeId} {z : Nat} {v : Value} {l : Nat} {xs : List Value} (h : w.ownsRow n e z v l xs) :
    ∃ A cap, v = .slice A l cap ∧ l ≤ cap ∧ cap ≤ 9223372036854775807 := by
  rcases h with ⟨h0, ⟨rfl, h2⟩ | ⟨g, cap, cur, rfl, h3, h4, h5, h6, h7, h8⟩⟩
  · subst h2; exact ⟨none, 0, rfl, by omega, by omega⟩
  · exact ⟨_, cap, rfl, h5, by unfold maxLen at h6; omega⟩

set_option maxHeartbeats 400000 in
theorem MachAt.own_is {w : World} {gx : Nat} {M : MS} {L : ML} (h : MachAt w gx M L) (hf : M.frames.length ≤ 1000000) (hn : M.hands.length ≤ 1000000) :
    Calls Tryz.prog 121 #[.pointer (some ⟨gx, 0, none⟩)] w fun e w' => e = .returned (.bool M.own) ∧ ∃ k, w' = w.drewN k := by
  have c18 := h.c18
  have c19 := h.c19
  obtain ⟨A, fc, hfv, hfc, hfm⟩ := own_len h.fr
  rw [hfv] at c18
  rcases Nat.eq_zero_or_pos M.hands.length with hz | hp
  · obtain ⟨B, kc, hkv, hkc, hkm⟩ := own_len h.hd
    rw [hkv, hz] at c19
    have hr : M.own = false := by
      unfold MS.own
      rw [List.length_eq_zero_iff.1 hz]; rfl
    have Hr := Lib.hid hr
    clear h hr hz hkv hfv
    go_enter Tryz.func121, Tryz.ntmps121
    go_wp2
    go_quiet (fail)
    go_wp2
    go_ret
    exact ⟨ret_bool Hr.out.symm, _, rfl⟩
  · obtain ⟨g, kc, hkv, hkc, hkm, hcell, -, -⟩ := own_cell h.hd hp
    rw [hkv] at c19
    obtain ⟨n, hN⟩ : ∃ n, M.hands.length = n + 1 := ⟨M.hands.length - 1, by omega⟩
    obtain ⟨p, hpp⟩ : ∃ p, M.hands[n]? = some p := ⟨_, List.getElem?_eq_getElem (by omega)⟩
    have hc := hcell (2 * n) (by omega)
    rw [(hdCells_get _ _ _ hpp).1] at hc
    have hr : M.own = (p.1 == (M.frames.length : Int) - 1) := by
      unfold MS.own
      rw [List.getLast?_eq_getElem?, hN, Nat.add_sub_cancel, hpp]
    have Hr := Lib.hid hr
    rw [show 2 * n = n * 2 by omega] at hc
    rw [hN] at c19 hkc hn
    clear h hr hcell hkv hfv hN hpp hp
    have e1 : (0 : Int) < ((n + 1 : Nat) : Int) := by omega
    go_enter Tryz.func121, Tryz.ntmps121
    go_wp2
    go_quiet (fail)
    go_wp2
    go_ret
    exact ⟨ret_bool Hr.out.symm, _, rfl⟩
end Go.Proofs.YtjfcbimbnpfdeaaGreat

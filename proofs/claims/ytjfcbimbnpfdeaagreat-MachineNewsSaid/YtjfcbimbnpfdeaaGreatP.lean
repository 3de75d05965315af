/- gc.walk, Check, Reach, Live where all roots are integers. -/
import Derived.Test.YtjfcbimbnpfdeaaGreatO
import Derived.Outline
namespace Go.Proofs.YtjfcbimbnpfdeaaGreat
open Go.RowKit

set_option maxHeartbeats 400000 in
theorem walkGood (x : Int) (b0 b1 b2 : Value) (w : World) (h : isW x) (ho : x % 2 = 1) :
    Calls Tryz.prog 149 #[.int .u64 x, b0, b1, b2] w fun e w' => e = .returned (.bool true) ∧ w = w' := by
  have hi : wIsInt x = true := by simp [wIsInt, ho]
  have Hi := Lib.hid hi
  clear hi ho
  go_enter Tryz.func149, Tryz.ntmps149
  go_wp2_with (go_at_call 101; refine (numIsInt _ _ h).mono ?_; rintro e w' ⟨rfl, rfl⟩; rw [Hi.out])
  go_ret
  exact ⟨rfl, rfl⟩

set_option maxRecDepth 100000 in
set_option maxHeartbeats 1000000 in
theorem gcWalk_ints (g : Nat) (v : Value) (xs : List Int) (w : World) (hv : Rw w 51 .u64 v xs) (hn : xs.length ≤ 1000000) (hx : ∀ j, j < xs.length → isW (xs.getD j 0) ∧ xs.getD j 0 % 2 = 1) :
    Calls Tryz.prog 127 #[.pointer (some ⟨g, 0, none⟩), v] w fun e w' => e = .returned (.tuple #[.slice none 0 0, .bool true]) ∧ Below w.heap.size w w' := by
  have hmm := @run_makeMap Tryz.prog
  have hmf : ∀ (fn : Fn) (first cap : Array Value) (w : World), (Instr.makeFunc fn first cap).run Tryz.prog w = .ok (.func fn first cap) w := fun _ _ _ _ => rfl
  obtain ⟨A, c, rfl, hc1, hc2⟩ := hv.len
  have Hx := Lib.hid hx
  clear hx
  go_enter Tryz.func127, Tryz.ntmps127
  go_wp2
  go_step3
  go_wp2
  obtain ⟨W, hW⟩ : ∃ W, W = (((w.alloc (Obj.cells #[Value.pointer (some { block := g, off := 0 })] 79)).alloc (Obj.cells #[Value.slice none 0 0] 68)).alloc (Obj.map #[] 0)).alloc (Obj.cells #[Value.map (some (w.heap.size + 1 + 1))] 127) := ⟨_, rfl⟩
  have hBW : Below w.heap.size w W := by rw [hW]; exact ((((Below.refl _ _).alloc (Nat.le_refl _) _).alloc (by simp) _).alloc (by simp; omega) _).alloc (by simp; omega) _
  have hk1 : W.heap[w.heap.size + 1]? = some (.cells #[Value.slice none 0 0] 68 (0, 0)) := by
    rw [hW]
    have h1 := heap_alloc_new (w.alloc (Obj.cells #[Value.pointer (some { block := g, off := 0 })] 79)) (.cells #[Value.slice none 0 0] 68)
    rw [World.size_alloc] at h1
    exact (Below.heap_alloc _ _ _ (by simp)).trans ((Below.heap_alloc _ _ _ (by simp)).trans h1)
  have hc1 : W.cell? ⟨w.heap.size + 1, 0, none⟩ = some (.slice none 0 0) := cell_of_row _ _ _ _ _ _ hk1
  rw [← hW]
  clear hW hk1
  go_loop [24, 9, 11] (fun i ok _ => ∃ k : Nat, k ≤ xs.length ∧ i = .int .i64 k ∧ ok = .bool true) (fun i _ _ => xs.length - (intOf i).toNat)
  case atStart => exact ⟨0, Nat.zero_le _, rfl, rfl⟩
  case round =>
    obtain ⟨k, hk, rfl, rfl⟩ := hrel
    by_cases hlt : k < xs.length
    · obtain ⟨gv, cap, hh, _, _, hcell, _, hgl⟩ := hv.some_ (by omega)
      injection hh with hh _ hh2
      subst hh hh2
      have hc := (hBW.cell (p := ⟨gv, k, none⟩) hgl).trans (hcell k hlt)
      obtain ⟨hx1, hx2⟩ := Hx.out k hlt
      obtain ⟨x, hx0⟩ : ∃ x, xs.getD k 0 = x := ⟨_, rfl⟩
      rw [hx0] at hc hx1 hx2
      clear hx0 hcell hv
      go_wp2_with (go_at_call 149; refine (walkGood _ _ _ _ _ hx1 hx2).mono ?_; rintro e w' ⟨rfl, rfl⟩)
      go_round
      case rel => exact ⟨k + 1, by omega, by go_num, rfl⟩
      case measure => simp [intOf]; omega
    · go_wp2
      go_step3
      go_wp2
      refine wp_loop_rounds 1 ?_
      rw [rounds_succ]
      go_wp2
      rw [Exit.noGoto_ret]
      go_ret2
      exact ⟨rfl, hBW⟩
end Go.Proofs.YtjfcbimbnpfdeaaGreat

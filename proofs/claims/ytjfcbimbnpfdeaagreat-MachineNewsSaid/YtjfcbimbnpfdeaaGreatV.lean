/- The reference's machine, new: its rows of words. -/
import Derived.Test.YtjfcbimbnpfdeaaGreatU
namespace Go.Proofs.YtjfcbimbnpfdeaaGreat
open Go.RowKit

theorem info71 : (Tryz.prog.info? 71).map (fun i => (i.zero, i.size, i.bytes)) = some (some (.agg #[.bool false, .int .i64 0, .int .i64 0]), 3, 24) := by kernel_rfl

/-- A row of n zero words: three cells each. -/
def zc (i : Nat) : Value := if i % 3 = 0 then .bool false else .int .i64 0
def zwl (n : Nat) : List Value := (List.range (n * 3)).map zc
theorem zwl_len (n : Nat) : (zwl n).length = n * 3 := by simp [zwl]
theorem zwl_get (n j : Nat) (h : j < n * 3) : (zwl n)[j]? = some (zc j) := by simp [zwl, h]
theorem zwl_some {n j : Nat} {u : Value} (h : (zwl n)[j]? = some u) : j < n * 3 ∧ u = zc j := by
  have hj : j < n * 3 := by
    have := (List.getElem?_eq_some_iff.1 h).1
    rwa [zwl_len] at this
  rw [zwl_get n j hj] at h
  injection h with h
  exact ⟨hj, h.symm⟩
theorem zwl_app (n m : Nat) : zwl n ++ zwl m = zwl (n + m) := by
  apply List.ext_getElem?
  intro j
  by_cases h1 : j < n * 3
  · rw [List.getElem?_append_left (by rw [zwl_len]; exact h1), zwl_get n j h1, zwl_get (n + m) j (by omega)]
  · rw [List.getElem?_append_right (by rw [zwl_len]; omega), zwl_len]
    by_cases h2 : j < (n + m) * 3
    · rw [zwl_get m _ (by omega), zwl_get (n + m) j h2]
      unfold zc
      rw [show (j - n * 3) % 3 = j % 3 by omega]
    · rw [List.getElem?_eq_none (by rw [zwl_len]; omega), List.getElem?_eq_none (by rw [zwl_len]; omega)]
theorem zwl_one (n : Nat) : ∀ u ∈ zwl n, u.oneCell' = true := by
  intro u hu
  simp only [zwl, List.mem_map] at hu
  obtain ⟨i, _, rfl⟩ := hu
  unfold zc
  split <;> rfl
theorem made_zwl (n : Nat) : (madeCells #[.bool false, .int .i64 0, .int .i64 0] (n * 3)).toList = zwl n := by
  unfold madeCells zwl
  rw [Array.toList_map, Array.toList_range]
  apply List.map_congr_left
  intro i _
  unfold zc
  have : i % 3 = 0 ∨ i % 3 = 1 ∨ i % 3 = 2 := by omega
  rcases this with h | h | h <;> simp [h]

def rfCells (words stack : Int) (gg : Nat) : Array Value :=
  #[.int .i64 words, .int .i64 stack, .slice none 0 0, .int .i64 0, .bool false, .int .i64 0, .int .i64 0, .bool false, .int .i64 0, .int .i64 0, .bool false, .int .i64 0, .int .i64 0, .bool false, .int .i64 0, .int .i64 0, .bool false, .int .i64 0, .int .i64 0, .bool false, .int .i64 0, .int .i64 0, .bool false, .int .i64 0, .int .i64 0, .bool false, .int .i64 0, .int .i64 0, .bool false, .int .i64 0, .int .i64 0, .bool false, .int .i64 0, .int .i64 0, .bool false, .int .i64 0, .int .i64 0, .bool false, .int .i64 0, .int .i64 0, .bool false, .int .i64 0, .int .i64 0, .bool false, .int .i64 0, .int .i64 0, .bool false, .int .i64 0, .int .i64 0, .bool false, .int .i64 0, .int .i64 0, .slice none 0 0, .slice none 0 0, .slice (some ⟨gg, 0, none⟩) 1024 1024, .bool false, .int .i64 0, .int .i64 0, .bool false, .int .i64 0, .int .i64 0, .int .i64 0, .int .i64 0]
theorem rf_zero (words stack : Int) (gg j : Nat) (h : (4 ≤ j ∧ j < 52) ∨ (55 ≤ j ∧ j < 61)) : (rfCells words stack gg)[j]? = some (zc (j - 1)) := by
  rcases h with h | h
  · have : j = 4 ∨ j = 5 ∨ j = 6 ∨ j = 7 ∨ j = 8 ∨ j = 9 ∨ j = 10 ∨ j = 11 ∨ j = 12 ∨ j = 13 ∨ j = 14 ∨ j = 15 ∨ j = 16 ∨ j = 17 ∨ j = 18 ∨ j = 19 ∨ j = 20 ∨ j = 21 ∨ j = 22 ∨ j = 23 ∨ j = 24 ∨ j = 25 ∨ j = 26 ∨ j = 27 ∨ j = 28 ∨ j = 29 ∨ j = 30 ∨ j = 31 ∨ j = 32 ∨ j = 33 ∨ j = 34 ∨ j = 35 ∨ j = 36 ∨ j = 37 ∨ j = 38 ∨ j = 39 ∨ j = 40 ∨ j = 41 ∨ j = 42 ∨ j = 43 ∨ j = 44 ∨ j = 45 ∨ j = 46 ∨ j = 47 ∨ j = 48 ∨ j = 49 ∨ j = 50 ∨ j = 51 := by omega
    rcases this with rfl | rfl | rfl | rfl | rfl | rfl | rfl | rfl | rfl | rfl | rfl | rfl | rfl | rfl | rfl | rfl | rfl | rfl | rfl | rfl | rfl | rfl | rfl | rfl | rfl | rfl | rfl | rfl | rfl | rfl | rfl | rfl | rfl | rfl | rfl | rfl | rfl | rfl | rfl | rfl | rfl | rfl | rfl | rfl | rfl | rfl | rfl | rfl <;> rfl
  · have : j = 55 ∨ j = 56 ∨ j = 57 ∨ j = 58 ∨ j = 59 ∨ j = 60 := by omega
    rcases this with rfl | rfl | rfl | rfl | rfl | rfl <;> rfl

structure RFresh (w : World) (gy gg : Nat) (words stack : Int) : Prop where
  mac : w.heap[gy]? = some (.cells (rfCells words stack gg) 78 (0, 0))
  glob : w.heap[gg]? = some (.cells (zwl 1024).toArray 71 (0, 0))
theorem RFresh.kp {w w' : World} {gy gg : Nat} {words stack : Int} (h : RFresh w gy gg words stack) (k : Kp (fun _ => False) w w') : RFresh w' gy gg words stack :=
  ⟨k.at_ h.mac id, k.at_ h.glob id⟩

theorem refMake (w : World) (n : Nat) (hn : n ≤ 1000000) : (Instr.makeSlice 76 (.int .i64 (n : Int)) (.int .i64 (n : Int))).run Tryz.prog w = .ok (.slice (some ⟨w.heap.size, 0, none⟩) n n) (w.alloc (.cells (zwl n).toArray 71)) := by
  obtain ⟨i, hi, hz, hs, hb⟩ := info_parts info71
  have := run_make (P := Tryz.prog) w 76 71 i _ Tryz.underlying76 hi hz .i64 .i64 n n (by omega) (by omega) (by rw [hb]; omega) (by omega)
  rw [hs, Int.toNat_natCast] at this
  rw [this, ← made_zwl]
  rfl

set_option maxRecDepth 100000 in
set_option maxHeartbeats 1000000 in
theorem refNew (words stack : Int) (w : World) (h0 : 64 ≤ words) (h1 : words ≤ 65536) (h2 : 16 ≤ stack) (h3 : stack ≤ 65536) :
    Calls Tryz.prog 22 #[.int .i64 words, .int .i64 stack] w fun e w' => e = .returned (.tuple #[.pointer (some ⟨w.heap.size + 1, 0, none⟩), .bool true]) ∧
      RFresh w' (w.heap.size + 1) w.heap.size words stack ∧ Below w.heap.size w w' := by
  have hmk := refMake w 1024 (by omega)
  rw [show ((1024 : Nat) : Int) = 1024 from rfl] at hmk
  obtain ⟨gs, hgs⟩ : ∃ gs, gs = (zwl 1024).toArray := ⟨_, rfl⟩
  rw [← hgs] at hmk
  go_enter Tryz.func22, Tryz.ntmps22
  go_wp2
  go_ret2
  have hb : Below w.heap.size w (w.alloc (.cells gs 71)) := (Below.refl _ _).alloc (Nat.le_refl _) _
  have h1 := heap_alloc_new (w.alloc (.cells gs 71)) (.cells (rfCells words stack w.heap.size) 78)
  rw [World.size_alloc] at h1
  have k : Kp (fun _ => False) (w.alloc (.cells gs 71)) ((w.alloc (.cells gs 71)).alloc (.cells (rfCells words stack w.heap.size) 78)) := (Kp.refl _ _).alloc _
  have h2 := k.at_ (heap_alloc_new w (.cells gs 71)) id
  subst hgs
  exact ⟨rfl, ⟨h1, h2⟩, hb.alloc hb.size _⟩
theorem refNew_no (words stack : Int) (w : World) (h : words < 64 ∨ 65536 < words ∨ stack < 16 ∨ 65536 < stack) :
    Calls Tryz.prog 22 #[.int .i64 words, .int .i64 stack] w fun e w' => e = .returned (.tuple #[.pointer none, .bool false]) ∧ w = w' := by
  by_cases a1 : words < 64
  · go_enter Tryz.func22, Tryz.ntmps22
    go_wp2
    go_ret2
    exact ⟨rfl, rfl⟩
  · by_cases a2 : 65536 < words
    · go_enter Tryz.func22, Tryz.ntmps22
      go_wp2
      go_ret2
      exact ⟨rfl, rfl⟩
    · by_cases a3 : stack < 16
      · go_enter Tryz.func22, Tryz.ntmps22
        go_wp2
        go_ret2
        exact ⟨rfl, rfl⟩
      · have a4 : 65536 < stack := by omega
        go_enter Tryz.func22, Tryz.ntmps22
        go_wp2
        go_ret2
        exact ⟨rfl, rfl⟩
end Go.Proofs.YtjfcbimbnpfdeaaGreat

/- Instructions (layer 3): an operation's name and form, names of a form. -/
import Derived.Test.YtjfcbimbnpfdeaaGreatA
import Derived.Deep.MidRow
import Derived.Laws.NewBlocks
import Derived.Deep.DeepCutAuto
import Derived.Deep.CutBlock
namespace Go.Proofs.YtjfcbimbnpfdeaaGreat
open Go.RowKit
def hasB (l : List UInt8) (c : Int) : Bool := l.any fun b => (b.toNat : Int) == c

theorem hasB_take (s : ByteArray) (c : Int) (k : Nat) (h : k < s.size) : hasB (s.data.toList.take (k + 1)) c = (hasB (s.data.toList.take k) c || (((s[k]'h).toNat : Int) == c)) := by
  unfold hasB
  rw [List.take_succ_eq_append_getElem (by simpa using h)]
  simp [List.any_append]
  rfl

theorem hasB_mono (l : List UInt8) (c : Int) (k : Nat) (h : hasB (l.take k) c = true) : hasB l c = true := by
  unfold hasB at *
  rw [List.any_eq_true] at *
  obtain ⟨x, hx, hy⟩ := h
  exact ⟨x, List.mem_of_mem_take hx, hy⟩

set_option maxHeartbeats 400000 in
theorem isaNames (s : ByteArray) (c : Int) (w : World) (hs : s.size ≤ 1000) :
    Calls Tryz.prog 125 #[.string s, .int .u8 c] w fun e w' => e = .returned (.bool (hasB s.data.toList c)) ∧ w = w' := by
  go_enter Tryz.func125, Tryz.ntmps125
  go_wp2
  go_loop [5] (fun i => ∃ k : Nat, k ≤ s.size ∧ i = .int .i64 k ∧ hasB (s.data.toList.take k) c = false) (fun i => s.size - (intOf i).toNat)
  case atStart => exact ⟨0, Nat.zero_le _, rfl, rfl⟩
  case round =>
    obtain ⟨k, hk, rfl, hno⟩ := hrel
    have Hno := Lib.hid hno
    clear hno
    by_cases hlt : k < s.size
    · have ht := hasB_take s c k hlt
      by_cases hc : ((s[k]'hlt).toNat : Int) = c
      · have hyes : hasB s.data.toList c = true := hasB_mono _ _ (k+1) (by rw [ht]; simp [hc])
        have Hyes := Lib.hid hyes
        have HB : ((((s[k]'hlt).toNat : Int) == c)) = true := by simp [hc]
        clear hc ht hyes
        go_wp2
        go_ret
        exact ⟨ret_bool (by rw [Hyes.out]), rfl⟩
      · have HB : ((((s[k]'hlt).toNat : Int) == c)) = false := by simp [hc]
        have H2 := Lib.hid (show hasB (s.data.toList.take (k+1)) c = false by rw [ht, Hno.out, HB]; rfl)
        clear ht hc
        go_wp2
        go_round
        case rel => exact ⟨k + 1, by omega, by go_num, H2.out⟩
        case measure => simp [intOf]; omega
    · have hyes := Lib.hid (show hasB s.data.toList c = false by
        have := Hno.out
        rwa [List.take_of_length_le (by simp; omega)] at this)
      go_wp2
      go_ret
      exact ⟨ret_bool (by rw [hyes.out]), rfl⟩
def nameTab : Array Value := #[.string ⟨#[]⟩, .string ⟨#[105, 110, 116]⟩, .string ⟨#[108, 105, 116]⟩, .string ⟨#[109, 111, 118, 101]⟩, .string ⟨#[112, 117, 116]⟩, .string ⟨#[108, 111, 97, 100]⟩, .string ⟨#[115, 97, 118, 101]⟩, .string ⟨#[97, 100, 100]⟩, .string ⟨#[115, 117, 98]⟩, .string ⟨#[109, 117, 108]⟩, .string ⟨#[100, 105, 118]⟩, .string ⟨#[109, 111, 100]⟩, .string ⟨#[110, 101, 103]⟩, .string ⟨#[108, 101, 115, 115]⟩, .string ⟨#[97, 116, 109, 111, 115, 116]⟩, .string ⟨#[115, 97, 109, 101]⟩, .string ⟨#[116, 117, 112, 108, 101]⟩, .string ⟨#[99, 108, 111, 115, 117, 114, 101]⟩, .string ⟨#[114, 101, 102]⟩, .string ⟨#[102, 105, 101, 108, 100]⟩, .string ⟨#[102, 105, 108, 108]⟩, .string ⟨#[97, 115, 115, 105, 103, 110]⟩, .string ⟨#[116, 97, 103]⟩, .string ⟨#[106, 117, 109, 112]⟩, .string ⟨#[117, 110, 108, 101, 115, 115]⟩, .string ⟨#[101, 110, 116, 101, 114]⟩, .string ⟨#[99, 97, 108, 108]⟩, .string ⟨#[116, 97, 105, 108]⟩, .string ⟨#[114, 101, 116, 117, 114, 110]⟩, .string ⟨#[104, 97, 110, 100, 108, 101]⟩, .string ⟨#[117, 110, 104, 97, 110, 100, 108, 101]⟩, .string ⟨#[114, 97, 105, 115, 101]⟩, .string ⟨#[106, 111, 105, 110]⟩, .string ⟨#[115, 105, 122, 101]⟩, .string ⟨#[115, 116, 114]⟩, .string ⟨#[111, 114, 100]⟩, .string ⟨#[100, 105, 103, 105, 116, 115]⟩]
theorem there_new (w : World) (z : Array Value) (t : Nat) (n : Nat) (hn : n = z.size) : (w.alloc (.cells z t)).there w.heap.size 0 n := by
  intro j hj
  have hb := heap_alloc_new w (.cells z t)
  refine ⟨?_, ?_⟩
  · rw [cell_of_row _ _ _ z t (0,0) hb]; simp; omega
  · exact frozen_of_row _ _ _ z t hb
theorem setCells_new (t : Nat) : ∀ (vs : List Value) (o : Nat) (cur : Array Value) (w : World), o + vs.length = cur.size →
    (w.alloc (.cells cur t)).setCells w.heap.size o vs = w.alloc (.cells (cur.toList.take o ++ vs).toArray t)
  | [], o, cur, w, h => by
    simp only [World.setCells, List.append_nil]
    rw [List.take_of_length_le (by simp at h ⊢; omega)]
  | v :: vs, o, cur, w, h => by
    simp only [World.setCells]
    rw [World.setCell_alloc_at cur t w.heap.size o v rfl]
    rw [setCells_new t vs (o+1) _ w (by simp at h ⊢; omega)]
    congr 2
    simp at h
    congr 1
    rw [show v :: vs = [v] ++ vs from rfl, ← List.append_assoc]
    congr 1
    rw [Array.toList_setIfInBounds, List.take_set, List.take_succ_eq_append_getElem (by simp; omega), List.set_append_right _ _ (by simp; omega)]
    simp
    rw [Nat.min_eq_left (by omega)]; simp
theorem setCells_tab (w : World) (z : Array Value) (tab : Array Value) (t : Nat) (h : tab.size = z.size) : (w.alloc (.cells z t)).setCells w.heap.size 0 tab.toList = w.alloc (.cells tab t) := by
  rw [setCells_new t tab.toList 0 z w (by simp [h])]
  simp


def nameZ : Array Value := (List.replicate 37 (Value.string ⟨#[]⟩)).toArray
set_option maxRecDepth 100000 in
set_option maxHeartbeats 400000 in
theorem isaName_any (op : Int) (nm : ByteArray) (w : World) (hop : 1 ≤ op ∧ op ≤ 36) (hnm : nameTab[op.toNat]? = some (.string nm)) :
    Calls Tryz.prog 123 #[.int .i64 op] w fun e w' => e = .returned (.string nm) ∧ Below w.heap.size w w' := by
  go_enter Tryz.func123, Tryz.ntmps123
  go_upto_region 1 with (fail)
  refine wp_region_lit ?_
  refine wpList_plain (by rfl) (fun K hK => ?_)
  go_simp
  refine hK _ _ ?_
  refine wpList_plain (by rfl) (fun K2 hK2 => ?_)
  go_simp
  refine hK2 _ _ ?_
  clear hK hK2 K K2
  refine wpList_store_mid (by rfl) 209 _ _ (by rfl) w.heap.size 0 nameTab (by rfl) (by rfl) (there_new w nameZ 209 37 (by rfl)) (by kernel_rfl) (by decide +kernel) ?_
  rename_i K3 Q3 hgo
  refine wpList_nil ?_
  refine hgo _ _ ?_
  change Code.wp _ _ _ { tmps := #[.int .i64 op, undef, .string ⟨#[]⟩, .pointer (some ⟨w.heap.size, 0, none⟩), .agg nameTab, undef, undef, undef, undef, undef, undef, undef, undef, undef], defers := [] } ((w.alloc (.cells nameZ 209)).setCells w.heap.size 0 nameTab.toList)
  rw [setCells_tab w nameZ nameTab 209 (by rfl)]
  clear hgo
  have hc : (w.alloc (.cells nameTab 209)).cell? ⟨w.heap.size, op.toNat, none⟩ = some (.string nm) := by
    rw [cell_of_row _ _ _ nameTab 209 (0,0) (heap_alloc_new w _), hnm]
  obtain ⟨hop1, hop2⟩ := hop
  clear hnm
  go_wp2
  go_ret
  exact ⟨rfl, (Below.refl _ _).alloc (Nat.le_refl _) _⟩

def formOf (op : Int) : ByteArray :=
  if op = 1 ∨ op = 2 ∨ op = 4 ∨ op = 5 ∨ op = 6 ∨ op = 16 ∨ op = 17 ∨ op = 24 then ⟨#[97, 110]⟩ else
  if op = 3 ∨ op = 12 ∨ op = 18 ∨ op = 21 ∨ op = 22 ∨ op = 26 ∨ op = 27 ∨ op = 33 ∨ op = 34 ∨ op = 36 then ⟨#[97, 98]⟩ else
  if op = 19 ∨ op = 20 then ⟨#[97, 98, 110]⟩ else
  if op = 23 ∨ op = 25 ∨ op = 29 then ⟨#[110]⟩ else
  if op = 28 ∨ op = 31 then ⟨#[97]⟩ else
  if op = 30 then ⟨#[]⟩ else
  ⟨#[97, 98, 99]⟩
theorem nameTab_some (op : Int) (h : 1 ≤ op ∧ op ≤ 36) : ∃ nm, nameTab[op.toNat]? = some (.string nm) ∧ nm.toList.isEmpty = false := by
  obtain ⟨h1, h2⟩ := h
  obtain ⟨n, rfl⟩ := Int.eq_ofNat_of_zero_le (show 0 ≤ op by omega)
  simp only [Int.toNat_natCast]
  have : n = 1 ∨ n = 2 ∨ n = 3 ∨ n = 4 ∨ n = 5 ∨ n = 6 ∨ n = 7 ∨ n = 8 ∨ n = 9 ∨ n = 10 ∨ n = 11 ∨ n = 12 ∨ n = 13 ∨ n = 14 ∨ n = 15 ∨ n = 16 ∨ n = 17 ∨ n = 18 ∨ n = 19 ∨ n = 20 ∨ n = 21 ∨ n = 22 ∨ n = 23 ∨ n = 24 ∨ n = 25 ∨ n = 26 ∨ n = 27 ∨ n = 28 ∨ n = 29 ∨ n = 30 ∨ n = 31 ∨ n = 32 ∨ n = 33 ∨ n = 34 ∨ n = 35 ∨ n = 36 := by omega
  rcases this with rfl | rfl | rfl | rfl | rfl | rfl | rfl | rfl | rfl | rfl | rfl | rfl | rfl | rfl | rfl | rfl | rfl | rfl | rfl | rfl | rfl | rfl | rfl | rfl | rfl | rfl | rfl | rfl | rfl | rfl | rfl | rfl | rfl | rfl | rfl | rfl <;> exact ⟨_, rfl, by decide +kernel⟩

set_option maxHeartbeats 400000 in
theorem isaForm1 (w : World) : Calls Tryz.prog 124 #[.int .i64 1] w fun e w' => e = .returned (.string ⟨#[97, 110]⟩) ∧ Below w.heap.size w w' := by
  go_enter Tryz.func124, Tryz.ntmps124
  go_wp2
  go_ret
  exact ⟨rfl, Below.refl _ _⟩
set_option maxHeartbeats 400000 in
theorem isaForm2 (w : World) : Calls Tryz.prog 124 #[.int .i64 2] w fun e w' => e = .returned (.string ⟨#[97, 110]⟩) ∧ Below w.heap.size w w' := by
  go_enter Tryz.func124, Tryz.ntmps124
  go_wp2
  go_ret
  exact ⟨rfl, Below.refl _ _⟩
set_option maxHeartbeats 400000 in
theorem isaForm3 (w : World) : Calls Tryz.prog 124 #[.int .i64 3] w fun e w' => e = .returned (.string ⟨#[97, 98]⟩) ∧ Below w.heap.size w w' := by
  go_enter Tryz.func124, Tryz.ntmps124
  go_wp2
  go_ret
  exact ⟨rfl, Below.refl _ _⟩
set_option maxHeartbeats 400000 in
theorem isaForm4 (w : World) : Calls Tryz.prog 124 #[.int .i64 4] w fun e w' => e = .returned (.string ⟨#[97, 110]⟩) ∧ Below w.heap.size w w' := by
  go_enter Tryz.func124, Tryz.ntmps124
  go_wp2
  go_ret
  exact ⟨rfl, Below.refl _ _⟩
set_option maxHeartbeats 400000 in
theorem isaForm5 (w : World) : Calls Tryz.prog 124 #[.int .i64 5] w fun e w' => e = .returned (.string ⟨#[97, 110]⟩) ∧ Below w.heap.size w w' := by
  go_enter Tryz.func124, Tryz.ntmps124
  go_wp2
  go_ret
  exact ⟨rfl, Below.refl _ _⟩
set_option maxHeartbeats 400000 in
theorem isaForm6 (w : World) : Calls Tryz.prog 124 #[.int .i64 6] w fun e w' => e = .returned (.string ⟨#[97, 110]⟩) ∧ Below w.heap.size w w' := by
  go_enter Tryz.func124, Tryz.ntmps124
  go_wp2
  go_ret
  exact ⟨rfl, Below.refl _ _⟩
set_option maxHeartbeats 400000 in
theorem isaForm7 (w : World) : Calls Tryz.prog 124 #[.int .i64 7] w fun e w' => e = .returned (.string ⟨#[97, 98, 99]⟩) ∧ Below w.heap.size w w' := by
  go_enter Tryz.func124, Tryz.ntmps124
  go_wp2_with (go_at_call 123; refine (isaName_any 7 ⟨#[97, 100, 100]⟩ _ (by decide) (by rfl)).mono ?_; rintro e w' ⟨rfl, hb⟩)
  go_ret
  exact ⟨rfl, by assumption⟩
set_option maxHeartbeats 400000 in
theorem isaForm8 (w : World) : Calls Tryz.prog 124 #[.int .i64 8] w fun e w' => e = .returned (.string ⟨#[97, 98, 99]⟩) ∧ Below w.heap.size w w' := by
  go_enter Tryz.func124, Tryz.ntmps124
  go_wp2_with (go_at_call 123; refine (isaName_any 8 ⟨#[115, 117, 98]⟩ _ (by decide) (by rfl)).mono ?_; rintro e w' ⟨rfl, hb⟩)
  go_ret
  exact ⟨rfl, by assumption⟩
set_option maxHeartbeats 400000 in
theorem isaForm9 (w : World) : Calls Tryz.prog 124 #[.int .i64 9] w fun e w' => e = .returned (.string ⟨#[97, 98, 99]⟩) ∧ Below w.heap.size w w' := by
  go_enter Tryz.func124, Tryz.ntmps124
  go_wp2_with (go_at_call 123; refine (isaName_any 9 ⟨#[109, 117, 108]⟩ _ (by decide) (by rfl)).mono ?_; rintro e w' ⟨rfl, hb⟩)
  go_ret
  exact ⟨rfl, by assumption⟩
set_option maxHeartbeats 400000 in
theorem isaForm10 (w : World) : Calls Tryz.prog 124 #[.int .i64 10] w fun e w' => e = .returned (.string ⟨#[97, 98, 99]⟩) ∧ Below w.heap.size w w' := by
  go_enter Tryz.func124, Tryz.ntmps124
  go_wp2_with (go_at_call 123; refine (isaName_any 10 ⟨#[100, 105, 118]⟩ _ (by decide) (by rfl)).mono ?_; rintro e w' ⟨rfl, hb⟩)
  go_ret
  exact ⟨rfl, by assumption⟩
set_option maxHeartbeats 400000 in
theorem isaForm11 (w : World) : Calls Tryz.prog 124 #[.int .i64 11] w fun e w' => e = .returned (.string ⟨#[97, 98, 99]⟩) ∧ Below w.heap.size w w' := by
  go_enter Tryz.func124, Tryz.ntmps124
  go_wp2_with (go_at_call 123; refine (isaName_any 11 ⟨#[109, 111, 100]⟩ _ (by decide) (by rfl)).mono ?_; rintro e w' ⟨rfl, hb⟩)
  go_ret
  exact ⟨rfl, by assumption⟩
set_option maxHeartbeats 400000 in
theorem isaForm12 (w : World) : Calls Tryz.prog 124 #[.int .i64 12] w fun e w' => e = .returned (.string ⟨#[97, 98]⟩) ∧ Below w.heap.size w w' := by
  go_enter Tryz.func124, Tryz.ntmps124
  go_wp2
  go_ret
  exact ⟨rfl, Below.refl _ _⟩
set_option maxHeartbeats 400000 in
theorem isaForm13 (w : World) : Calls Tryz.prog 124 #[.int .i64 13] w fun e w' => e = .returned (.string ⟨#[97, 98, 99]⟩) ∧ Below w.heap.size w w' := by
  go_enter Tryz.func124, Tryz.ntmps124
  go_wp2_with (go_at_call 123; refine (isaName_any 13 ⟨#[108, 101, 115, 115]⟩ _ (by decide) (by rfl)).mono ?_; rintro e w' ⟨rfl, hb⟩)
  go_ret
  exact ⟨rfl, by assumption⟩
set_option maxHeartbeats 400000 in
theorem isaForm14 (w : World) : Calls Tryz.prog 124 #[.int .i64 14] w fun e w' => e = .returned (.string ⟨#[97, 98, 99]⟩) ∧ Below w.heap.size w w' := by
  go_enter Tryz.func124, Tryz.ntmps124
  go_wp2_with (go_at_call 123; refine (isaName_any 14 ⟨#[97, 116, 109, 111, 115, 116]⟩ _ (by decide) (by rfl)).mono ?_; rintro e w' ⟨rfl, hb⟩)
  go_ret
  exact ⟨rfl, by assumption⟩
set_option maxHeartbeats 400000 in
theorem isaForm15 (w : World) : Calls Tryz.prog 124 #[.int .i64 15] w fun e w' => e = .returned (.string ⟨#[97, 98, 99]⟩) ∧ Below w.heap.size w w' := by
  go_enter Tryz.func124, Tryz.ntmps124
  go_wp2_with (go_at_call 123; refine (isaName_any 15 ⟨#[115, 97, 109, 101]⟩ _ (by decide) (by rfl)).mono ?_; rintro e w' ⟨rfl, hb⟩)
  go_ret
  exact ⟨rfl, by assumption⟩
set_option maxHeartbeats 400000 in
theorem isaForm16 (w : World) : Calls Tryz.prog 124 #[.int .i64 16] w fun e w' => e = .returned (.string ⟨#[97, 110]⟩) ∧ Below w.heap.size w w' := by
  go_enter Tryz.func124, Tryz.ntmps124
  go_wp2
  go_ret
  exact ⟨rfl, Below.refl _ _⟩
set_option maxHeartbeats 400000 in
theorem isaForm17 (w : World) : Calls Tryz.prog 124 #[.int .i64 17] w fun e w' => e = .returned (.string ⟨#[97, 110]⟩) ∧ Below w.heap.size w w' := by
  go_enter Tryz.func124, Tryz.ntmps124
  go_wp2
  go_ret
  exact ⟨rfl, Below.refl _ _⟩
set_option maxHeartbeats 400000 in
theorem isaForm18 (w : World) : Calls Tryz.prog 124 #[.int .i64 18] w fun e w' => e = .returned (.string ⟨#[97, 98]⟩) ∧ Below w.heap.size w w' := by
  go_enter Tryz.func124, Tryz.ntmps124
  go_wp2
  go_ret
  exact ⟨rfl, Below.refl _ _⟩
set_option maxHeartbeats 400000 in
theorem isaForm19 (w : World) : Calls Tryz.prog 124 #[.int .i64 19] w fun e w' => e = .returned (.string ⟨#[97, 98, 110]⟩) ∧ Below w.heap.size w w' := by
  go_enter Tryz.func124, Tryz.ntmps124
  go_wp2
  go_ret
  exact ⟨rfl, Below.refl _ _⟩
set_option maxHeartbeats 400000 in
theorem isaForm20 (w : World) : Calls Tryz.prog 124 #[.int .i64 20] w fun e w' => e = .returned (.string ⟨#[97, 98, 110]⟩) ∧ Below w.heap.size w w' := by
  go_enter Tryz.func124, Tryz.ntmps124
  go_wp2
  go_ret
  exact ⟨rfl, Below.refl _ _⟩
set_option maxHeartbeats 400000 in
theorem isaForm21 (w : World) : Calls Tryz.prog 124 #[.int .i64 21] w fun e w' => e = .returned (.string ⟨#[97, 98]⟩) ∧ Below w.heap.size w w' := by
  go_enter Tryz.func124, Tryz.ntmps124
  go_wp2
  go_ret
  exact ⟨rfl, Below.refl _ _⟩
set_option maxHeartbeats 400000 in
theorem isaForm22 (w : World) : Calls Tryz.prog 124 #[.int .i64 22] w fun e w' => e = .returned (.string ⟨#[97, 98]⟩) ∧ Below w.heap.size w w' := by
  go_enter Tryz.func124, Tryz.ntmps124
  go_wp2
  go_ret
  exact ⟨rfl, Below.refl _ _⟩
set_option maxHeartbeats 400000 in
theorem isaForm23 (w : World) : Calls Tryz.prog 124 #[.int .i64 23] w fun e w' => e = .returned (.string ⟨#[110]⟩) ∧ Below w.heap.size w w' := by
  go_enter Tryz.func124, Tryz.ntmps124
  go_wp2
  go_ret
  exact ⟨rfl, Below.refl _ _⟩
set_option maxHeartbeats 400000 in
theorem isaForm24 (w : World) : Calls Tryz.prog 124 #[.int .i64 24] w fun e w' => e = .returned (.string ⟨#[97, 110]⟩) ∧ Below w.heap.size w w' := by
  go_enter Tryz.func124, Tryz.ntmps124
  go_wp2
  go_ret
  exact ⟨rfl, Below.refl _ _⟩
set_option maxHeartbeats 400000 in
theorem isaForm25 (w : World) : Calls Tryz.prog 124 #[.int .i64 25] w fun e w' => e = .returned (.string ⟨#[110]⟩) ∧ Below w.heap.size w w' := by
  go_enter Tryz.func124, Tryz.ntmps124
  go_wp2
  go_ret
  exact ⟨rfl, Below.refl _ _⟩
set_option maxHeartbeats 400000 in
theorem isaForm26 (w : World) : Calls Tryz.prog 124 #[.int .i64 26] w fun e w' => e = .returned (.string ⟨#[97, 98]⟩) ∧ Below w.heap.size w w' := by
  go_enter Tryz.func124, Tryz.ntmps124
  go_wp2
  go_ret
  exact ⟨rfl, Below.refl _ _⟩
set_option maxHeartbeats 400000 in
theorem isaForm27 (w : World) : Calls Tryz.prog 124 #[.int .i64 27] w fun e w' => e = .returned (.string ⟨#[97, 98]⟩) ∧ Below w.heap.size w w' := by
  go_enter Tryz.func124, Tryz.ntmps124
  go_wp2
  go_ret
  exact ⟨rfl, Below.refl _ _⟩
set_option maxHeartbeats 400000 in
theorem isaForm28 (w : World) : Calls Tryz.prog 124 #[.int .i64 28] w fun e w' => e = .returned (.string ⟨#[97]⟩) ∧ Below w.heap.size w w' := by
  go_enter Tryz.func124, Tryz.ntmps124
  go_wp2
  go_ret
  exact ⟨rfl, Below.refl _ _⟩
set_option maxHeartbeats 400000 in
theorem isaForm29 (w : World) : Calls Tryz.prog 124 #[.int .i64 29] w fun e w' => e = .returned (.string ⟨#[110]⟩) ∧ Below w.heap.size w w' := by
  go_enter Tryz.func124, Tryz.ntmps124
  go_wp2
  go_ret
  exact ⟨rfl, Below.refl _ _⟩
set_option maxHeartbeats 400000 in
theorem isaForm30 (w : World) : Calls Tryz.prog 124 #[.int .i64 30] w fun e w' => e = .returned (.string ⟨#[]⟩) ∧ Below w.heap.size w w' := by
  go_enter Tryz.func124, Tryz.ntmps124
  go_wp2
  go_ret
  exact ⟨rfl, Below.refl _ _⟩
set_option maxHeartbeats 400000 in
theorem isaForm31 (w : World) : Calls Tryz.prog 124 #[.int .i64 31] w fun e w' => e = .returned (.string ⟨#[97]⟩) ∧ Below w.heap.size w w' := by
  go_enter Tryz.func124, Tryz.ntmps124
  go_wp2
  go_ret
  exact ⟨rfl, Below.refl _ _⟩
set_option maxHeartbeats 400000 in
theorem isaForm32 (w : World) : Calls Tryz.prog 124 #[.int .i64 32] w fun e w' => e = .returned (.string ⟨#[97, 98, 99]⟩) ∧ Below w.heap.size w w' := by
  go_enter Tryz.func124, Tryz.ntmps124
  go_wp2_with (go_at_call 123; refine (isaName_any 32 ⟨#[106, 111, 105, 110]⟩ _ (by decide) (by rfl)).mono ?_; rintro e w' ⟨rfl, hb⟩)
  go_ret
  exact ⟨rfl, by assumption⟩
set_option maxHeartbeats 400000 in
theorem isaForm33 (w : World) : Calls Tryz.prog 124 #[.int .i64 33] w fun e w' => e = .returned (.string ⟨#[97, 98]⟩) ∧ Below w.heap.size w w' := by
  go_enter Tryz.func124, Tryz.ntmps124
  go_wp2
  go_ret
  exact ⟨rfl, Below.refl _ _⟩
set_option maxHeartbeats 400000 in
theorem isaForm34 (w : World) : Calls Tryz.prog 124 #[.int .i64 34] w fun e w' => e = .returned (.string ⟨#[97, 98]⟩) ∧ Below w.heap.size w w' := by
  go_enter Tryz.func124, Tryz.ntmps124
  go_wp2
  go_ret
  exact ⟨rfl, Below.refl _ _⟩
set_option maxHeartbeats 400000 in
theorem isaForm35 (w : World) : Calls Tryz.prog 124 #[.int .i64 35] w fun e w' => e = .returned (.string ⟨#[97, 98, 99]⟩) ∧ Below w.heap.size w w' := by
  go_enter Tryz.func124, Tryz.ntmps124
  go_wp2_with (go_at_call 123; refine (isaName_any 35 ⟨#[111, 114, 100]⟩ _ (by decide) (by rfl)).mono ?_; rintro e w' ⟨rfl, hb⟩)
  go_ret
  exact ⟨rfl, by assumption⟩
set_option maxHeartbeats 400000 in
theorem isaForm36 (w : World) : Calls Tryz.prog 124 #[.int .i64 36] w fun e w' => e = .returned (.string ⟨#[97, 98]⟩) ∧ Below w.heap.size w w' := by
  go_enter Tryz.func124, Tryz.ntmps124
  go_wp2
  go_ret
  exact ⟨rfl, Below.refl _ _⟩
theorem isaForm (op : Int) (h : 1 ≤ op ∧ op ≤ 36) (w : World) : Calls Tryz.prog 124 #[.int .i64 op] w fun e w' => e = .returned (.string (formOf op)) ∧ Below w.heap.size w w' := by
  have : op = 1 ∨ op = 2 ∨ op = 3 ∨ op = 4 ∨ op = 5 ∨ op = 6 ∨ op = 7 ∨ op = 8 ∨ op = 9 ∨ op = 10 ∨ op = 11 ∨ op = 12 ∨ op = 13 ∨ op = 14 ∨ op = 15 ∨ op = 16 ∨ op = 17 ∨ op = 18 ∨ op = 19 ∨ op = 20 ∨ op = 21 ∨ op = 22 ∨ op = 23 ∨ op = 24 ∨ op = 25 ∨ op = 26 ∨ op = 27 ∨ op = 28 ∨ op = 29 ∨ op = 30 ∨ op = 31 ∨ op = 32 ∨ op = 33 ∨ op = 34 ∨ op = 35 ∨ op = 36 := by omega
  rcases this with rfl | rfl | rfl | rfl | rfl | rfl | rfl | rfl | rfl | rfl | rfl | rfl | rfl | rfl | rfl | rfl | rfl | rfl | rfl | rfl | rfl | rfl | rfl | rfl | rfl | rfl | rfl | rfl | rfl | rfl | rfl | rfl | rfl | rfl | rfl | rfl
  · exact isaForm1 w
  · exact isaForm2 w
  · exact isaForm3 w
  · exact isaForm4 w
  · exact isaForm5 w
  · exact isaForm6 w
  · exact isaForm7 w
  · exact isaForm8 w
  · exact isaForm9 w
  · exact isaForm10 w
  · exact isaForm11 w
  · exact isaForm12 w
  · exact isaForm13 w
  · exact isaForm14 w
  · exact isaForm15 w
  · exact isaForm16 w
  · exact isaForm17 w
  · exact isaForm18 w
  · exact isaForm19 w
  · exact isaForm20 w
  · exact isaForm21 w
  · exact isaForm22 w
  · exact isaForm23 w
  · exact isaForm24 w
  · exact isaForm25 w
  · exact isaForm26 w
  · exact isaForm27 w
  · exact isaForm28 w
  · exact isaForm29 w
  · exact isaForm30 w
  · exact isaForm31 w
  · exact isaForm32 w
  · exact isaForm33 w
  · exact isaForm34 w
  · exact isaForm35 w
  · exact isaForm36 w

end Go.Proofs.YtjfcbimbnpfdeaaGreat

/- The law's graph of a fresh machine. -/
import Derived.Test.YtjfcbimbnpfdeaaGreatT
namespace Go.Proofs.YtjfcbimbnpfdeaaGreat
open Go.RowKit

def gr : Nat → List Int
  | 0 => []
  | n + 1 => gr n ++ [1, 0]
theorem gr_len : ∀ n, (gr n).length = 2 * n
  | 0 => rfl
  | n + 1 => by rw [gr, List.length_append, gr_len n]; simp; omega
theorem own_ge {w : World} {base : Nat} {v : Value} {n : Nat} {xs : List Value} (h : w.ownsRow base 51 1 v n xs) {k : Nat} (hk : v.ownBlock = some k) : base ≤ k := by
  rcases h.2 with ⟨rfl, _⟩ | ⟨g, cap, cur, rfl, h2, _⟩
  · cases hk
  · cases hk; exact h2
theorem own_below {w W : World} {base : Nat} {v : Value} {n : Nat} {xs : List Value} (h : w.ownsRow base 51 1 v n xs) (hb : Below w.heap.size w W) : W.ownsRow base 51 1 v n xs := by
  refine ⟨h.1, ?_⟩
  rcases h.2 with h | ⟨g, cap, cur, h1, h2, h3, h4⟩
  · exact .inl h
  · exact .inr ⟨g, cap, cur, h1, h2, (hb.block g (at_lt h3)).trans h3, h4⟩

set_option maxHeartbeats 400000 in
theorem lawWord1 (o : Value) (w : World) :
    Calls Tryz.prog 52 #[.int .u64 1, o] w fun e w' => e = .returned (.tuple #[.slice (some ⟨w.heap.size, 0, none⟩) 2 2, o]) ∧ w' = w.alloc (.cells #[.int .u64 1, .int .u64 0] 51) := by
  go_enter Tryz.func52, Tryz.ntmps52
  go_wp2
  go_ret2
  exact ⟨rfl, rfl⟩

theorem row2 (w : World) : ∀ j u, (iv .u64 [1, 0])[j]? = some u → (w.alloc (.cells #[.int .u64 1, .int .u64 0] 51)).cell? ((⟨w.heap.size, 0, none⟩ : Addr).add j) = some u := by
  intro j u hj
  have hc := cell_of_row (w.alloc (.cells #[.int .u64 1, .int .u64 0] 51)) w.heap.size j _ _ _ (heap_alloc_new w _)
  match j with
  | 0 => injection hj with hj; subst hj; exact hc
  | 1 => injection hj with hj; subst hj; exact hc
  | _ + 2 => cases hj

set_option maxRecDepth 100000 in
set_option maxHeartbeats 4000000 in
theorem lawGraph (gx g gg mb : Nat) (words stack : Int) (w : World) (h : Fresh w gx g gg mb words stack) :
    Calls Tryz.prog 20 #[.pointer (some ⟨gx, 0, none⟩)] w fun e w' => ∃ v, e = .returned (.tuple #[v, .bool true]) ∧ w'.ownsRow w.heap.size 51 1 v 2050 (iv .u64 (gr 1025)) ∧ Below w.heap.size w w' := by
  obtain ⟨i51, hi51, hz0, hz1, hz2⟩ := info_parts info51
  have hF : ∀ W, Below w.heap.size w W → Fresh W gx g gg mb words stack := fun W hW => h.kp (Kp.of_below hW)
  have HF := Lib.hid hF
  clear hF
  go_enter Tryz.func20, Tryz.ntmps20
  go_wp2_with (first
    | (go_at_call 32; refine (machineMemory_nil gx g gg mb words stack w h).mono ?_; rintro e w1 ⟨g', mb', rfl, -, -, -, -, hb1⟩)
    | (go_at_call 24; refine (machineValue gx g stack ones _ _ _ 1 1 0 0 0 w1 rfl (HF.out w1 hb1).mac).mono ?_; rintro e w' ⟨rfl, rfl⟩)
    | (go_at_call 52; refine (lawWord1 _ w1).mono ?_; rintro e w' ⟨rfl, rfl⟩)
    | (at_builtin; refine wpList_append_own_at _ rfl (.tmp 28) (.tmp 29) 43 rfl w.heap.size 51 i51 (.int .u64 0) 1 8 Tryz.underlying43 hi51 hz0 hz1 hz2 rfl (by decide) (.slice none 0 0) 0 [] rfl (World.ownsRow_nil _ _ _ _) ⟨w1.heap.size, 0, none⟩ 2 2 (iv .u64 [1, 0]) rfl rfl (row2 w1) (iv_one _ _) (by unfold maxLen; omega) (by omega) (by have := hb1.size; simp; omega) ?_; intro v0 w2 hv0 hg0 _ _))
  have hB2 : Below w.heap.size w w2 := (hb1.alloc hb1.size _).grown hg0 (by have := hb1.size; simp; omega) (fun k hk => by cases hk)
  have hv1 : w2.ownsRow w.heap.size 51 1 v0 (2 * 1) (iv .u64 (gr 1)) := hv0
  clear hv0 hg0
  go_loopw [8, 5, 7] (fun i out ord wr => ∃ k : Nat, k ≤ 1024 ∧ i = .int .i64 k ∧ ord = .slice none 0 0 ∧ wr.ownsRow w.heap.size 51 1 out (2 * (k + 1)) (iv .u64 (gr (k + 1))) ∧ Below w.heap.size w wr) (fun i _ _ _ => 1024 - (intOf i).toNat)
  case atStart => exact ⟨0, Nat.zero_le _, rfl, rfl, hv1, hB2⟩
  case round =>
    clear hv1 hB2 hb1
    obtain ⟨k, hk, rfl, rfl, hown, hB⟩ := hrel
    by_cases hlt : k < 1024
    · have hfw := HF.out _ hB
      go_wp2_with (first
        | (go_at_call 25; refine (machineGlobal gx g gg stack ones _ _ 1 1 0 0 0 (List.replicate 1024 1) k wr rfl hfw.mac hfw.glob List.length_replicate hlt).mono ?_; rintro e w' ⟨rfl, rfl⟩; rw [show (List.replicate 1024 (1:Int)).getD k 0 = 1 by rw [List.getD_eq_getElem?_getD, List.getElem?_replicate, if_pos hlt]; rfl])
        | (go_at_call 52; refine (lawWord1 _ _).mono ?_; rintro e w' ⟨rfl, rfl⟩)
        | (at_builtin; refine wpList_append_own_at _ rfl (.tmp 43) (.tmp 44) 43 rfl w.heap.size 51 i51 (.int .u64 0) 1 8 Tryz.underlying43 hi51 hz0 hz1 hz2 rfl (by decide) _ (2 * (k + 1)) (iv .u64 (gr (k + 1))) rfl (own_below hown ((Below.refl _ _).alloc (Nat.le_refl _) _)) ⟨wr.heap.size, 0, none⟩ 2 2 (iv .u64 [1, 0]) rfl rfl (row2 wr) (iv_one _ _) (by unfold maxLen; omega) (by omega) (by have := hB.size; simp; omega) ?_; intro v3 w3 hv3 hg3 _ _))
      have hB3 : Below w.heap.size w w3 := (hB.alloc hB.size _).grown hg3 (by have := hB.size; simp; omega) (fun j hj => own_ge hown hj)
      rw [← iv_append] at hv3
      go_roundw
      case rel => exact ⟨k + 1, by omega, by go_num, rfl, hv3, hB3⟩
      case measure => simp [intOf]; omega
    · have hk16 : k = 1024 := by omega
      subst hk16
      rw [show ((1024 : Nat) : Int) = 1024 from rfl]
      go_wp2
      refine wp_loop_rounds 1 ?_
      rw [rounds_succ]
      go_wp2
      go_ret2
      exact ⟨_, rfl, hown, hB⟩
end Go.Proofs.YtjfcbimbnpfdeaaGreat

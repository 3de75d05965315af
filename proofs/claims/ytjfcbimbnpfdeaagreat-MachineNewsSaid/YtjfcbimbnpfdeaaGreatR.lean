/- Machine.Live of a machine that holds integers alone. -/
import Derived.Test.YtjfcbimbnpfdeaaGreatQ
import Derived.Deep.RegionWith
namespace Go.Proofs.YtjfcbimbnpfdeaaGreat
open Go.RowKit Go.Shelf

theorem Fresh.kp {w w' : World} {gx g gg mb : Nat} {words stack : Int} (h : Fresh w gx g gg mb words stack) (k : Kp (fun _ => False) w w') : Fresh w' gx g gg mb words stack :=
  ⟨k.at_ h.mac id, k.at_ h.mem id, k.at_ h.map id, h.glob.kp k (fun _ _ h => h)⟩
theorem Fresh.good {w : World} {gx g gg mb : Nat} {words stack : Int} (h : Fresh w gx g gg mb words stack) : Good gx gg w := by
  intro k hk
  unfold place
  split
  · rename_i h1
    rw [cell_of_row _ _ _ _ _ _ h.mac, mac_reg k (by simpa [ones] using h1)]
    have : k = 0 ∨ k = 1 ∨ k = 2 ∨ k = 3 ∨ k = 4 ∨ k = 5 ∨ k = 6 ∨ k = 7 ∨ k = 8 ∨ k = 9 ∨ k = 10 ∨ k = 11 ∨ k = 12 ∨ k = 13 ∨ k = 14 ∨ k = 15 := by omega
    rcases this with rfl | rfl | rfl | rfl | rfl | rfl | rfl | rfl | rfl | rfl | rfl | rfl | rfl | rfl | rfl | rfl <;> rfl
  · split
    · rename_i h1 h2
      have hg : Rw w 51 .u64 (.slice (some ⟨gg, 0, none⟩) 1024 1024) (List.replicate 1024 1) := h.glob
      obtain ⟨ga, cap, hh, _, _, hcell, _⟩ := hg.some_ (by rw [List.length_replicate]; omega)
      injection hh with hh
      injection hh with hh
      injection hh with hh
      subst hh
      rw [hcell (k - 16) (by rw [List.length_replicate]; omega), List.getD_eq_getElem?_getD, List.getElem?_replicate, if_pos (by omega)]
      rfl
    · rename_i h1 h2
      have : k = 1040 ∨ k = 1041 := by omega
      rw [cell_of_row _ _ _ _ _ _ h.mac]
      rcases this with rfl | rfl
      · exact mac_tail (by rfl) 3
      · exact mac_tail (by rfl) 4
theorem Fresh.lt {w : World} {gx g gg mb : Nat} {words stack : Int} (h : Fresh w gx g gg mb words stack) : gx < w.heap.size ∧ gg < w.heap.size :=
  ⟨at_lt h.mac, (h.glob.lt gg rfl).1⟩

theorem Rw.of_base {w : World} {n : Nat} {v : Value} {xs : List Int} {l : Nat} (hl : xs.length = l) (h : w.ownsRow n 51 1 v l (iv .u64 xs)) : Rw w 51 .u64 v xs := by
  subst hl
  refine ⟨h.1, ?_⟩
  rcases h.2 with h | ⟨g, cap, cur, h1, _, h3, h4, h5, h6, h7⟩
  · exact .inl h
  · exact .inr ⟨g, cap, cur, h1, Nat.zero_le _, h3, h4, h5, h6, h7⟩
theorem Rw.below {w W : World} {v : Value} {xs : List Int} (h : Rw w 51 .u64 v xs) (hb : Below w.heap.size w W) : Rw W 51 .u64 v xs :=
  h.kp (Kp.of_below hb) (fun _ _ h => h)

set_option maxRecDepth 100000 in
set_option maxHeartbeats 2000000 in
theorem machineLive (gx g gg mb : Nat) (words stack : Int) (w : World) (h : Fresh w gx g gg mb words stack) :
    Calls Tryz.prog 23 #[.pointer (some ⟨gx, 0, none⟩)] w fun e w' => e = .returned (.int .i64 0) ∧ Below w.heap.size w w' := by
  have c0 : ∀ W, Below w.heap.size w W → W.cell? ⟨gx, 0, none⟩ = some (.pointer (some ⟨g, 0, none⟩)) := fun W hW => (hW.cell (p := ⟨gx, 0, none⟩) h.lt.1).trans ((cell_of_row _ _ _ _ _ _ h.mac).trans mac_m)
  have c18 := fun W (hW : Below w.heap.size w W) => (hW.cell (p := ⟨gx, 18, none⟩) h.lt.1).trans ((cell_of_row _ _ _ _ _ _ h.mac).trans (mac_tail (by rfl) 0))
  have c20 := fun W (hW : Below w.heap.size w W) => (hW.cell (p := ⟨gx, 20, none⟩) h.lt.1).trans ((cell_of_row _ _ _ _ _ _ h.mac).trans (mac_tail (by rfl) 2))
  have hbd : Below w.heap.size w w.drew := (Below.refl _ w).drew
  have hfd : Fresh w.drew gx g gg mb words stack := h.kp ((Kp.refl _ _).drew)
  have c0d := c0 _ hbd
  have hone : ∀ j, j < (List.replicate 1042 (1 : Int)).length → isW ((List.replicate 1042 (1 : Int)).getD j 0) ∧ (List.replicate 1042 (1 : Int)).getD j 0 % 2 = 1 := by
    intro j hj
    rw [List.length_replicate] at hj
    have : (List.replicate 1042 (1 : Int)).getD j 0 = 1 := by rw [List.getD_eq_getElem?_getD, List.getElem?_replicate, if_pos hj]; rfl
    rw [this]
    exact ⟨by unfold isW; omega, rfl⟩
  go_enter Tryz.func23, Tryz.ntmps23
  go_wp2
  go_region_with (first
    | (go_at_call 56; refine (machineWords gx gg w.drew hfd.lt.1 hfd.lt.2 (c18 _ hbd) (c20 _ hbd) hfd.good).mono ?_; rintro e w1 ⟨v1, rfl, hr1, hb1⟩; have hb2 := hbd.trans (hb1.mono (Nat.le_refl _)); have c01 := c0 _ hb2)
    | (go_at_call 55; refine (gcLive g v1 (List.replicate 1042 1) w1 (by rw [List.length_replicate]; omega) hone (fun W hW => (Rw.of_base List.length_replicate hr1).below hW)).mono ?_; rintro e w2 ⟨rfl, hb3⟩))
  all_goals go_wp2
  all_goals go_ret
  all_goals exact ⟨rfl, hb2.trans (hb3.mono hb2.size)⟩
end Go.Proofs.YtjfcbimbnpfdeaaGreat

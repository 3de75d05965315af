/- The roots of a machine that has no frames: the iterator's contract. -/
import Derived.Test.YtjfcbimbnpfdeaaGreatL
import Derived.RangeFuncNested
import Derived.RangeFuncBound
import Derived.RangeFuncCalls
import Derived.RangeFuncLeaves
import Derived.RangeFuncBox
import Derived.Shelf.Abstract
import Derived.OwnWalkIn
import Derived.TacticsInMore
import Derived.LoopNIn
import Derived.LoopIn
import Derived.Sort.EveryDepth
import Derived.Outline
namespace Go.Proofs.YtjfcbimbnpfdeaaGreat
open Go.RowKit Go.Shelf
attribute [local go_sem] Oper.semAt_some

/-- What the iterator reads of a machine without frames. -/
structure Lay (gx gg Bn : Nat) (W : World) : Prop where
  box : Boxed W Bn 28 (.pointer (some ⟨gx, 0, none⟩))
  fr : W.cell? ⟨gx, 18, none⟩ = some (.slice none 0 0)
  gl : W.cell? ⟨gx, 20, none⟩ = some (.slice (some ⟨gg, 0, none⟩) 1024 1024)

def place (gx gg : Nat) (k : Nat) : Addr := if k < 16 then ⟨gx, 2 + k, none⟩ else if k < 1040 then ⟨gg, k - 16, none⟩ else ⟨gx, 21 + (k - 1040), none⟩
section
variable {α : Type}
def places (pl : Nat → α) (n : Nat) : List α := (List.range n).map pl
theorem places_succ (pl : Nat → α) (n : Nat) : places pl (n + 1) = places pl n ++ [pl n] := by simp [places, List.range_succ]
theorem places_len (pl : Nat → α) (n : Nat) : (places pl n).length = n := by simp [places]
def encA (enc : α → Addr) (x : α) : Array Value := #[.pointer (some (enc x))]
end
def LayKp (gx gg Bn : Nat) (W W' : World) : Prop := Lay gx gg Bn W → Lay gx gg Bn W'

set_option maxRecDepth 100000 in
set_option maxHeartbeats 2000000 in
theorem rootsBody {α : Type} (enc : α → Addr) (pl : Nat → α) (F : Fence) (n : Nat) (h104 : F.fn 104) (hro : F.round = none) (hn : 1 ≤ n) (l Bn gx gg : Nat) (hpc : ∀ k, k < 1042 → enc (pl k) = place gx gg k) (J Jx : List α → World → Prop)
    (hY : ∀ pre x W, J pre W → pre.length < 1042 → YieldAt F (n - 1) Tryz.prog l (encA enc x) W fun e W' =>
      (e = .returned (.bool true) ∧ J (pre ++ [x]) W' ∧ LayKp gx gg Bn W W') ∨ (e = .returned (.bool false) ∧ Jx (pre ++ [x]) W'))
    (W : World) (hL : Lay gx gg Bn W) (h0 : J [] W) :
    CallsIn F n Tryz.prog 104 #[.func (.yield l) #[] #[], .pointer (some ⟨Bn, 0, none⟩)] W fun e W' => (∃ v, e = .returned v) ∧
      ((∃ ys, ys = places pl 1042 ∧ J ys W') ∨ (∃ pre : List α, True ∧ Jx pre W')) := by
  refine callsIn_of_wp Tryz.func104 rfl h104 ?_ hro
  simp only [Tryz.ntmps104, List.size_toArray, List.length_cons, List.length_nil, Nat.reduceAdd, Nat.reduceSub, Array.replicate_succ, Array.replicate_zero, List.push_toArray, List.append_toArray, List.nil_append, List.cons_append]
  gi_wp2
  gi_loopw [7, 3] (fun i _ wr => ∃ k : Nat, k ≤ 16 ∧ i = .int .i64 k ∧ Lay gx gg Bn wr ∧ J (places pl k) wr) (fun i _ _ => 16 - (intOf i).toNat)
  case atStart => exact ⟨0, by omega, rfl, hL, h0⟩
  case round =>
    obtain ⟨k, hk, rfl, hl, hJ⟩ := hrel
    have hb := hl.box.cell
    by_cases hlt : k < 16
    · have hpl : enc (pl k) = ⟨gx, 2 + k, none⟩ := by rw [hpc _ (by omega)]; unfold place; rw [if_pos hlt]
      obtain ⟨fn, tmps, assign, body, hy, hR⟩ := hY (places pl k) (pl k) wr hJ (by rw [places_len]; omega)
      simp only [encA, hpl] at hR hy
      gi_wp2
      refine hR.mono ?_
      rintro e W3 (⟨rfl, hJ3, hk3⟩ | ⟨rfl, hJx3⟩)
      · have hl3 := hk3 hl
        rw [← places_succ] at hJ3
        clear hR hy hpl hb hl hJ hk3
        gi_wp2
        go_roundw
        case rel => exact ⟨k + 1, by omega, by go_num, hl3, hJ3⟩
        case measure => simp [intOf]; omega
      · gi_wp2
        refine bodyPost_ret (results_none rfl _ _ _) rfl ?_
        exact ⟨⟨_, rfl⟩, .inr ⟨_, trivial, hJx3⟩⟩
    · have hk16 : k = 16 := by omega
      subst hk16
      rw [show ((16 : Nat) : Int) = 16 from rfl]
      have hfr := hl.fr
      gi_wp2
      refine wpIn_loop_rounds 1 ?_
      rw [roundsIn_succ]
      have hgl := hl.gl
      gi_wp2
      gi_loopw [69, 6] (fun i _ wr => ∃ k : Nat, k ≤ 1024 ∧ i = .int .i64 k ∧ Lay gx gg Bn wr ∧ J (places pl (16 + k)) wr) (fun i _ _ => 1024 - (intOf i).toNat)
      case atStart => exact ⟨0, by omega, rfl, hl, hJ⟩
      case round =>
        clear hb hfr hgl hl hJ
        obtain ⟨k, hk, rfl, hl, hJ⟩ := hrel
        have hb := hl.box.cell
        have hgl := hl.gl
        by_cases hlt : k < 1024
        · have hpl : enc (pl (16 + k)) = ⟨gg, k, none⟩ := by rw [hpc _ (by omega)]; unfold place; rw [if_neg (by omega), if_pos (by omega)]; simp
          obtain ⟨fn, tmps, assign, body, hy, hR⟩ := hY (places pl (16 + k)) (pl (16 + k)) _ hJ (by rw [places_len]; omega)
          simp only [encA, hpl] at hR hy
          gi_wp2
          refine hR.mono ?_
          rintro e W3 (⟨rfl, hJ3, hk3⟩ | ⟨rfl, hJx3⟩)
          · have hl3 := hk3 hl
            rw [← places_succ] at hJ3
            clear hR hy hpl hb hl hJ hk3 hgl
            gi_wp2
            go_roundw
            case rel => exact ⟨k + 1, by omega, by go_num, hl3, hJ3⟩
            case measure => simp [intOf]; omega
          · gi_wp2
            refine bodyPost_ret (results_none rfl _ _ _) rfl ?_
            exact ⟨⟨_, rfl⟩, .inr ⟨_, trivial, hJx3⟩⟩
        · have hk16 : k = 1024 := by omega
          subst hk16
          have hpl : enc (pl (16 + 1024)) = ⟨gx, 21, none⟩ := by rw [hpc _ (by omega)]; unfold place; rw [if_neg (by omega), if_neg (by omega)]
          obtain ⟨fn, tmps, assign, body, hy, hR⟩ := hY (places pl (16 + 1024)) (pl (16 + 1024)) _ hJ (by rw [places_len]; omega)
          simp only [encA, hpl] at hR hy
          gi_wp2
          refine hR.mono ?_
          rintro e W3 (⟨rfl, hJ3, hk3⟩ | ⟨rfl, hJx3⟩)
          · have hl3 := hk3 hl
            rw [← places_succ] at hJ3
            clear hR hy hpl hb hl hJ hk3 hgl
            have hb := hl3.box.cell
            have hpl : enc (pl (16 + 1024 + 1)) = ⟨gx, 22, none⟩ := by rw [hpc _ (by omega)]; unfold place; rw [if_neg (by omega), if_neg (by omega)]
            obtain ⟨fn, tmps, assign, body, hy, hR⟩ := hY (places pl (16 + 1024 + 1)) (pl (16 + 1024 + 1)) _ hJ3 (by rw [places_len]; omega)
            simp only [encA, hpl] at hR hy
            gi_wp2
            refine hR.mono ?_
            rintro e W4 (⟨rfl, hJ4, hk4⟩ | ⟨rfl, hJx4⟩)
            · rw [← places_succ] at hJ4
              clear hR hy hpl hb hk4
              gi_wp2
              go_end0
              exact ⟨⟨_, rfl⟩, .inl ⟨_, rfl, hJ4⟩⟩
            · gi_wp2
              go_end0
              exact ⟨⟨_, rfl⟩, .inr ⟨_, trivial, hJx4⟩⟩
          · clear hR hy hpl hb hl hJ hgl
            gi_wp2
            refine ⟨fun f hf => (by cases hf), ?_⟩
            rename_i hgo _ _ _ _
            refine hgo _ _ ?_
            gi_wp2
            go_end0
            exact ⟨⟨_, rfl⟩, .inr ⟨_, trivial, hJx3⟩⟩

theorem rootsIn (F : Fence) (n : Nat) (h66 : F.fn 66) (hro : F.round = none) (gx : Nat) (w : World) :
    CallsIn F n Tryz.prog 66 #[.pointer (some ⟨gx, 0, none⟩)] w fun e w' => e = .returned (.func (.func 104) #[] #[.pointer (some ⟨w.heap.size, 0, none⟩)]) ∧ w' = w.alloc (.cells #[.pointer (some ⟨gx, 0, none⟩)] 28) := by
  refine callsIn_of_wp Tryz.func66 rfl h66 ?_ hro
  simp only [Tryz.ntmps66, List.size_toArray, List.length_cons, List.length_nil, Nat.reduceAdd, Nat.reduceSub, Array.replicate_succ, Array.replicate_zero, List.push_toArray, List.append_toArray, List.nil_append, List.cons_append]
  gi_wp2
  go_ret
  exact ⟨rfl, rfl⟩

theorem rootsStops {α : Type} (enc : α → Addr) (pl : Nat → α) (F : Fence) (n : Nat) (h104 : F.fn 104) (hro : F.round = none) (hn : 1 ≤ n) (gx gg Bn : Nat) (w : World) (hBn : Bn < w.heap.size) (hgx : gx < w.heap.size) (hL : Lay gx gg Bn w) (hpc : ∀ k, k < 1042 → enc (pl k) = place gx gg k) :
    SeqStopsK F n Tryz.prog 104 #[.pointer (some ⟨Bn, 0, none⟩)] (encA enc) (LayKp gx gg Bn) (fun ys => ys = places pl 1042) (fun _ => True) 1042 w := fun l J Jx W hW _ _ hY h0 =>
  rootsBody enc pl F n h104 hro hn l Bn gx gg hpc J Jx hY W ⟨(hW.block Bn hBn).trans hL.box, (hW.cell (p := ⟨gx, 18, none⟩) hgx).trans hL.fr, (hW.cell (p := ⟨gx, 20, none⟩) hgx).trans hL.gl⟩ h0
end Go.Proofs.YtjfcbimbnpfdeaaGreat

/- MachineNews is true. -/
import Derived.Test.YtjfcbimbnpfdeaaGreatAo
namespace Go.Proofs.YtjfcbimbnpfdeaaGreat
open Go.RowKit

theorem Fresh.below {w W : World} {gx g gg mb : Nat} {words stack : Int} (h : Fresh w gx g gg mb words stack) (b : Below w.heap.size w W) : Fresh W gx g gg mb words stack := h.kp (Kp.of_below b)
theorem Fresh.live_is {w W : World} {gx g gg mb : Nat} {words stack : Int} (h : Fresh w gx g gg mb words stack) (b : Below w.heap.size w W) : Calls Tryz.prog 23 #[.pointer (some ⟨gx, 0, none⟩)] W fun e w' => e = .returned (.int .i64 0) ∧ Below w.heap.size w w' :=
  (machineLive gx g gg mb words stack W (h.below b)).mono fun _ _ hh => ⟨hh.1, b.trans (hh.2.mono b.size)⟩
theorem ones_get (k : Nat) (hk : k < 1024) : (List.replicate 1024 (1 : Int)).getD k 0 = 1 := by
  rw [List.getD, List.getElem?_replicate, if_pos hk]; rfl
theorem Fresh.global_is {w W : World} {gx g gg mb : Nat} {words stack : Int} (h : Fresh w gx g gg mb words stack) (b : Below w.heap.size w W) (k : Int) : Calls Tryz.prog 25 #[.pointer (some ⟨gx, 0, none⟩), .int .i64 k] W fun e w' => e = .returned (.int .u64 1) ∧ Below w.heap.size w w' := by
  have hf := h.below b
  by_cases hk : 0 ≤ k ∧ k < 1024
  · obtain ⟨n, rfl⟩ := Int.eq_ofNat_of_zero_le hk.1
    refine (machineGlobal gx g gg _ _ _ _ _ _ _ _ _ _ n W (by rfl) hf.mac hf.glob (List.length_replicate) (by omega)).mono ?_
    rintro e w' ⟨rfl, rfl⟩
    exact ⟨by rw [ones_get n (by omega)], b⟩
  · refine (machineGlobal_out gx g gg _ _ _ _ _ _ _ _ _ k W (by rfl) hf.mac (by omega)).mono ?_
    rintro e w' ⟨rfl, rfl⟩
    exact ⟨rfl, b⟩
theorem Fresh.value1 {w W : World} {gx g gg mb : Nat} {words stack : Int} (h : Fresh w gx g gg mb words stack) (b : Below w.heap.size w W) : Calls Tryz.prog 24 #[.pointer (some ⟨gx, 0, none⟩)] W fun e w' => e = .returned (.int .u64 1) ∧ Below w.heap.size w w' :=
  (machineValue gx g _ _ _ _ _ _ _ _ _ _ W (by rfl) (h.below b).mac).mono fun _ _ hh => ⟨hh.1, by rw [← hh.2]; exact b⟩

set_option maxRecDepth 100000 in
set_option maxHeartbeats 4000000 in
theorem lawNews (words stack : Int) (w : World) : Calls Tryz.prog 5 #[.int .i64 words, .int .i64 stack] w fun e w' => e = .returned (.bool true) ∧ Below w.heap.size w w' := by
  by_cases hno : words < 64 ∨ 65536 < words ∨ stack < 16 ∨ 65536 < stack
  · have Hno := Lib.hid hno
    clear hno
    go_enter Tryz.func5, Tryz.ntmps5
    go_wp2_with fail
    refine (machineNew_no words stack w Hno.out).mono ?_
    rintro e w1 ⟨rfl, b1⟩
    go_wp2_with fail
    refine (refNew_no words stack w1 Hno.out).mono ?_
    rintro e w2 ⟨rfl, rfl⟩
    go_wp2_with fail
    refine (lawKnown w1).mono ?_
    rintro e w3 ⟨rfl, b3⟩
    go_wp2_with fail
    go_ret
    exact ⟨rfl, b1.trans (b3.mono b1.size)⟩
  · have h0 : 64 ≤ words := by omega
    have h1 : words ≤ 65536 := by omega
    have h2 : 16 ≤ stack := by omega
    have h3 : stack ≤ 65536 := by omega
    clear hno
    have heq : ∀ W, (binOp .eql 34 (.agg #[.int .i64 0, .int .i64 0]) (.agg #[.int .i64 0, .int .i64 0])).run Tryz.prog W = .ok (.bool true) W := fun _ => by kernel_rfl
    go_enter Tryz.func5, Tryz.ntmps5
    go_wp2_with fail
    refine (machineNew words stack w h0 h1 h2 h3).mono ?_
    rintro e w1 ⟨rfl, hf, k1⟩
    obtain ⟨gx, hgx⟩ : ∃ n, n = w.heap.size + 3 := ⟨_, rfl⟩
    obtain ⟨g, hg⟩ : ∃ n, n = w.heap.size + 1 := ⟨_, rfl⟩
    obtain ⟨gg, hgg⟩ : ∃ n, n = w.heap.size + 2 := ⟨_, rfl⟩
    obtain ⟨mb, hmb⟩ : ∃ n, n = w.heap.size := ⟨_, rfl⟩
    rw [← hgx, ← hg, ← hgg, ← hmb] at hf
    rw [← hgx]
    clear hgx hg hgg hmb
    have b1 : Below w.heap.size w w1 := k1.below (Nat.le_refl _) (fun _ h => h.elim)
    clear k1
    go_wp2_with fail
    refine (refNew words stack w1 h0 h1 h2 h3).mono ?_
    rintro e w2 ⟨rfl, hr, b2⟩
    obtain ⟨gy, hgy⟩ : ∃ n, n = w1.heap.size + 1 := ⟨_, rfl⟩
    obtain ⟨gz, hgz⟩ : ∃ n, n = w1.heap.size := ⟨_, rfl⟩
    rw [← hgy, ← hgz] at hr
    rw [← hgy]
    clear hgy hgz
    have hf2 := hf.below b2
    have b12 := b1.trans (b2.mono b1.size)
    clear hf b1 b2
    have Hf := Lib.hid hf2
    have Hr := Lib.hid hr
    have B2 := Lib.hid b12
    clear hf2 hr b12
    go_wp2_with fail
    refine (Hf.out.live_is (Below.refl _ _)).mono ?_
    rintro e w3 ⟨rfl, b3⟩
    have B3 := Lib.hid b3
    clear b3
    go_wp2_with fail
    refine (Hf.out.value1 B3.out).mono ?_
    rintro e w4 ⟨rfl, b4⟩
    have B4 := Lib.hid b4
    clear b4
    go_wp2_with fail
    refine (Hf.out.global_is B4.out 0).mono ?_
    rintro e w5 ⟨rfl, b5⟩
    have B5 := Lib.hid b5
    clear b5
    go_wp2_with fail
    refine (Hf.out.global_is B5.out 1023).mono ?_
    rintro e w6 ⟨rfl, b6⟩
    have B6 := Lib.hid b6
    clear b6
    go_wp2_with fail
    refine (Hf.out.global_is B6.out (-1)).mono ?_
    rintro e w7 ⟨rfl, b7⟩
    have B7 := Lib.hid b7
    clear b7
    go_wp2_with fail
    refine (Hf.out.global_is B7.out words).mono ?_
    rintro e w8 ⟨rfl, b8⟩
    have B8 := Lib.hid b8
    clear b8
    go_wp2_with fail
    refine (machineRun_no gx g gg mb words stack 5 0 0 w8 (Hf.out.below B8.out)).mono ?_
    rintro e w9 ⟨rfl, b9⟩
    have B9 := Lib.hid (B8.out.trans (b9.mono B8.out.size))
    clear b9
    go_wp2_with fail
    refine (lawSame gx g gg mb gy gz words stack w9 (Hf.out.below B9.out) (Hr.out.below B9.out)).mono ?_
    rintro e wA ⟨rfl, bA⟩
    have BA := Lib.hid (B9.out.trans (bA.mono B9.out.size))
    clear bA
    go_wp2_with fail
    refine (lawKnown wA).mono ?_
    rintro e wB ⟨rfl, bB⟩
    have BB := Lib.hid (BA.out.trans (bB.mono BA.out.size))
    clear bB
    go_wp2_with fail
    go_ret
    exact ⟨rfl, B2.out.trans (BB.out.mono B2.out.size)⟩
end Go.Proofs.YtjfcbimbnpfdeaaGreat

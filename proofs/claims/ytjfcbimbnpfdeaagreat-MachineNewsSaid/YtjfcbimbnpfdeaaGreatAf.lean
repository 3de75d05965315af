/- The language's arithmetic: Wrap, Add, Sub, Mul, Neg. -/
import Derived.Test.YtjfcbimbnpfdeaaGreatAe
namespace Go.Proofs.YtjfcbimbnpfdeaaGreat
open Go.RowKit

def w63 (n : Int) : Int := (n + 4611686018427387904) % 9223372036854775808 - 4611686018427387904
theorem w63_bd (n : Int) : -4611686018427387904 ≤ w63 n ∧ w63 n ≤ 4611686018427387903 := by unfold w63; omega
theorem w63_in (n : Int) (h : -4611686018427387904 ≤ n ∧ n ≤ 4611686018427387903) : w63 n = n := by unfold w63; omega
theorem w63_wrap (n : Int) : w63 (wrap64 n) = w63 n := by unfold w63 wrap64; omega
theorem w63_shift (n : Int) : wrap64 (n * 2) / 2 = w63 n := by unfold w63 wrap64; omega
theorem wInt_w63 (n : Int) : wInt (w63 n) = wInt n := by unfold wInt w63; omega

set_option maxHeartbeats 400000 in
theorem numWrap (n : Int) (w : World) :
    Calls Tryz.prog 145 #[.int .i64 n] w fun e w' => e = .returned (.int .i64 (w63 n)) ∧ w = w' := by
  go_enter Tryz.func145, Tryz.ntmps145
  go_wp2
  go_ret
  exact ⟨ret_i64 (w63_shift n), rfl⟩
theorem w63_add (a b : Int) : w63 (wrap64 (a + b)) = w63 (a + b) := w63_wrap _
set_option maxHeartbeats 400000 in
theorem numAdd (a b : Int) (w : World) : Calls Tryz.prog 107 #[.int .i64 a, .int .i64 b] w fun e w' => e = .returned (.int .i64 (w63 (a + b))) ∧ w = w' := by
  go_enter Tryz.func107, Tryz.ntmps107
  go_wp2_with (go_at_call 145; refine (numWrap _ _).mono ?_; rintro e w' ⟨rfl, rfl⟩; rw [w63_wrap])
  go_ret
  exact ⟨rfl, rfl⟩
set_option maxHeartbeats 400000 in
theorem numSub (a b : Int) (w : World) : Calls Tryz.prog 108 #[.int .i64 a, .int .i64 b] w fun e w' => e = .returned (.int .i64 (w63 (a - b))) ∧ w = w' := by
  go_enter Tryz.func108, Tryz.ntmps108
  go_wp2_with (go_at_call 145; refine (numWrap _ _).mono ?_; rintro e w' ⟨rfl, rfl⟩; rw [w63_wrap])
  go_ret
  exact ⟨rfl, rfl⟩
set_option maxHeartbeats 400000 in
theorem numMul (a b : Int) (w : World) : Calls Tryz.prog 109 #[.int .i64 a, .int .i64 b] w fun e w' => e = .returned (.int .i64 (w63 (a * b))) ∧ w = w' := by
  go_enter Tryz.func109, Tryz.ntmps109
  go_wp2_with (go_at_call 145; refine (numWrap _ _).mono ?_; rintro e w' ⟨rfl, rfl⟩; rw [w63_wrap])
  go_ret
  exact ⟨rfl, rfl⟩
set_option maxHeartbeats 400000 in
theorem numNeg (a : Int) (w : World) : Calls Tryz.prog 112 #[.int .i64 a] w fun e w' => e = .returned (.int .i64 (w63 (-a))) ∧ w = w' := by
  go_enter Tryz.func112, Tryz.ntmps112
  go_wp2_with (go_at_call 145; refine (numWrap _ _).mono ?_; rintro e w' ⟨rfl, rfl⟩; rw [w63_wrap])
  go_ret
  exact ⟨rfl, rfl⟩
set_option maxHeartbeats 400000 in
theorem machTruth (b : Bool) (w : World) : Calls Tryz.prog 113 #[.bool b] w fun e w' => e = .returned (.int .u64 (wInt (if b then 1 else 0))) ∧ w = w' := by
  cases b
  all_goals
    go_enter Tryz.func113, Tryz.ntmps113
    go_wp2_with (go_at_call 46; refine (numInt _ _).mono ?_; rintro e w' ⟨rfl, rfl⟩)
    go_ret
    exact ⟨rfl, rfl⟩
end Go.Proofs.YtjfcbimbnpfdeaaGreat

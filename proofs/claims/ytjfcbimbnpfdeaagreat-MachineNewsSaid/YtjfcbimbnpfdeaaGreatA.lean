/- The words of layer 1 (num.Int, Ptr, IsInt, IsPtr, ToInt, ToPtr): what each call comes to, for every argument that is a word. -/
import Derived.Test.YtjfcbimbnpfdeaaGreatProg
import Derived.WalkKit
import Derived.WalkSpells
import Derived.WalkLawsBesides
import Derived.BigQuiet
import Derived.Deep.QuietTactic
import Derived.StillTailTactics
import Derived.Laws.BitsAllLaws
import Derived.Lib.Hide
namespace Go.Proofs.YtjfcbimbnpfdeaaGreat
open Go.RowKit

def wInt (n : Int) : Int := (2 * n + 1) % 18446744073709551616
def wPtr (a : Int) : Int := if a < 1 then 1 else if 1099511627776 < a then 1 else 2 * a
def wIsInt (x : Int) : Bool := x % 2 == 1
def wIsPtr (x : Int) : Bool := decide (x % 2 = 0) && (decide (2 ≤ x) && decide (x ≤ 2199023255552))
def wToInt (x : Int) : Int := if x % 2 = 1 then wrap64 x / 2 else 0
def wToPtr (x : Int) : Int := if wIsPtr x then x / 2 else 0
def isW (x : Int) : Prop := 0 ≤ x ∧ x < 18446744073709551616

theorem or_one (n : Nat) : (2 * n) ||| 1 = 2 * n + 1 := by
  rw [show (2 * n) = n <<< 1 by simp [Nat.shiftLeft_eq]; omega]
  exact (Nat.shiftLeft_add_eq_or_of_lt (by decide) n).symm

theorem wInt_is (n : Int) : isW (wInt n) := by unfold isW wInt; omega
theorem wInt_zero : wInt 0 = 1 := by decide

theorem wInt_bits (n : Int) : bits .or .u64 (IntKind.u64.wrap (IntKind.u64.wrap n * 2)) 1 = wInt n := by
  rw [IntKind.wrap_u64, IntKind.wrap_u64]
  rw [u64_or _ _ (by omega) (by omega) (by omega) (by omega)]
  have h : ((n % 18446744073709551616 * 2) % 18446744073709551616).toNat = 2 * (n % 9223372036854775808).toNat := by omega
  rw [h, show (1 : Int).toNat = 1 from rfl, or_one]
  unfold wInt; omega

theorem and_one {x : Int} (h : isW x) : bits .and .u64 x 1 = x % 2 := by
  unfold isW at h
  rw [u64_and _ _ (by omega) (by omega) (by omega) (by omega), show (1 : Int).toNat = 1 from rfl, Nat.and_one_is_mod]; omega

theorem ret_u64 {a b : Int} (h : a = b) : Ending.returned (.int .u64 a) = .returned (.int .u64 b) := by rw [h]
theorem ret_i64 {a b : Int} (h : a = b) : Ending.returned (.int .i64 a) = .returned (.int .i64 b) := by rw [h]
theorem ret_bool {a b : Bool} (h : a = b) : Ending.returned (.bool a) = .returned (.bool b) := by rw [h]

set_option maxHeartbeats 400000 in
theorem numInt (n : Int) (w : World) :
    Calls Tryz.prog 46 #[.int .i64 n] w fun e w' => e = .returned (.int .u64 (wInt n)) ∧ w = w' := by
  go_enter Tryz.func46, Tryz.ntmps46
  go_wp2
  go_ret
  exact ⟨ret_u64 (wInt_bits n), rfl⟩

set_option maxHeartbeats 400000 in
theorem numIsInt (x : Int) (w : World) (h : isW x) :
    Calls Tryz.prog 101 #[.int .u64 x] w fun e w' => e = .returned (.bool (wIsInt x)) ∧ w = w' := by
  have hx := Lib.hid (and_one h)
  go_enter Tryz.func101, Tryz.ntmps101
  go_wp2
  go_ret
  exact ⟨ret_bool (by rw [hx.out]; rfl), rfl⟩

theorem wIsPtr_eq {x : Int} {b : Bool} (hx : x % 2 = 0 ∧ 2 ≤ x → b = decide (x ≤ 2199023255552)) (hy : ¬ (x % 2 = 0 ∧ 2 ≤ x) → b = false) : b = wIsPtr x := by
  unfold wIsPtr
  by_cases h : x % 2 = 0 ∧ 2 ≤ x
  · rw [hx h]; simp [h.1, h.2]
  · rw [hy h]
    by_cases h1 : x % 2 = 0
    · have h2 : ¬ 2 ≤ x := fun h2 => h ⟨h1, h2⟩
      simp [h2]
    · simp [h1]

set_option maxHeartbeats 400000 in
theorem numIsPtr (x : Int) (w : World) (h : isW x) :
    Calls Tryz.prog 42 #[.int .u64 x] w fun e w' => e = .returned (.bool (wIsPtr x)) ∧ w = w' := by
  have hx := Lib.hid (and_one h)
  go_enter Tryz.func42, Tryz.ntmps42
  go_wp2
  all_goals go_ret
  · have h1 : bits .and .u64 x 1 = 0 := by assumption
    rw [hx.out] at h1
    exact ⟨ret_bool (wIsPtr_eq (fun _ => rfl) (fun h => absurd ⟨h1, by assumption⟩ h)), rfl⟩
  · have h1 : x < 2 := by assumption
    exact ⟨ret_bool (wIsPtr_eq (fun h => by omega) (fun _ => rfl)), rfl⟩
  · have h1 : ¬ bits .and .u64 x 1 = 0 := by assumption
    rw [hx.out] at h1
    exact ⟨ret_bool (wIsPtr_eq (fun h => absurd h.1 h1) (fun _ => rfl)), rfl⟩

theorem isPtr_bd {x : Int} (h : wIsPtr x = true) : x % 2 = 0 ∧ 2 ≤ x ∧ x ≤ 2199023255552 := by
  unfold wIsPtr at h; simpa using h

set_option maxHeartbeats 400000 in
theorem numToPtr (x : Int) (w : World) (h : isW x) :
    Calls Tryz.prog 72 #[.int .u64 x] w fun e w' => e = .returned (.int .i64 (wToPtr x)) ∧ w = w' := by
  by_cases hp : wIsPtr x = true
  · have hb := isPtr_bd hp
    have hh := Lib.hid hp
    obtain ⟨_, hb1, hb2⟩ := hb
    go_enter Tryz.func72, Tryz.ntmps72
    go_wp2_with (go_at_call 42; refine (numIsPtr _ _ h).mono ?_; rintro e w' ⟨rfl, rfl⟩)
    go_ret
    exact ⟨ret_i64 (by unfold wToPtr; rw [if_pos hh.out]), rfl⟩
  · have hh : wIsPtr x = false := by simpa using hp
    have hh2 := Lib.hid hh
    go_enter Tryz.func72, Tryz.ntmps72
    go_wp2_with (go_at_call 42; refine (numIsPtr _ _ h).mono ?_; rintro e w' ⟨rfl, rfl⟩)
    go_ret
    exact ⟨ret_i64 (by unfold wToPtr; rw [hh2.out]; rfl), rfl⟩

set_option maxHeartbeats 400000 in
theorem numToInt (x : Int) (w : World) (h : isW x) :
    Calls Tryz.prog 106 #[.int .u64 x] w fun e w' => e = .returned (.int .i64 (wToInt x)) ∧ w = w' := by
  by_cases hp : wIsInt x = true
  · have hh : x % 2 = 1 := by simpa [wIsInt] using hp
    have hh2 := Lib.hid hh
    clear hh
    go_enter Tryz.func106, Tryz.ntmps106
    go_wp2_with (go_at_call 101; refine (numIsInt _ _ h).mono ?_; rintro e w' ⟨rfl, rfl⟩)
    go_ret
    exact ⟨ret_i64 (by unfold wToInt; rw [if_pos hh2.out]), rfl⟩
  · have hp : wIsInt x = false := by simpa using hp
    have hh : ¬ x % 2 = 1 := by simpa [wIsInt] using hp
    have hh2 := Lib.hid hh
    clear hh
    go_enter Tryz.func106, Tryz.ntmps106
    go_wp2_with (go_at_call 101; refine (numIsInt _ _ h).mono ?_; rintro e w' ⟨rfl, rfl⟩)
    go_ret
    exact ⟨ret_i64 (by unfold wToInt; rw [if_neg hh2.out]), rfl⟩

set_option maxHeartbeats 400000 in
theorem numPtr (a : Int) (w : World) :
    Calls Tryz.prog 51 #[.int .i64 a] w fun e w' => e = .returned (.int .u64 (wPtr a)) ∧ w = w' := by
  by_cases h1 : a < 1
  · have hh := Lib.hid h1
    go_enter Tryz.func51, Tryz.ntmps51
    go_wp2_with (go_at_call 46; refine (numInt _ _).mono ?_; rintro e w' ⟨rfl, rfl⟩)
    go_ret
    exact ⟨ret_u64 (by unfold wPtr; rw [if_pos hh.out]; rfl), rfl⟩
  · by_cases h2 : 1099511627776 < a
    · have hh := Lib.hid h1
      have hh2 := Lib.hid h2
      go_enter Tryz.func51, Tryz.ntmps51
      go_wp2_with (go_at_call 46; refine (numInt _ _).mono ?_; rintro e w' ⟨rfl, rfl⟩)
      go_ret
      exact ⟨ret_u64 (by have := hh.out; unfold wPtr; rw [if_neg (by omega), if_pos hh2.out]; rfl), rfl⟩
    · have hh := Lib.hid h1
      have hh2 := Lib.hid h2
      go_enter Tryz.func51, Tryz.ntmps51
      go_wp2
      go_ret
      exact ⟨ret_u64 (by have := hh.out; have := hh2.out; unfold wPtr; rw [if_neg (by omega), if_neg (by omega)]; omega), rfl⟩

end Go.Proofs.YtjfcbimbnpfdeaaGreat

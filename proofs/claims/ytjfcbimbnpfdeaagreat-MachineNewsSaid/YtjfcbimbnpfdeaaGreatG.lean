/- Headers: right, Header, Parts of what a header may say. -/
import Derived.Test.YtjfcbimbnpfdeaaGreatF
namespace Go.Proofs.YtjfcbimbnpfdeaaGreat
open Go.RowKit

def vh (kind size tagged : Int) : Prop :=
  (0 ≤ size ∧ size ≤ 16384 ∧ 0 ≤ tagged ∧ tagged ≤ size) ∧
  ((kind = 1 ∧ 0 < size ∧ tagged = size) ∨ (kind = 2 ∧ size = 1 ∧ tagged = 1) ∨ (kind = 3 ∧ 0 < size ∧ tagged = size) ∨ (kind = 4 ∧ 0 < size ∧ tagged = 0) ∨ kind = 5)
def hdr (kind size tagged : Int) : Int := 1 + 2 * kind + 16 * size + 268435456 * tagged

theorem ret_b {a b : Bool} (h : a = b) : Ending.returned (.bool a) = .returned (.bool b) := by rw [h]

set_option maxHeartbeats 400000 in
theorem memRight (kind size tagged : Int) (w : World) (h : vh kind size tagged) :
    Calls Tryz.prog 105 #[.int .i64 kind, .int .i64 size, .int .i64 tagged] w fun e w' => e = .returned (.bool true) ∧ w = w' := by
  obtain ⟨⟨a, b, c, d⟩, h⟩ := h
  have a' : ¬ size < 0 := by omega
  have b' : ¬ 16384 < size := by omega
  have c' : ¬ tagged < 0 := by omega
  have d' : ¬ size < tagged := by omega
  rcases h with ⟨rfl, h1, rfl⟩ | ⟨rfl, rfl, rfl⟩ | ⟨rfl, h1, rfl⟩ | ⟨rfl, h1, rfl⟩ | rfl
  all_goals
    go_enter Tryz.func105, Tryz.ntmps105
    go_wp2
    go_ret
    exact ⟨ret_b (by simp), rfl⟩

theorem hdr_bits {kind size tagged : Int} (h : vh kind size tagged) :
    bits .or .u64 (bits .or .u64 (bits .or .u64 1 (kind * 2)) (size * 16)) (tagged * 268435456) = hdr kind size tagged := by
  obtain ⟨⟨a, b, c, d⟩, h⟩ := h
  have hk : 1 ≤ kind ∧ kind ≤ 5 := by omega
  have h0 := u64_or_add (x := 1) (y := kind) 2 1 rfl (by omega) (by omega) (by omega) (by omega)
  have h1 := u64_or_add (x := 1 + kind * 2) (y := size) 16 4 rfl (by omega) (by omega) (by omega) (by omega)
  have h2 := u64_or_add (x := 1 + kind * 2 + size * 16) (y := tagged) 268435456 28 rfl (by omega) (by omega) (by omega) (by omega)
  rw [h0, h1, h2]
  unfold hdr
  omega

set_option maxHeartbeats 400000 in
theorem memHeader (kind size tagged : Int) (w : World) (h : vh kind size tagged) :
    Calls Tryz.prog 68 #[.int .i64 kind, .int .i64 size, .int .i64 tagged] w fun e w' => e = .returned (.tuple #[.int .u64 (hdr kind size tagged), .int .i64 0]) ∧ w = w' := by
  have H := Lib.hid h
  obtain ⟨⟨a, b, c, d⟩, h⟩ := h
  have hk : 1 ≤ kind ∧ kind ≤ 5 := by omega
  obtain ⟨hk1, hk2⟩ := hk
  clear h
  go_enter Tryz.func68, Tryz.ntmps68
  go_wp2_with (go_at_call 105; refine (memRight _ _ _ _ H.out).mono ?_; rintro e w' ⟨rfl, rfl⟩)
  go_ret2
  exact ⟨ret_u64e (hdr_bits H.out), rfl⟩

theorem hdr_is {kind size tagged : Int} (h : vh kind size tagged) : isW (hdr kind size tagged) := by
  obtain ⟨⟨a, b, c, d⟩, h⟩ := h
  unfold isW hdr; omega
theorem and_7 {x : Int} (h0 : 0 ≤ x) (h1 : x < 18446744073709551616) : bits .and .u64 x 7 = x % 8 := by
  rw [u64_and _ _ (by omega) (by omega) (by omega) (by omega), show (7 : Int).toNat = 2 ^ 3 - 1 from rfl, Nat.and_two_pow_sub_one_eq_mod]; omega
theorem and_24 {x : Int} (h0 : 0 ≤ x) (h1 : x < 18446744073709551616) : bits .and .u64 x 16777215 = x % 16777216 := by
  rw [u64_and _ _ (by omega) (by omega) (by omega) (by omega), show (16777215 : Int).toNat = 2 ^ 24 - 1 from rfl, Nat.and_two_pow_sub_one_eq_mod]; omega

theorem results_tmp4 {fn : Func} {t u v x : Tmp} (h : fn.results = #[.tmp t, .tmp u, .tmp v, .tmp x]) (tmps : Array Value) (P : Program) (w : World) :
    (results fn tmps).run P w = .ok (.tuple #[tmps.getD t undef, tmps.getD u undef, tmps.getD v undef, tmps.getD x undef]) w := by simp [results, h]

set_option maxHeartbeats 400000 in
theorem memParts (kind size tagged : Int) (w : World) (h : vh kind size tagged) :
    Calls Tryz.prog 85 #[.int .u64 (hdr kind size tagged)] w fun e w' => e = .returned (.tuple #[.int .i64 kind, .int .i64 size, .int .i64 tagged, .bool true]) ∧ w = w' := by
  have H := Lib.hid h
  obtain ⟨x0, x1⟩ := hdr_is h
  obtain ⟨⟨a, b, c, d⟩, h⟩ := h
  have hk : 1 ≤ kind ∧ kind ≤ 5 := by omega
  obtain ⟨hk1, hk2⟩ := hk
  clear h
  have e0 : bits .and .u64 (hdr kind size tagged / 2) 7 = kind := by rw [and_7 (by omega) (by omega)]; unfold hdr; omega
  have e1 : bits .and .u64 (hdr kind size tagged / 16) 16777215 = size := by rw [and_24 (by omega) (by omega)]; unfold hdr; omega
  have e2 : bits .and .u64 (hdr kind size tagged / 268435456) 16777215 = tagged := by rw [and_24 (by omega) (by omega)]; unfold hdr; omega
  go_enter Tryz.func85, Tryz.ntmps85
  go_wp2_with (go_at_call 68; refine (memHeader _ _ _ _ H.out).mono ?_; rintro e w' ⟨rfl, rfl⟩)
  refine bodyPost_ret (results_tmp4 rfl _ _ _) rfl ?_
  exact ⟨rfl, rfl⟩
end Go.Proofs.YtjfcbimbnpfdeaaGreat

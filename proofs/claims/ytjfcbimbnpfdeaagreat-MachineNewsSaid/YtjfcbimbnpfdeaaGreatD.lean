/- isa.Encode and isa.Decode of any instruction and any word. -/
import Derived.Test.YtjfcbimbnpfdeaaGreatC
namespace Go.Proofs.YtjfcbimbnpfdeaaGreat
open Go.RowKit

theorem reg_bd {f : Bool} {r : Int} (h1 : okReg f r = true) (h2 : badReg f r = false) : 0 ≤ r ∧ r < 16 := by
  cases f
  · simp [badReg] at h2; subst h2; omega
  · simpa [okReg] using h1
theorem imm_bd {f : Bool} {n : Int} (h : badImm f n = false) : -2147483648 ≤ n ∧ n ≤ 2147483647 := by
  cases f
  · simp [badImm] at h; subst h; omega
  · simpa [badImm] using h
theorem chk_bd {op a b c n : Int} (h : chk op a b c n = 0) : (1 ≤ op ∧ op ≤ 36) ∧ (0 ≤ a ∧ a < 16) ∧ (0 ≤ b ∧ b < 16) ∧ (0 ≤ c ∧ c < 16) ∧ (-2147483648 ≤ n ∧ n ≤ 2147483647) := by
  unfold chk at h
  split at h
  · rename_i hop
    unfold chkForm at h
    split at h
    · rename_i hr
      simp only [Bool.and_eq_true] at hr
      split at h
      · omega
      · rename_i hb
        simp only [Bool.or_eq_true, not_or, Bool.not_eq_true] at hb
        exact ⟨hop, reg_bd hr.1 hb.1.1.1, reg_bd hr.2.1 hb.1.1.2, reg_bd hr.2.2 hb.1.2, imm_bd hb.2⟩
    · omega
  · omega

def encW (op a b c n : Int) : Int := op + 256 * a + 65536 * b + 16777216 * c + 4294967296 * (n % 4294967296)

theorem or_shl (x y k : Nat) (h : x < 2 ^ k) : x ||| (y * 2 ^ k) = x + y * 2 ^ k := by
  have := Nat.shiftLeft_add_eq_or_of_lt h y
  rw [Nat.shiftLeft_eq] at this
  rw [Nat.or_comm, ← this, Nat.add_comm]

theorem or_add (x y p : Nat) (k : Nat) (hp : p = 2 ^ k) (h : x < p) : x ||| (y * p) = x + y * p := by subst hp; exact or_shl x y k h

theorem u64_or_add {x y : Int} (p : Int) (k : Nat) (hp : p = ((2 ^ k : Nat) : Int)) (hx0 : 0 ≤ x) (hx : x < p) (hy : 0 ≤ y) (hb : x + y * p < 18446744073709551616) :
    bits .or .u64 x (y * p) = x + y * p := by
  obtain ⟨x, rfl⟩ := Int.eq_ofNat_of_zero_le hx0
  obtain ⟨y, rfl⟩ := Int.eq_ofNat_of_zero_le hy
  subst hp
  have e : (y : Int) * ((2 ^ k : Nat) : Int) = ((y * 2 ^ k : Nat) : Int) := by simp
  rw [e] at hb ⊢
  rw [u64_or _ _ (by omega) (by omega) (by omega) (by omega)]
  simp only [Int.toNat_natCast]
  rw [or_shl x y k (by omega)]
  simp

theorem ret_u64e {a b : Int} (h : a = b) : Ending.returned (.tuple #[.int .u64 a, .int .i64 0]) = .returned (.tuple #[.int .u64 b, .int .i64 0]) := by rw [h]

theorem enc_bits {op a b c n : Int} (hop : 1 ≤ op ∧ op ≤ 36) (ha : 0 ≤ a ∧ a < 16) (hb : 0 ≤ b ∧ b < 16) (hc : 0 ≤ c ∧ c < 16) (_hn : -2147483648 ≤ n ∧ n ≤ 2147483647) :
    bits .or .u64 (bits .or .u64 (bits .or .u64 (bits .or .u64 op (a * 256)) (b * 65536)) (c * 16777216)) ((n % 4294967296) * 4294967296) = encW op a b c n := by
  have h0 := u64_or_add (x := op) (y := a) 256 8 rfl (by omega) (by omega) (by omega) (by omega)
  have h1 := u64_or_add (x := op + a * 256) (y := b) 65536 16 rfl (by omega) (by omega) (by omega) (by omega)
  have h2 := u64_or_add (x := op + a * 256 + b * 65536) (y := c) 16777216 24 rfl (by omega) (by omega) (by omega) (by omega)
  have h3 := u64_or_add (x := op + a * 256 + b * 65536 + c * 16777216) (y := n % 4294967296) 4294967296 32 rfl (by omega) (by omega) (by omega) (by omega)
  rw [h0, h1, h2, h3]
  unfold encW
  omega

set_option maxHeartbeats 400000 in
theorem isaEncode (op a b c n : Int) (w : World) (h : chk op a b c n = 0) :
    Calls Tryz.prog 50 #[.agg #[.int .i64 op, .int .i64 a, .int .i64 b, .int .i64 c, .int .i64 n]] w fun e w' => e = .returned (.tuple #[.int .u64 (encW op a b c n), .int .i64 0]) ∧ Below w.heap.size w w' := by
  obtain ⟨⟨o1, o2⟩, ⟨a1, a2⟩, ⟨b1, b2⟩, ⟨c1, c2⟩, ⟨n1, n2⟩⟩ := chk_bd h
  have H := Lib.hid h
  clear h
  go_enter Tryz.func50, Tryz.ntmps50
  go_wp2_with fail
  refine (isaCheck _ _ _ _ _ _).mono ?_
  rintro e w1 ⟨rfl, hb1⟩
  rw [H.out]
  have hc : ∀ o v, (#[.int .i64 op, .int .i64 a, .int .i64 b, .int .i64 c, .int .i64 n] : Array Value)[o]? = some v → w1.cell? ⟨w.heap.size, o, none⟩ = some v :=
    fun o v hv => (hb1.cell (p := ⟨w.heap.size, o, none⟩) (by simp)).trans ((cell_of_row _ _ _ _ _ _ (heap_alloc_new w _)).trans hv)
  have d0 := hc 0 (.int .i64 op) (by rfl)
  have d1 := hc 1 (.int .i64 a) (by rfl)
  have d2 := hc 2 (.int .i64 b) (by rfl)
  have d3 := hc 3 (.int .i64 c) (by rfl)
  have d4 := hc 4 (.int .i64 n) (by rfl)
  have hB1 : Below w.heap.size w w1 := (Below.refl _ _).alloc (Nat.le_refl _) _ |>.trans (hb1.mono (by simp))
  clear hc hb1
  go_wp2
  go_ret2
  exact ⟨ret_u64e (enc_bits ⟨o1, o2⟩ ⟨a1, a2⟩ ⟨b1, b2⟩ ⟨by assumption, by assumption⟩ ⟨n1, n2⟩), hB1⟩

def dOp (x : Int) : Int := x % 256
def dA (x : Int) : Int := x / 256 % 256
def dB (x : Int) : Int := x / 65536 % 256
def dC (x : Int) : Int := x / 16777216 % 256
def dN (x : Int) : Int := (x / 4294967296 + 2147483648) % 4294967296 - 2147483648

theorem dec_enc {op a b c n : Int} (h : chk op a b c n = 0) : dOp (encW op a b c n) = op ∧ dA (encW op a b c n) = a ∧ dB (encW op a b c n) = b ∧ dC (encW op a b c n) = c ∧ dN (encW op a b c n) = n ∧ isW (encW op a b c n) := by
  obtain ⟨⟨o1, o2⟩, ⟨a1, a2⟩, ⟨b1, b2⟩, ⟨c1, c2⟩, ⟨n1, n2⟩⟩ := chk_bd h
  unfold dOp dA dB dC dN encW isW
  omega

theorem and_255 {x : Int} (h0 : 0 ≤ x) (h1 : x < 18446744073709551616) : bits .and .u64 x 255 = x % 256 := by
  rw [u64_and _ _ (by omega) (by omega) (by omega) (by omega), show (255 : Int).toNat = 2 ^ 8 - 1 from rfl, Nat.and_two_pow_sub_one_eq_mod]; omega

set_option maxHeartbeats 400000 in
theorem isaDecode (x : Int) (w : World) (hx : isW x) (h : chk (dOp x) (dA x) (dB x) (dC x) (dN x) = 0) :
    Calls Tryz.prog 73 #[.int .u64 x] w fun e w' => e = .returned (.tuple #[.agg #[.int .i64 (dOp x), .int .i64 (dA x), .int .i64 (dB x), .int .i64 (dC x), .int .i64 (dN x)], .int .i64 0]) ∧ Below w.heap.size w w' := by
  obtain ⟨x0, x1⟩ := hx
  have e0 : bits .and .u64 x 255 = dOp x := and_255 x0 x1
  have e1 : bits .and .u64 (x / 256) 255 = dA x := and_255 (by omega) (by omega)
  have e2 : bits .and .u64 (x / 65536) 255 = dB x := and_255 (by omega) (by omega)
  have e3 : bits .and .u64 (x / 16777216) 255 = dC x := and_255 (by omega) (by omega)
  have e4 : wrap64 (wrap32 (x / 4294967296)) = dN x := by unfold wrap64 wrap32 dN; omega
  have b0 : 0 ≤ dOp x ∧ dOp x < 256 := by unfold dOp; omega
  have b1 : 0 ≤ dA x ∧ dA x < 256 := by unfold dA; omega
  have b2 : 0 ≤ dB x ∧ dB x < 256 := by unfold dB; omega
  have b3 : 0 ≤ dC x ∧ dC x < 256 := by unfold dC; omega
  have H := Lib.hid h
  clear h
  go_enter Tryz.func73, Tryz.ntmps73
  go_wp2_with fail
  refine (isaCheck _ _ _ _ _ _).mono ?_
  rintro e w1 ⟨rfl, hb1⟩
  rw [H.out]
  obtain ⟨W, hW⟩ : ∃ W, W = (w.alloc (.cells #[.int .i64 0, .int .i64 0, .int .i64 0, .int .i64 0, .int .i64 0] 62)).alloc (.cells #[.int .i64 (dOp x), .int .i64 (dA x), .int .i64 (dB x), .int .i64 (dC x), .int .i64 (dN x)] 62) := ⟨_, rfl⟩
  rw [← hW] at hb1
  have hsz : W.heap.size = w.heap.size + 2 := by rw [hW]; simp
  have k0 : W.heap[w.heap.size]? = some (.cells #[.int .i64 0, .int .i64 0, .int .i64 0, .int .i64 0, .int .i64 0] 62 (0,0)) := by rw [hW]; exact heap_alloc2_old w _ _
  have k1 : W.heap[w.heap.size + 1]? = some (.cells #[.int .i64 (dOp x), .int .i64 (dA x), .int .i64 (dB x), .int .i64 (dC x), .int .i64 (dN x)] 62 (0,0)) := by rw [hW]; exact heap_alloc2_new w _ _
  have hBW : Below w.heap.size w W := by rw [hW]; exact ((Below.refl _ _).alloc (Nat.le_refl _) _).alloc (by simp) _
  have g0 : w1.heap[w.heap.size]? = _ := (hb1.block _ (by omega)).trans k0
  have g1 : w1.heap[w.heap.size + 1]? = _ := (hb1.block _ (by omega)).trans k1
  have hB1 : Below w.heap.size w w1 := hBW.trans (hb1.mono (by omega))
  have hs1 := hb1.size
  clear hW k0 k1 hBW hb1
  have c0 : w1.cell? ⟨w.heap.size + 1, 0, none⟩ = some (.int .i64 (dOp x)) := cell_of_row _ _ _ _ _ _ g1
  have c1 : w1.cell? ⟨w.heap.size + 1, 1, none⟩ = some (.int .i64 (dA x)) := cell_of_row _ _ _ _ _ _ g1
  have c2 : w1.cell? ⟨w.heap.size + 1, 2, none⟩ = some (.int .i64 (dB x)) := cell_of_row _ _ _ _ _ _ g1
  have c3 : w1.cell? ⟨w.heap.size + 1, 3, none⟩ = some (.int .i64 (dC x)) := cell_of_row _ _ _ _ _ _ g1
  have c4 : w1.cell? ⟨w.heap.size + 1, 4, none⟩ = some (.int .i64 (dN x)) := cell_of_row _ _ _ _ _ _ g1
  have z0 : w1.cell? ⟨w.heap.size, 0, none⟩ = some (.int .i64 0) := cell_of_row _ _ _ _ _ _ g0
  have z1 : w1.cell? ⟨w.heap.size, 1, none⟩ = some (.int .i64 0) := cell_of_row _ _ _ _ _ _ g0
  have z2 : w1.cell? ⟨w.heap.size, 2, none⟩ = some (.int .i64 0) := cell_of_row _ _ _ _ _ _ g0
  have z3 : w1.cell? ⟨w.heap.size, 3, none⟩ = some (.int .i64 0) := cell_of_row _ _ _ _ _ _ g0
  have z4 : w1.cell? ⟨w.heap.size, 4, none⟩ = some (.int .i64 0) := cell_of_row _ _ _ _ _ _ g0
  have f0 : ∀ j, w1.frozen? ⟨w.heap.size, j, none⟩ = false := fun j => frozen_of_row _ _ _ _ _ g0
  clear g0 g1
  clear e0 e1 e2 e3 e4
  go_wp2
  refine bodyPost_ret (v := .tuple #[.agg #[.int .i64 (dOp x), .int .i64 (dA x), .int .i64 (dB x), .int .i64 (dC x), .int .i64 (dN x)], .int .i64 0]) ?_ rfl ⟨rfl, ?_⟩
  · simp [results, Tryz.results73, go_sem, z0, z1, z2, z3, z4]
  · exact ((((hB1.setCell (by simp) _).setCell (by simp) _).setCell (by simp) _).setCell (by simp) _).setCell (by simp) _
end Go.Proofs.YtjfcbimbnpfdeaaGreat

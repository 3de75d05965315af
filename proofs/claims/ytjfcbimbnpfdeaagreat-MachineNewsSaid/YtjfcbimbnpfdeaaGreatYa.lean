/- The words of a code's object while its instructions are stored. -/
import Derived.Test.YtjfcbimbnpfdeaaGreatY
namespace Go.Proofs.YtjfcbimbnpfdeaaGreat
open Go.RowKit

def Ins.enc (i : Ins) : Int := encW i.op i.a i.b i.c i.n
def ldW (xs : List Ins) (k : Nat) : List Int := hdr 5 xs.length 0 :: ((xs.take k).map Ins.enc ++ List.replicate (xs.length - k) 0)
theorem ldW_zero (xs : List Ins) : ldW xs 0 = objW 5 xs.length 0 := by simp [ldW, objW]
theorem ldW_len (xs : List Ins) (k : Nat) (h : k ≤ xs.length) : (ldW xs k).length = xs.length + 1 := by simp [ldW]; omega
theorem ldW_all (xs : List Ins) : ldW xs xs.length = hdr 5 xs.length 0 :: xs.map Ins.enc := by simp [ldW]
theorem ldW_set (xs : List Ins) (k : Nat) (i : Ins) (h : xs[k]? = some i) : (ldW xs k).set (k + 1) i.enc = ldW xs (k + 1) := by
  have hk : k < xs.length := (List.getElem?_eq_some_iff.1 h).1
  have hl : ((xs.take k).map Ins.enc).length = k := by simp; omega
  unfold ldW
  rw [List.set_cons_succ, List.set_append_right _ _ (by rw [hl]; exact Nat.le_refl _), hl, Nat.sub_self, show xs.length - k = (xs.length - (k + 1)) + 1 by omega, List.replicate_succ, List.set_cons_zero]
  have ht : xs.take (k + 1) = xs.take k ++ [i] := by
    rw [List.take_add_one, h]; rfl
  rw [ht, List.map_append, List.append_assoc]
  rfl
end Go.Proofs.YtjfcbimbnpfdeaaGreat

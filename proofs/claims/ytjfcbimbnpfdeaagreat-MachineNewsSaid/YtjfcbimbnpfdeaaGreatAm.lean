/- known: four instructions are loaded and run. -/
import Derived.Test.YtjfcbimbnpfdeaaGreatAl
namespace Go.Proofs.YtjfcbimbnpfdeaaGreat
open Go.RowKit

def kIns : List Ins := [⟨1, 2, 0, 0, 5⟩, ⟨1, 3, 0, 0, -7⟩, ⟨9, 2, 2, 3, 0⟩, ⟨28, 2, 0, 0, 0⟩]
theorem kIns_ok : ∀ i ∈ kIns, Ins.ok i := by
  intro i hi
  simp only [kIns, List.mem_cons, List.not_mem_nil, or_false] at hi
  rcases hi with rfl | rfl | rfl | rfl <;> (unfold Ins.ok; kernel_rfl)
def kObj : Ob := ⟨5, 0, kIns.map Ins.enc⟩
def kMem : MemS := ⟨64, 0, [kObj], []⟩
def kM (globals : List Int) : MS := ⟨kMem, 16, ones, [], [], globals, 2, 1, 0, 0, 0⟩
def kRegs : Nat → List Int
  | 0 => ones
  | 1 => ones.set 2 (wInt 5)
  | 2 => (ones.set 2 (wInt 5)).set 3 (wInt (-7))
  | _ => ((ones.set 2 (wInt 5)).set 3 (wInt (-7))).set 2 (wInt (-35))
def kI (globals : List Int) (M : MS) (A : Nat × Int) : Prop :=
  A.1 ≤ 3 ∧ 0 ≤ A.2 ∧ A.2 ≤ 9 ∧ M = { kM globals with regs := kRegs A.1, frames := [⟨2, A.1, []⟩], used := 3, budget := 9, steps := A.2 }
def kJ (_ : List Int) (M : MS) (A : Nat × Int) : Prop := M.steps = A.2 ∧ M.entry = 2 ∧ (A.1 = 4 → M.value = wInt (-35))
def kSt (A : Nat × Int) : (Nat × Int) × Int := ((A.1 + 1, A.2), if A.1 = 3 then 1 else 0)
def kInc (A : Nat × Int) : Nat × Int := (A.1, A.2 + 1)
theorem kGoes (globals : List Int) : Goes (kI globals) (kJ globals) kInc kSt (fun A => A.2) 9 where
  steps_is := fun M A h => by obtain ⟨_, _, _, rfl⟩ := h; rfl
  jsteps_is := fun M A h => h.1
  bd := fun M A h => by obtain ⟨_, _, _, rfl⟩ := h; rfl
  inc_is := fun M A h hl => by obtain ⟨h1, h2, h3, rfl⟩ := h; exact ⟨h1, by show 0 ≤ A.2 + 1; omega, by show A.2 + 1 ≤ 9; omega, rfl⟩
  incs := fun A => rfl
  mono := fun A => Int.le_refl _
  pos := fun M A h => ⟨h.2.1, h.2.2.1⟩
  toJ := fun M A h => by obtain ⟨h1, _, _, rfl⟩ := h; exact ⟨rfl, rfl, fun e => by omega⟩
  entry := fun M A h => by rw [h.2.1]; rfl
theorem kRun : runA kInc kSt (fun A => A.2) 9 0 ((9 : Int).toNat + 1) (0, 0) = ((4, 4), 1) := by rfl
theorem kWf : kMem.Wf := by
  refine ⟨by decide, .inl rfl, ?_, by simp [kMem], by decide, by decide⟩
  intro o ho
  simp only [kMem, List.mem_cons, List.not_mem_nil, or_false] at ho
  subst ho
  refine ⟨by decide, ?_⟩
  right; right; right; right; rfl
theorem kWord (i : Nat) (hi : i ≤ 3) : ∃ x, kObj.fs.getD i 0 = x ∧ isW x ∧ chk (dOp x) (dA x) (dB x) (dC x) (dN x) = 0 ∧ kIns[i]? = some ⟨dOp x, dA x, dB x, dC x, dN x⟩ := by
  obtain ⟨j, hj⟩ : ∃ j, kIns[i]? = some j := ⟨_, List.getElem?_eq_getElem (by show i < 4; omega)⟩
  have hok : chk j.op j.a j.b j.c j.n = 0 := kIns_ok j (List.mem_of_getElem? hj)
  obtain ⟨e1, e2, e3, e4, e5, e6⟩ := dec_enc hok
  refine ⟨j.enc, ?_, e6, ?_, ?_⟩
  · show (kIns.map Ins.enc).getD i 0 = j.enc
    simp [List.getD, hj]
  · unfold Ins.enc; rw [e1, e2, e3, e4, e5]; exact hok
  · unfold Ins.enc; rw [e1, e2, e3, e4, e5]; exact hj
theorem kAt (globals : List Int) (i : Nat) (hi : i ≤ 3) (s : Int) : ∃ x, At { kM globals with regs := kRegs i, frames := [⟨2, i, []⟩], used := 3, budget := 9, steps := s } [] ⟨2, i, []⟩ 0 kObj i x ∧ kIns[i]? = some ⟨dOp x, dA x, dB x, dC x, dN x⟩ := by
  obtain ⟨x, h1, h2, h3, h4⟩ := kWord i hi
  refine ⟨x, ⟨rfl, by simp, by show isW 2; unfold isW; decide, by show wToPtr 2 = kMem.addr 0; decide, rfl, rfl, ?_, by decide, ?_, h2, h3⟩, h4⟩
  · show 0 + i < 4; omega
  · show kObj.fs.getD (0 + i) 0 = x
    rw [Nat.zero_add]; exact h1
end Go.Proofs.YtjfcbimbnpfdeaaGreat

/- Frames, rows of whole numbers, and the memory's struct. -/
import Derived.Test.YtjfcbimbnpfdeaaGreatD
import Derived.Maps.AppendAt
import Derived.Deep.AppendLies
import Derived.Laws.MakeOwn
namespace Go.Proofs.YtjfcbimbnpfdeaaGreat
open Go.RowKit

/-- Nothing but the blocks of F, and what is new, has turned. -/
structure Kp (F : Nat → Prop) (w w' : World) : Prop where
  os : w'.os = w.os
  tape : w'.tape = w.tape
  output : w'.output = w.output
  size : w.heap.size ≤ w'.heap.size
  block : ∀ k, k < w.heap.size → ¬ F k → w'.heap[k]? = w.heap[k]?

theorem Kp.refl (F : Nat → Prop) (w : World) : Kp F w w := ⟨rfl, rfl, rfl, Nat.le_refl _, fun _ _ _ => rfl⟩
theorem Kp.trans {F G : Nat → Prop} {a b c : World} (h : Kp F a b) (k : Kp G b c) (hG : ∀ i, G i → F i ∨ a.heap.size ≤ i) : Kp F a c :=
  ⟨k.os.trans h.os, k.tape.trans h.tape, k.output.trans h.output, Nat.le_trans h.size k.size, fun i hi hF =>
    (k.block i (Nat.lt_of_lt_of_le hi h.size) (fun hg => by rcases hG i hg with h1 | h1; exact hF h1; omega)).trans (h.block i hi hF)⟩
theorem Kp.mono {F G : Nat → Prop} {a b : World} (h : Kp F a b) (hG : ∀ i, F i → G i ∨ a.heap.size ≤ i) : Kp G a b :=
  (Kp.refl G a).trans h hG
theorem Kp.of_below {F : Nat → Prop} {a b : World} (h : Below a.heap.size a b) : Kp F a b := ⟨h.os, h.tape, h.output, h.size, fun k hk _ => h.block k hk⟩
theorem Kp.below {F : Nat → Prop} {a b : World} (h : Kp F a b) {B : Nat} (hB : B ≤ a.heap.size) (hF : ∀ i, F i → B ≤ i) : Below B a b :=
  ⟨h.os, h.tape, h.output, h.size, fun k hk => h.block k (by omega) (fun hf => by have := hF k hf; omega)⟩
theorem Kp.grown {F : Nat → Prop} {a b c : World} {row : Option Nat} (h : Kp F a b) (hg : b.grownBy c row) (hr : ∀ k, row = some k → F k ∨ a.heap.size ≤ k) : Kp F a c :=
  h.trans (G := fun i => some i = row) ⟨hg.os, hg.tape, hg.output, hg.size, fun i hi hn => hg.block i hi hn⟩ (fun i hi => hr i hi.symm)
theorem Kp.setCell {F : Nat → Prop} {a b : World} (h : Kp F a b) {p : Addr} (hp : F p.block ∨ a.heap.size ≤ p.block) (v : Value) : Kp F a (b.setCell p v) :=
  h.trans (G := fun i => i = p.block) ⟨rfl, rfl, rfl, by simp, fun i _ hn => Below.heap_setCell b p v i hn⟩ (fun i hi => by subst hi; exact hp)
theorem Kp.alloc {F : Nat → Prop} {a b : World} (h : Kp F a b) (o : Obj) : Kp F a (b.alloc o) :=
  h.trans (G := fun _ => False) ⟨rfl, rfl, rfl, by simp, fun i hi _ => Below.heap_alloc b o i hi⟩ (fun _ hi => hi.elim)
theorem Kp.drewN {F : Nat → Prop} {a b : World} (h : Kp F a b) (n : Nat) : Kp F a (b.drewN n) :=
  h.trans (G := fun _ => False) ⟨rfl, rfl, rfl, Nat.le_refl _, fun _ _ _ => rfl⟩ (fun _ hi => hi.elim)
theorem Kp.drew {F : Nat → Prop} {a b : World} (h : Kp F a b) : Kp F a b.drew :=
  h.trans (G := fun _ => False) ⟨rfl, rfl, rfl, Nat.le_refl _, fun _ _ _ => rfl⟩ (fun _ hi => hi.elim)
theorem Kp.at_ {F : Nat → Prop} {a b : World} (h : Kp F a b) {g : Nat} {o : Obj} (hg : a.heap[g]? = some o) (hF : ¬ F g) : b.heap[g]? = some o :=
  (h.block g (Array.getElem?_eq_some_iff.1 hg).1 hF).trans hg
theorem at_lt {a : World} {g : Nat} {o : Obj} (hg : a.heap[g]? = some o) : g < a.heap.size := (Array.getElem?_eq_some_iff.1 hg).1

def iv (k : IntKind) (xs : List Int) : List Value := xs.map fun x => .int k x
theorem iv_length (k : IntKind) (xs : List Int) : (iv k xs).length = xs.length := by simp [iv]
theorem iv_append (k : IntKind) (xs ys : List Int) : iv k (xs ++ ys) = iv k xs ++ iv k ys := by simp [iv]
theorem iv_get (k : IntKind) (xs : List Int) (j : Nat) (h : j < xs.length) : (iv k xs)[j]? = some (.int k (xs.getD j 0)) := by
  simp [iv, List.getD, h]

theorem iv_one (k : IntKind) (xs : List Int) : ∀ u ∈ iv k xs, u.oneCell' = true := by
  intro u hu
  simp only [iv, List.mem_map] at hu
  obtain ⟨x, _, rfl⟩ := hu
  rfl
theorem Kp.grownBy {F : Nat → Prop} {w w' : World} {row : Option Nat} (hg : w.grownBy w' row) (hr : ∀ k, row = some k → F k) : Kp F w w' :=
  (Kp.refl F w).grown hg (fun k hk => .inl (hr k hk))

/-- A row of whole numbers that the slice v has for itself. -/
def Rw (w : World) (e : TypeId) (k : IntKind) (v : Value) (xs : List Int) : Prop := w.ownsRow 0 e 1 v xs.length (iv k xs)

theorem Rw.nil (w : World) (e : TypeId) (k : IntKind) : Rw w e k (.slice none 0 0) [] := World.ownsRow_nil w 0 e 1
theorem Rw.parts {w : World} {e : TypeId} {k : IntKind} {v : Value} {xs : List Int} (h : Rw w e k v xs) :
    (v = .slice none 0 0 ∧ xs = []) ∨ ∃ g cap cur, v = .slice (some ⟨g, 0, none⟩) xs.length cap ∧ w.heap[g]? = some (.cells cur e (0, 0)) ∧ xs.length ≤ cap ∧ cap ≤ 9223372036854775807 ∧ cur.size = cap ∧ cur.toList.take xs.length = iv k xs := by
  rcases h.2 with ⟨h1, h2⟩ | ⟨g, cap, cur, h1, _, h3, h4, h5, h6, h7⟩
  · exact .inl ⟨h1, List.length_eq_zero_iff.1 h2⟩
  · refine .inr ⟨g, cap, cur, h1, h3, h4, ?_, by simpa using h6, by simpa using h7⟩
    unfold maxLen at h5; omega
theorem Rw.mk {w : World} {e : TypeId} {k : IntKind} {xs : List Int} {g cap : Nat} {cur : Array Value} (hg : w.heap[g]? = some (.cells cur e (0, 0))) (hl : xs.length ≤ cap) (hc : cap ≤ 9223372036854775807) (hs : cur.size = cap) (ht : cur.toList.take xs.length = iv k xs) :
    Rw w e k (.slice (some ⟨g, 0, none⟩) xs.length cap) xs :=
  ⟨by simp [iv], .inr ⟨g, cap, cur, rfl, Nat.zero_le _, hg, hl, by unfold maxLen; omega, by simpa using hs, by simpa using ht⟩⟩
theorem Rw.len {w : World} {e : TypeId} {k : IntKind} {v : Value} {xs : List Int} (h : Rw w e k v xs) : ∃ A c, v = .slice A xs.length c ∧ xs.length ≤ c ∧ c ≤ 9223372036854775807 := by
  rcases h.parts with ⟨rfl, rfl⟩ | ⟨g, cap, cur, h1, _, h4, h5, _⟩
  · exact ⟨none, 0, rfl, by simp, by omega⟩
  · exact ⟨_, cap, h1, h4, h5⟩
theorem Rw.slice {w : World} {e : TypeId} {k : IntKind} {v : Value} {xs : List Int} (h : Rw w e k v xs) : ∃ A n c, v = .slice A n c ∧ Hid (n = xs.length) := by
  obtain ⟨A, c, h1, _⟩ := h.len
  exact ⟨A, _, c, h1, Lib.hid rfl⟩
theorem new_one (w : World) (p : Addr) (v : Value) (x : Value) (t : TypeId) : ∀ j u, ([x] : List Value)[j]? = some u → ((w.setCell p v).alloc (.cells #[x] t)).cell? ((⟨w.heap.size, 0, none⟩ : Addr).add j) = some u := by
  have h := cell_one_new (w.setCell p v) x t
  simpa using h
theorem Rw.some_ {w : World} {e : TypeId} {k : IntKind} {v : Value} {xs : List Int} (h : Rw w e k v xs) (hp : 0 < xs.length) :
    ∃ g cap, v = .slice (some ⟨g, 0, none⟩) xs.length cap ∧ xs.length ≤ cap ∧ cap ≤ 9223372036854775807 ∧ (∀ j, j < xs.length → w.cell? ⟨g, j, none⟩ = some (.int k (xs.getD j 0))) ∧ (∀ j, w.frozen? ⟨g, j, none⟩ = false) ∧ g < w.heap.size := by
  rcases h.parts with ⟨_, rfl⟩ | ⟨g, cap, cur, h1, h2, h4, h5, h6, h7⟩
  · simp at hp
  · refine ⟨g, cap, h1, h4, h5, fun j hj => ?_, fun j => frozen_of_row _ _ _ _ _ h2, at_lt h2⟩
    rw [cell_of_row _ _ _ _ _ _ h2]
    have h8 := iv_get k xs j hj
    rw [← h7, List.getElem?_take_of_lt hj] at h8
    simpa using h8
theorem Rw.kp {F : Nat → Prop} {w w' : World} {e : TypeId} {k : IntKind} {v : Value} {xs : List Int} (h : Rw w e k v xs) (hk : Kp F w w') (hF : ∀ b, v.ownBlock = some b → ¬ F b) : Rw w' e k v xs := by
  rcases h.parts with ⟨rfl, rfl⟩ | ⟨g, cap, cur, rfl, h2, h4, h5, h6, h7⟩
  · exact Rw.nil _ _ _
  · exact Rw.mk (hk.at_ h2 (hF g rfl)) h4 h5 h6 h7
theorem Rw.lt {w : World} {e : TypeId} {k : IntKind} {v : Value} {xs : List Int} (h : Rw w e k v xs) : ∀ b, v.ownBlock = some b → b < w.heap.size ∧ ∃ cur, w.heap[b]? = some (.cells cur e (0, 0)) := by
  intro b hb
  rcases h.parts with ⟨rfl, rfl⟩ | ⟨g, cap, cur, rfl, h2, h4, h5, h6, h7⟩
  · cases hb
  · cases hb
    exact ⟨at_lt h2, cur, h2⟩
theorem Rw.set {w : World} {e : TypeId} {k : IntKind} {xs : List Int} {g cap : Nat} (h : Rw w e k (.slice (some ⟨g, 0, none⟩) xs.length cap) xs) (j : Nat) (x : Int) :
    Rw (w.setCell ⟨g, j, none⟩ (.int k x)) e k (.slice (some ⟨g, 0, none⟩) xs.length cap) (xs.set j x) := by
  rcases h.parts with ⟨h1, _⟩ | ⟨g', cap', cur, h1, h2, h4, h5, h6, h7⟩
  · cases h1
  · cases h1
    have hb := heap_setCell_same w g j cur e (.int k x) h2
    have := Rw.mk (w := w.setCell ⟨g, j, none⟩ (.int k x)) (xs := xs.set j x) (k := k) hb (by simpa using h4) h5 (by simpa using h6) (by
      rw [Array.toList_setIfInBounds, List.length_set, List.take_set, h7]
      simp [iv])
    simpa using this
/-- Rows of different element types lie apart. -/
theorem Rw.apart {w : World} {e e' : TypeId} {k k' : IntKind} {v v' : Value} {xs xs' : List Int} (h : Rw w e k v xs) (h' : Rw w e' k' v' xs') (hne : e ≠ e') : ∀ b, v.ownBlock = some b → v'.ownBlock ≠ some b := by
  intro b hb hb'
  obtain ⟨_, cur, hc⟩ := h.lt b hb
  obtain ⟨_, cur', hc'⟩ := h'.lt b hb'
  rw [hc] at hc'
  injection hc' with hc'
  injection hc' with _ ht
  exact hne ht
theorem Rw.of_own {w : World} {e : TypeId} {k : IntKind} {v : Value} {xs ys : List Int} (h : w.ownsRow 0 e 1 v (xs.length + ys.length) (iv k xs ++ iv k ys)) : Rw w e k v (xs ++ ys) := by
  unfold Rw; rw [List.length_append, iv_append]; exact h
theorem Rw.off {w : World} {e t : TypeId} {k : IntKind} {v : Value} {xs : List Int} (h : Rw w e k v xs) {g : Nat} {cs : Array Value} {f : Nat × Nat} (hg : w.heap[g]? = some (.cells cs t f)) (hne : e ≠ t) : v.ownBlock ≠ some g := by
  intro hb
  obtain ⟨_, cur, hc⟩ := h.lt g hb
  rw [hg] at hc
  injection hc with hc'
  injection hc' with _ ht
  exact hne ht.symm

def memCells (size half f1 : Int) (ws hs : Value) (f2 : Int) (os oh : Value) (mv : Nat) : Array Value :=
  #[.int .i64 size, .int .i64 half, .int .i64 f1, ws, hs, .int .i64 f2, os, oh, .map (some mv)]

theorem info51 : (Tryz.prog.info? 51).map (fun i => (i.zero, i.size, i.bytes)) = some (some (.int .u64 0), 1, 8) := by kernel_rfl
theorem info3 : (Tryz.prog.info? 3).map (fun i => (i.zero, i.size, i.bytes)) = some (some (.int .i64 0), 1, 8) := by kernel_rfl
theorem i0_51 : Tryz.prog.underlying 43 = some (.slice 51) := Tryz.underlying43
theorem i0_68 : Tryz.prog.underlying 68 = some (.slice 3) := Tryz.underlying68

end Go.Proofs.YtjfcbimbnpfdeaaGreat

/- The machine and its memory: what lies where, and what keeps it. -/
import Derived.Test.YtjfcbimbnpfdeaaGreatAa
import Derived.Maps.OwnOps
namespace Go.Proofs.YtjfcbimbnpfdeaaGreat
open Go.RowKit

structure MemS where
  size : Int
  half : Int
  objs : List Ob
  oobjs : List Ob
def MemS.first (m : MemS) : Int := 1 + m.half * m.size
def MemS.ofirst (m : MemS) : Int := 1 + (1 - m.half) * m.size
structure MemS.Wf (m : MemS) : Prop where
  size : 64 ≤ m.size ∧ m.size ≤ 65536
  half : m.half = 0 ∨ m.half = 1
  ok : ∀ o ∈ m.objs, o.ok
  ook : ∀ o ∈ m.oobjs, o.ok
  fit : ((rowsOf m.objs).length : Int) ≤ m.size
  ofit : ((rowsOf m.oobjs).length : Int) ≤ m.size
theorem MemS.Wf.first {m : MemS} (h : m.Wf) : 1 ≤ m.first ∧ m.first ≤ 65537 := by
  have h1 := h.size
  unfold MemS.first
  rcases h.half with e | e <;> rw [e] <;> omega
theorem MemS.Wf.ofirst {m : MemS} (h : m.Wf) : 1 ≤ m.ofirst ∧ m.ofirst ≤ 65537 := by
  have h1 := h.size
  unfold MemS.ofirst
  rcases h.half with e | e <;> rw [e] <;> omega
theorem MemS.Wf.mw {m : MemS} (h : m.Wf) : MW m.first (rowsOf m.objs) (headsOf m.first m.objs) :=
  mw_of _ _ h.first.1 (by have := h.first.2; omega) (by have := h.fit; have := h.size; omega)
theorem MemS.Wf.omw {m : MemS} (h : m.Wf) : MW m.ofirst (rowsOf m.oobjs) (headsOf m.ofirst m.oobjs) :=
  mw_of _ _ h.ofirst.1 (by have := h.ofirst.2; omega) (by have := h.ofit; have := h.size; omega)

structure MemL where
  g : Nat
  mb : Nat
  wv : Value
  hv : Value
  ov : Value
  qv : Value
def MemL.own (L : MemL) (i : Nat) : Prop := i = L.g ∨ i = L.mb ∨ L.wv.ownBlock = some i ∨ L.hv.ownBlock = some i ∨ L.ov.ownBlock = some i ∨ L.qv.ownBlock = some i
def apartV (u v : Value) : Prop := ∀ b, u.ownBlock = some b → v.ownBlock ≠ some b
theorem apartV.symm {u v : Value} (h : apartV u v) : apartV v u := fun b h1 h2 => h b h2 h1
def MapIs (w : World) (mb : Nat) : Prop := ∃ n D, n ≤ 100000 ∧ w.ownsMap (H := Unit) Tryz.prog 3 (plainElem Tryz.prog 3) mb n D
theorem MapIs.kp {F : Nat → Prop} {w w' : World} {mb : Nat} (h : MapIs w mb) (k : Kp F w w') (hF : ¬ F mb) : MapIs w' mb := by
  obtain ⟨n, D, hn, es, c, h1, h2⟩ := h
  exact ⟨n, D, hn, es, c, k.at_ h1 hF, h2⟩
theorem MapIs.lt {w : World} {mb : Nat} (h : MapIs w mb) : mb < w.heap.size := by
  obtain ⟨n, D, hn, h1⟩ := h
  exact h1.lt
theorem MapIs.made (w : World) : MapIs (w.alloc (.map #[] 0)) w.heap.size := ⟨0, _, by omega, World.ownsMap_made w _ _ _⟩
theorem MapIs.off {w : World} {mb g : Nat} {cs : Array Value} {t : TypeId} {f : Nat × Nat} (h : MapIs w mb) (hg : w.heap[g]? = some (.cells cs t f)) : mb ≠ g := by
  obtain ⟨n, D, hn, es, c, h1, h2⟩ := h
  intro e
  subst e
  rw [h1] at hg
  cases hg

/-- A memory lies at L. -/
structure MemAt (w : World) (m : MemS) (L : MemL) : Prop where
  cells : w.heap[L.g]? = some (.cells (memCells m.size m.half m.first L.wv L.hv m.ofirst L.ov L.qv L.mb) 129 (0, 0))
  ws : Rw w 51 .u64 L.wv (rowsOf m.objs)
  hs : Rw w 3 .i64 L.hv (headsOf m.first m.objs)
  ows : Rw w 51 .u64 L.ov (rowsOf m.oobjs)
  ohs : Rw w 3 .i64 L.qv (headsOf m.ofirst m.oobjs)
  map : MapIs w L.mb
  apw : apartV L.wv L.ov
  aph : apartV L.hv L.qv
  wf : m.Wf
theorem MemAt.kp {F : Nat → Prop} {w w' : World} {m : MemS} {L : MemL} (h : MemAt w m L) (k : Kp F w w') (hF : ∀ i, L.own i → ¬ F i) : MemAt w' m L :=
  ⟨k.at_ h.cells (hF _ (.inl rfl)), h.ws.kp k (fun b hb => hF b (.inr (.inr (.inl hb)))), h.hs.kp k (fun b hb => hF b (.inr (.inr (.inr (.inl hb))))),
    h.ows.kp k (fun b hb => hF b (.inr (.inr (.inr (.inr (.inl hb)))))), h.ohs.kp k (fun b hb => hF b (.inr (.inr (.inr (.inr (.inr hb)))))), h.map.kp k (hF _ (.inr (.inl rfl))), h.apw, h.aph, h.wf⟩
theorem MemAt.lt {w : World} {m : MemS} {L : MemL} (h : MemAt w m L) : ∀ i, L.own i → i < w.heap.size := by
  intro i hi
  rcases hi with rfl | rfl | hi | hi | hi | hi
  · exact at_lt h.cells
  · exact h.map.lt
  · exact (h.ws.lt i hi).1
  · exact (h.hs.lt i hi).1
  · exact (h.ows.lt i hi).1
  · exact (h.ohs.lt i hi).1
/-- What lies in a block of another type is no part of the memory. -/
theorem MemAt.off {w : World} {m : MemS} {L : MemL} (h : MemAt w m L) {g : Nat} {cs : Array Value} {t : TypeId} {f : Nat × Nat} (hg : w.heap[g]? = some (.cells cs t f)) (h1 : t ≠ 129) (h2 : t ≠ 51) (h3 : t ≠ 3) : ¬ L.own g := by
  intro hi
  rcases hi with rfl | rfl | hi | hi | hi | hi
  · have := h.cells; rw [hg] at this; injection this with this; injection this with _ this; exact h1 this
  · exact h.map.off hg rfl
  · exact h.ws.off hg (fun e => h2 e.symm) hi
  · exact h.hs.off hg (fun e => h3 e.symm) hi
  · exact h.ows.off hg (fun e => h2 e.symm) hi
  · exact h.ohs.off hg (fun e => h3 e.symm) hi
/-- A row of words that lies apart from both halves is no part of the memory. -/
theorem MemAt.offRow {w : World} {m : MemS} {L : MemL} (h : MemAt w m L) {v : Value} {xs : List Int} (hv : Rw w 51 .u64 v xs) (h1 : apartV L.wv v) (h2 : apartV L.ov v) : ∀ b, v.ownBlock = some b → ¬ L.own b := by
  intro b hb hi
  obtain ⟨_, cur, hc⟩ := hv.lt b hb
  rcases hi with rfl | rfl | hi | hi | hi | hi
  · have := h.cells; rw [hc] at this; injection this with this; injection this with _ this; cases this
  · exact h.map.off hc rfl
  · exact h1 b hi hb
  · exact h.hs.off hc (by decide) hi
  · exact h2 b hi hb
  · exact h.ohs.off hc (by decide) hi

/-- Nothing but what is owned has turned; what is owned now was so, or is new. -/
structure Turned (w w' : World) (o o' : Nat → Prop) : Prop where
  kp : Kp o w w'
  new : ∀ i, o' i → o i ∨ w.heap.size ≤ i
theorem Turned.refl (w : World) (o : Nat → Prop) : Turned w w o o := ⟨Kp.refl _ _, fun _ h => .inl h⟩
theorem Turned.trans {a b c : World} {o p q : Nat → Prop} (h : Turned a b o p) (k : Turned b c p q) : Turned a c o q :=
  ⟨h.kp.trans k.kp h.new, fun i hi => by rcases k.new i hi with h1 | h1; exact h.new i h1; exact .inr (Nat.le_trans h.kp.size h1)⟩
theorem Turned.of_kp {F : Nat → Prop} {w w' : World} {o : Nat → Prop} (k : Kp F w w') (h : ∀ i, F i → o i ∨ w.heap.size ≤ i) : Turned w w' o o := ⟨k.mono h, fun _ h => .inl h⟩
theorem Turned.still {w w' : World} {o : Nat → Prop} (k : Kp (fun _ => False) w w') : Turned w w' o o := .of_kp k (fun _ h => h.elim)

structure Fr where
  code : Int
  at_ : Int
  slots : List Int
structure MS where
  mem : MemS
  stack : Int
  regs : List Int
  frames : List Fr
  hands : List (Int × Int)
  globals : List Int
  entry : Int
  value : Int
  used : Int
  budget : Int
  steps : Int
structure ML where
  m : MemL
  fv : Value
  kv : Value
  gv : Value
  svs : List Value
def frCells : List Fr → List Value → List Value
  | f :: l, s :: t => .int .u64 f.code :: .int .i64 f.at_ :: s :: frCells l t
  | _, _ => []
def hdCells (l : List (Int × Int)) : List Value := l.flatMap fun h => [.int .i64 h.1, .int .i64 h.2]
def ML.own (L : ML) (gx : Nat) (i : Nat) : Prop := i = gx ∨ L.m.own i ∨ L.fv.ownBlock = some i ∨ L.kv.ownBlock = some i ∨ L.gv.ownBlock = some i ∨ ∃ s ∈ L.svs, s.ownBlock = some i
def SlotsAt (w : World) : List Fr → List Value → Prop
  | [], [] => True
  | f :: l, s :: t => Rw w 51 .u64 s f.slots ∧ SlotsAt w l t
  | _, _ => False

theorem own_kp {F : Nat → Prop} {w w' : World} {n : Nat} {e : TypeId} {z : Nat} {v : Value} {l : Nat} {xs : List Value} (h : w.ownsRow n e z v l xs) (k : Kp F w w') (hF : ∀ b, v.ownBlock = some b → ¬ F b) : w'.ownsRow n e z v l xs := by
  rcases h with ⟨h0, ⟨h1, h2⟩ | ⟨g, cap, cur, rfl, h3, h4, h5⟩⟩
  · exact ⟨h0, .inl ⟨h1, h2⟩⟩
  · exact ⟨h0, .inr ⟨g, cap, cur, rfl, h3, k.at_ h4 (hF g rfl), h5⟩⟩
theorem own_at {w : World} {n : Nat} {e : TypeId} {z : Nat} {v : Value} {l : Nat} {xs : List Value} (h : w.ownsRow n e z v l xs) : ∀ b, v.ownBlock = some b → b < w.heap.size ∧ ∃ cur, w.heap[b]? = some (.cells cur e (0, 0)) := by
  intro b hb
  rcases h with ⟨h0, ⟨rfl, h2⟩ | ⟨g, cap, cur, rfl, h3, h4, h5⟩⟩
  · cases hb
  · cases hb; exact ⟨at_lt h4, cur, h4⟩
theorem SlotsAt.kp {F : Nat → Prop} {w w' : World} (k : Kp F w w') : ∀ {fs : List Fr} {svs : List Value}, SlotsAt w fs svs → (∀ s ∈ svs, ∀ b, s.ownBlock = some b → ¬ F b) → SlotsAt w' fs svs
  | [], [], _, _ => trivial
  | _ :: _, s :: _, h, hF => ⟨h.1.kp k (hF s (List.mem_cons_self ..)), SlotsAt.kp k h.2 (fun u hu => hF u (List.mem_cons_of_mem _ hu))⟩
  | [], _ :: _, h, _ => h.elim
  | _ :: _, [], h, _ => h.elim
theorem SlotsAt.row {w : World} : ∀ {fs : List Fr} {svs : List Value}, SlotsAt w fs svs → ∀ s ∈ svs, ∃ xs, Rw w 51 .u64 s xs
  | [], [], _, s, hs => by cases hs
  | f :: _, u :: _, h, s, hs => by
    cases hs with
    | head => exact ⟨_, h.1⟩
    | tail _ hs => exact SlotsAt.row h.2 s hs
  | [], _ :: _, h, _, _ => h.elim
  | _ :: _, [], h, _, _ => h.elim
theorem SlotsAt.len {w : World} : ∀ {fs : List Fr} {svs : List Value}, SlotsAt w fs svs → svs.length = fs.length
  | [], [], _ => rfl
  | _ :: _, _ :: _, h => by simp [SlotsAt.len h.2]
  | [], _ :: _, h => h.elim
  | _ :: _, [], h => h.elim

/-- A machine lies at gx, L. -/
structure MachAt (w : World) (gx : Nat) (M : MS) (L : ML) : Prop where
  mac : w.heap[gx]? = some (.cells (macCells L.m.g M.stack M.regs L.fv L.kv L.gv M.entry M.value M.used M.budget M.steps) 94 (0, 0))
  r16 : M.regs.length = 16
  mem : MemAt w M.mem L.m
  fr : w.ownsRow 0 97 3 L.fv M.frames.length (frCells M.frames L.svs)
  slots : SlotsAt w M.frames L.svs
  hd : w.ownsRow 0 182 2 L.kv M.hands.length (hdCells M.hands)
  gl : Rw w 51 .u64 L.gv M.globals
  g1024 : M.globals.length = 1024
  apart : (L.m.wv :: L.m.ov :: L.gv :: L.svs).Pairwise apartV
theorem MachAt.kp {F : Nat → Prop} {w w' : World} {gx : Nat} {M : MS} {L : ML} (h : MachAt w gx M L) (k : Kp F w w') (hF : ∀ i, L.own gx i → ¬ F i) : MachAt w' gx M L :=
  ⟨k.at_ h.mac (hF _ (.inl rfl)), h.r16, h.mem.kp k (fun i hi => hF i (.inr (.inl hi))), own_kp h.fr k (fun b hb => hF b (.inr (.inr (.inl hb)))),
    SlotsAt.kp k h.slots (fun s hs b hb => hF b (.inr (.inr (.inr (.inr (.inr ⟨s, hs, hb⟩)))))), own_kp h.hd k (fun b hb => hF b (.inr (.inr (.inr (.inl hb))))),
    h.gl.kp k (fun b hb => hF b (.inr (.inr (.inr (.inr (.inl hb)))))), h.g1024, h.apart⟩
theorem MachAt.still {w w' : World} {gx : Nat} {M : MS} {L : ML} (h : MachAt w gx M L) (k : Kp (fun _ => False) w w') : MachAt w' gx M L := h.kp k (fun _ _ h => h)
theorem MachAt.lt {w : World} {gx : Nat} {M : MS} {L : ML} (h : MachAt w gx M L) : ∀ i, L.own gx i → i < w.heap.size := by
  intro i hi
  rcases hi with rfl | hi | hi | hi | hi | ⟨s, hs, hi⟩
  · exact at_lt h.mac
  · exact h.mem.lt i hi
  · exact (own_at h.fr i hi).1
  · exact (own_at h.hd i hi).1
  · exact (h.gl.lt i hi).1
  · obtain ⟨xs, hx⟩ := h.slots.row s hs
    exact (hx.lt i hi).1
/-- The machine's own struct turns, nothing else. -/
theorem MachAt.setMac {w : World} {gx : Nat} {M : MS} {L : ML} (h : MachAt w gx M L) (j : Nat) (v : Value) (M' : MS) (hc : (macCells L.m.g M.stack M.regs L.fv L.kv L.gv M.entry M.value M.used M.budget M.steps).setIfInBounds j v = macCells L.m.g M'.stack M'.regs L.fv L.kv L.gv M'.entry M'.value M'.used M'.budget M'.steps)
    (h1 : M'.regs.length = 16) (h2 : M'.mem = M.mem) (h3 : M'.frames = M.frames) (h4 : M'.hands = M.hands) (h5 : M'.globals = M.globals) : MachAt (w.setCell ⟨gx, j, none⟩ v) gx M' L := by
  have k : Kp (fun i => i = gx) w (w.setCell ⟨gx, j, none⟩ v) := (Kp.refl (fun i => i = gx) w).setCell (p := ⟨gx, j, none⟩) (.inl rfl) v
  have hb := heap_setCell_same w gx j _ 94 v h.mac
  rw [hc] at hb
  have ne : ∀ {b : Nat} {cur : Array Value} {t : TypeId}, w.heap[b]? = some (.cells cur t (0, 0)) → t ≠ 94 → ¬ b = gx := by
    intro b cur t hb2 ht e
    subst e
    have := h.mac; rw [hb2] at this; injection this with this; injection this with _ this; exact ht this
  refine ⟨hb, h1, ?_, ?_, ?_, ?_, ?_, by rw [h5]; exact h.g1024, h.apart⟩
  · rw [h2]; exact h.mem.kp k (fun i hi e => by subst e; exact h.mem.off h.mac (by decide) (by decide) (by decide) hi)
  · rw [h3]; exact own_kp h.fr k (fun b hb => by obtain ⟨_, cur, hc⟩ := own_at h.fr b hb; exact ne hc (by decide))
  · rw [h3]; exact SlotsAt.kp k h.slots (fun s hs b hb => by obtain ⟨xs, hx⟩ := h.slots.row s hs; obtain ⟨_, cur, hc⟩ := hx.lt b hb; exact ne hc (by decide))
  · rw [h4]; exact own_kp h.hd k (fun b hb => by obtain ⟨_, cur, hc⟩ := own_at h.hd b hb; exact ne hc (by decide))
  · rw [h5]; exact h.gl.kp k (fun b hb => by obtain ⟨_, cur, hc⟩ := h.gl.lt b hb; exact ne hc (by decide))
theorem Turned.set {w : World} {gx : Nat} {L : ML} (j : Nat) (v : Value) : Turned w (w.setCell ⟨gx, j, none⟩ v) (L.own gx) (L.own gx) :=
  ⟨(Kp.refl _ w).setCell (p := ⟨gx, j, none⟩) (.inl (.inl rfl)) v, fun _ h => .inl h⟩

section
variable {w : World} {gx : Nat} {M : MS} {L : ML} (h : MachAt w gx M L)
include h
theorem MachAt.c0 : w.cell? ⟨gx, 0, none⟩ = some (.pointer (some ⟨L.m.g, 0, none⟩)) := (cell_of_row _ _ _ _ _ _ h.mac).trans mac_m
theorem MachAt.c1 : w.cell? ⟨gx, 1, none⟩ = some (.int .i64 M.stack) := (cell_of_row _ _ _ _ _ _ h.mac).trans mac_stack
theorem MachAt.cr (j : Nat) (hj : j < 16) : w.cell? ⟨gx, 2 + j, none⟩ = some (.int .u64 (M.regs.getD j 0)) := (cell_of_row _ _ _ _ _ _ h.mac).trans (mac_reg j (by rw [h.r16]; exact hj))
theorem MachAt.c18 : w.cell? ⟨gx, 18, none⟩ = some L.fv := (cell_of_row _ _ _ _ _ _ h.mac).trans (mac_tail h.r16 0)
theorem MachAt.c19 : w.cell? ⟨gx, 19, none⟩ = some L.kv := (cell_of_row _ _ _ _ _ _ h.mac).trans (mac_tail h.r16 1)
theorem MachAt.c20 : w.cell? ⟨gx, 20, none⟩ = some L.gv := (cell_of_row _ _ _ _ _ _ h.mac).trans (mac_tail h.r16 2)
theorem MachAt.c21 : w.cell? ⟨gx, 21, none⟩ = some (.int .u64 M.entry) := (cell_of_row _ _ _ _ _ _ h.mac).trans (mac_tail h.r16 3)
theorem MachAt.c22 : w.cell? ⟨gx, 22, none⟩ = some (.int .u64 M.value) := (cell_of_row _ _ _ _ _ _ h.mac).trans (mac_tail h.r16 4)
theorem MachAt.c23 : w.cell? ⟨gx, 23, none⟩ = some (.int .i64 M.used) := (cell_of_row _ _ _ _ _ _ h.mac).trans (mac_tail h.r16 5)
theorem MachAt.c24 : w.cell? ⟨gx, 24, none⟩ = some (.int .i64 M.budget) := (cell_of_row _ _ _ _ _ _ h.mac).trans (mac_tail h.r16 6)
theorem MachAt.c25 : w.cell? ⟨gx, 25, none⟩ = some (.int .i64 M.steps) := (cell_of_row _ _ _ _ _ _ h.mac).trans (mac_tail h.r16 7)
theorem MachAt.fz (j : Nat) : w.frozen? ⟨gx, j, none⟩ = false := frozen_of_row _ _ _ _ _ h.mac
theorem MachAt.setReg (j : Nat) (hj : j < 16) (x : Int) : MachAt (w.setCell ⟨gx, 2 + j, none⟩ (.int .u64 x)) gx { M with regs := M.regs.set j x } L :=
  h.setMac _ _ _ (mac_setReg j (by rw [h.r16]; exact hj) x) (by simp [h.r16]) rfl rfl rfl rfl
theorem MachAt.setEntry (x : Int) : MachAt (w.setCell ⟨gx, 21, none⟩ (.int .u64 x)) gx { M with entry := x } L := h.setMac _ _ _ (mac_setE h.r16 x) h.r16 rfl rfl rfl rfl
theorem MachAt.setValue (x : Int) : MachAt (w.setCell ⟨gx, 22, none⟩ (.int .u64 x)) gx { M with value := x } L := h.setMac _ _ _ (mac_setV h.r16 x) h.r16 rfl rfl rfl rfl
theorem MachAt.setUsed (x : Int) : MachAt (w.setCell ⟨gx, 23, none⟩ (.int .i64 x)) gx { M with used := x } L := h.setMac _ _ _ (mac_setU h.r16 x) h.r16 rfl rfl rfl rfl
theorem MachAt.setBudget (x : Int) : MachAt (w.setCell ⟨gx, 24, none⟩ (.int .i64 x)) gx { M with budget := x } L := h.setMac _ _ _ (mac_setB h.r16 x) h.r16 rfl rfl rfl rfl
theorem MachAt.setSteps (x : Int) : MachAt (w.setCell ⟨gx, 25, none⟩ (.int .i64 x)) gx { M with steps := x } L := h.setMac _ _ _ (mac_setS h.r16 x) h.r16 rfl rfl rfl rfl
end
end Go.Proofs.YtjfcbimbnpfdeaaGreat

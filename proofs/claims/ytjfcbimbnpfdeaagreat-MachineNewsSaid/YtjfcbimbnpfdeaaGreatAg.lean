/- step: up to the function that does the instruction. -/
import Derived.Test.YtjfcbimbnpfdeaaGreatAf
import Derived.Deep.RegionHeld3
import Derived.Deep.DeepCutAuto
namespace Go.Proofs.YtjfcbimbnpfdeaaGreat
open Go.RowKit

theorem own_set {w : World} {n : Nat} {e : TypeId} {z : Nat} {g cap l : Nat} {xs : List Value} (h : w.ownsRow n e z (.slice (some ⟨g, 0, none⟩) l cap) l xs) (j : Nat) (v : Value) :
    (w.setCell ⟨g, j, none⟩ v).ownsRow n e z (.slice (some ⟨g, 0, none⟩) l cap) l (xs.set j v) := by
  rcases h with ⟨h0, ⟨h1, h2⟩ | ⟨g', cap', cur, h1, h3, h4, h5, h6, h7, h8⟩⟩
  · cases h1
  · cases h1
    have hb := heap_setCell_same w g j cur e v h4
    exact ⟨by simp [h0], .inr ⟨g, cap, _, rfl, h3, hb, h5, h6, by simp [h7], by rw [Array.toList_setIfInBounds, List.take_set, h8]⟩⟩
theorem frCells_setAt : ∀ (l : List Fr) (t : List Value) (f : Fr) (x : Int), t.length = l.length + 1 → (frCells (l ++ [f]) t).set (l.length * 3 + 1) (.int .i64 x) = frCells (l ++ [{ f with at_ := x }]) t
  | [], [], f, x, h => by simp at h
  | [], [s], f, x, h => by simp [frCells]
  | [], _ :: _ :: _, f, x, h => by simp at h
  | g :: l, [], f, x, h => by simp at h
  | g :: l, s :: t, f, x, h => by
    have := frCells_setAt l t f x (by simpa using h)
    simp only [List.cons_append, frCells, List.length_cons]
    rw [show (l.length + 1) * 3 + 1 = l.length * 3 + 1 + 1 + 1 + 1 by omega]
    simp only [List.set_cons_succ]
    rw [this]
theorem SlotsAt.setAt {w : World} : ∀ {l : List Fr} {t : List Value} {f : Fr} (x : Int), SlotsAt w (l ++ [f]) t → SlotsAt w (l ++ [{ f with at_ := x }]) t
  | [], [], _, _, h => h.elim
  | [], [_], _, _, h => h
  | [], _ :: _ :: _, _, _, h => h
  | _ :: _, [], _, _, h => h.elim
  | _ :: _, _ :: _, _, x, h => ⟨h.1, SlotsAt.setAt x h.2⟩
/-- A row of the machine's turns in a cell. -/
theorem MachAt.off {w : World} {gx : Nat} {M : MS} {L : ML} (h : MachAt w gx M L) {b : Nat} {cur : Array Value} {t : TypeId} (hb : w.heap[b]? = some (.cells cur t (0, 0))) (ht : t ≠ 94) : ¬ b = gx := by
  intro e
  subst e
  have := h.mac; rw [hb] at this; injection this with this; injection this with _ this; exact ht this
theorem MachAt.setAt {w : World} {gx : Nat} {M : MS} {L : ML} (h : MachAt w gx M L) (fs : List Fr) (f : Fr) (hfs : M.frames = fs ++ [f]) (g l cap : Nat) (hv : L.fv = .slice (some ⟨g, 0, none⟩) l cap) (x : Int) :
    MachAt (w.setCell ⟨g, fs.length * 3 + 1, none⟩ (.int .i64 x)) gx { M with frames := fs ++ [{ f with at_ := x }] } L := by
  have k : Kp (fun i => i = g) w (w.setCell ⟨g, fs.length * 3 + 1, none⟩ (.int .i64 x)) := (Kp.refl (fun i => i = g) w).setCell (p := ⟨g, _, none⟩) (.inl rfl) _
  have hfr := h.fr
  obtain ⟨A, cap', e1, hc1, hc2⟩ := own_len hfr
  rw [hv] at e1
  have hg := own_at hfr g (by rw [hv]; rfl)
  obtain ⟨hgl, cur, hgc⟩ := hg
  have ne : ∀ {b : Nat} {cur' : Array Value} {t : TypeId}, w.heap[b]? = some (.cells cur' t (0, 0)) → t ≠ 97 → ¬ b = g := by
    intro b cur' t hb ht e
    subst e
    rw [hb] at hgc; injection hgc with hgc; injection hgc with _ hgc; exact ht hgc
  have hlen := h.slots.len
  refine ⟨k.at_ h.mac (fun e => h.off hgc (by decide) e.symm), h.r16, ?_, ?_, ?_, ?_, ?_, h.g1024, h.apart⟩
  · exact h.mem.kp k (fun i hi e => by subst e; exact h.mem.off hgc (by decide) (by decide) (by decide) hi)
  · have h2 := hfr
    rw [hv, hfs] at h2
    obtain ⟨A', cap'', e2, -, -⟩ := own_len h2
    injection e2 with _ e2 _
    rw [e2] at h2
    have h3 := own_set h2 (fs.length * 3 + 1) (.int .i64 x)
    rw [frCells_setAt _ _ _ _ (by rw [hlen, hfs]; simp)] at h3
    rw [hv, e2]
    simpa using h3
  · refine SlotsAt.setAt x ?_
    rw [← hfs]
    exact SlotsAt.kp k h.slots (fun s hs b hb => by obtain ⟨xs, hx⟩ := h.slots.row s hs; obtain ⟨_, cur, hc⟩ := hx.lt b hb; exact ne hc (by decide))
  · exact own_kp h.hd k (fun b hb => by obtain ⟨_, cur, hc⟩ := own_at h.hd b hb; exact ne hc (by decide))
  · exact h.gl.kp k (fun b hb => by obtain ⟨_, cur, hc⟩ := h.gl.lt b hb; exact ne hc (by decide))

theorem Kp.andBelow {F : Nat → Prop} {a b c : World} (h : Kp F a b) (hb : Below b.heap.size b c) : Kp F a c := h.trans (Kp.of_below (F := fun _ => False) hb) (fun _ h => h.elim)
abbrev zero5 : Obj := .cells #[.int .i64 0, .int .i64 0, .int .i64 0, .int .i64 0, .int .i64 0] 62 (0, 0)
theorem alloc_then {W w' : World} {o : Obj} (k : Kp (fun _ => False) (W.alloc o) w') : w'.heap[W.heap.size]? = some o := k.at_ (heap_alloc_new _ _) id
theorem alloc_drew_then {W w' : World} {o : Obj} (k : Kp (fun _ => False) (W.alloc o).drew w') : w'.heap[W.heap.size]? = some o := k.at_ (heap_alloc_new W o) id
theorem five {w : World} {b : Nat} (h : w.heap[b]? = some zero5) : (w.cell? ⟨b, 0, none⟩ = some (.int .i64 0) ∧ w.cell? ⟨b, 1, none⟩ = some (.int .i64 0) ∧ w.cell? ⟨b, 2, none⟩ = some (.int .i64 0) ∧ w.cell? ⟨b, 3, none⟩ = some (.int .i64 0) ∧ w.cell? ⟨b, 4, none⟩ = some (.int .i64 0)) ∧
    (w.frozen? ⟨b, 0, none⟩ = false ∧ w.frozen? ⟨b, 1, none⟩ = false ∧ w.frozen? ⟨b, 2, none⟩ = false ∧ w.frozen? ⟨b, 3, none⟩ = false ∧ w.frozen? ⟨b, 4, none⟩ = false) :=
  ⟨⟨cell_of_row _ _ _ _ _ _ h, cell_of_row _ _ _ _ _ _ h, cell_of_row _ _ _ _ _ _ h, cell_of_row _ _ _ _ _ _ h, cell_of_row _ _ _ _ _ _ h⟩, frozen_of_row _ _ _ _ _ h, frozen_of_row _ _ _ _ _ h, frozen_of_row _ _ _ _ _ h, frozen_of_row _ _ _ _ _ h, frozen_of_row _ _ _ _ _ h⟩
theorem five_set {w : World} {b : Nat} (h : w.heap[b]? = some zero5) (v0 v1 v2 v3 v4 : Value) : (((((w.setCell ⟨b, 0, none⟩ v0).setCell ⟨b, 1, none⟩ v1).setCell ⟨b, 2, none⟩ v2).setCell ⟨b, 3, none⟩ v3).setCell ⟨b, 4, none⟩ v4).heap[b]? = some (.cells #[v0, v1, v2, v3, v4] 62 (0, 0)) := by
  have h0 := heap_setCell_same w b 0 _ _ v0 h
  have h1 := heap_setCell_same _ b 1 _ _ v1 h0
  have h2 := heap_setCell_same _ b 2 _ _ v2 h1
  have h3 := heap_setCell_same _ b 3 _ _ v3 h2
  have h4 := heap_setCell_same _ b 4 _ _ v4 h3
  exact h4
theorem five_kp {F : Nat → Prop} {a w : World} {b : Nat} (k : Kp F a w) (hb : a.heap.size ≤ b) (v0 v1 v2 v3 v4 : Value) : Kp F a (((((w.setCell ⟨b, 0, none⟩ v0).setCell ⟨b, 1, none⟩ v1).setCell ⟨b, 2, none⟩ v2).setCell ⟨b, 3, none⟩ v3).setCell ⟨b, 4, none⟩ v4) :=
  ((((k.setCell (p := ⟨b, 0, none⟩) (.inr hb) v0).setCell (p := ⟨b, 1, none⟩) (.inr hb) v1).setCell (p := ⟨b, 2, none⟩) (.inr hb) v2).setCell (p := ⟨b, 3, none⟩) (.inr hb) v3).setCell (p := ⟨b, 4, none⟩) (.inr hb) v4
/-- The cells of the uppermost frame. -/
theorem MachAt.top {w : World} {gx : Nat} {M : MS} {L : ML} (h : MachAt w gx M L) (fs : List Fr) (f : Fr) (hfs : M.frames = fs ++ [f]) (g cap : Nat) (hv : L.fv = .slice (some ⟨g, 0, none⟩) (fs.length + 1) cap) :
    w.cell? ⟨g, fs.length * 3, none⟩ = some (.int .u64 f.code) ∧ w.cell? ⟨g, fs.length * 3 + 1, none⟩ = some (.int .i64 f.at_) ∧ (∀ j, w.frozen? ⟨g, j, none⟩ = false) ∧ fs.length + 1 ≤ cap ∧ cap ≤ 9223372036854775807 ∧
      ∃ s, L.svs[fs.length]? = some s ∧ w.cell? ⟨g, fs.length * 3 + 2, none⟩ = some s ∧ Rw w 51 .u64 s f.slots := by
  have hfr := h.fr
  rw [hv, hfs] at hfr
  obtain ⟨g', cap', e1, hc1, hc2, hcl, hfz, -⟩ := own_cell hfr (by simp)
  obtain ⟨rfl, rfl⟩ : g' = g ∧ cap' = cap := by injection e1 with e1 _ e2; injection e1 with e1; injection e1 with e1; exact ⟨e1.symm, e2.symm⟩
  obtain ⟨s, hs⟩ : ∃ s, L.svs[fs.length]? = some s := ⟨_, List.getElem?_eq_getElem (by have := h.slots.len; rw [hfs] at this; simp at this; omega)⟩
  obtain ⟨y0, y1, y2⟩ := frCells_get (fs ++ [f]) L.svs fs.length f s (by simp) hs
  simp only [List.length_append, List.length_cons, List.length_nil, Nat.zero_add] at hc1 hcl
  exact ⟨(hcl (fs.length * 3) (by omega)).trans y0, (hcl (fs.length * 3 + 1) (by omega)).trans y1, hfz, hc1, hc2, s, hs, (hcl (fs.length * 3 + 2) (by omega)).trans y2, h.slots.get fs.length f s (by rw [hfs]; simp) hs⟩

/-- The uppermost frame and the instruction that it is at. -/
structure At (M : MS) (fs : List Fr) (f : Fr) (j : Nat) (o : Ob) (a : Nat) (x : Int) : Prop where
  frames : M.frames = fs ++ [f]
  many : fs.length ≤ 1000000
  isw : isW f.code
  code : wToPtr f.code = M.mem.addr j
  obj : M.mem.objs[j]? = some o
  at_ : f.at_ = a
  lt : o.tg + a < o.fs.length
  sz : o.fs.length ≤ 16384
  word : o.fs.getD (o.tg + a) 0 = x
  isx : isW x
  ok : chk (dOp x) (dA x) (dB x) (dC x) (dN x) = 0
def insV (x : Int) : Value := .agg #[.int .i64 (dOp x), .int .i64 (dA x), .int .i64 (dB x), .int .i64 (dC x), .int .i64 (dN x)]
def stepFn (op : Int) : Nat := if op ≤ 6 then 75 else if op ≤ 14 then 76 else if op = 15 then 77 else if op ≤ 18 then 78 else if op ≤ 22 then 79 else if op ≤ 31 then 81 else 80
def stepArgs (op : Int) (gx : Nat) (i fp : Value) (tg : Nat) : Array Value :=
  if op ≤ 6 then #[.pointer (some ⟨gx, 0, none⟩), i, fp, .int .i64 tg] else if op ≤ 22 then #[.pointer (some ⟨gx, 0, none⟩), i] else if op ≤ 31 then #[.pointer (some ⟨gx, 0, none⟩), i, fp] else #[.pointer (some ⟨gx, 0, none⟩), i]

set_option maxRecDepth 100000 in
set_option maxHeartbeats 4000000 in
theorem MachAt.step_to {w : World} {gx : Nat} {M : MS} {L : ML} (h : MachAt w gx M L) (fs : List Fr) (f : Fr) (j : Nat) (o : Ob) (a : Nat) (x : Int) (hat : At M fs f j o a x) (g cap : Nat) (hv : L.fv = .slice (some ⟨g, 0, none⟩) (fs.length + 1) cap)
    (r : Int) (R : World → Prop)
    (H : ∀ W, MachAt W gx { M with frames := fs ++ [{ f with at_ := a + 1 }] } L → Turned w W (L.own gx) (L.own gx) → Calls Tryz.prog (stepFn (dOp x)) (stepArgs (dOp x) gx (insV x) (.pointer (some ⟨g, fs.length * 3, none⟩)) o.tg) W fun e w' => e = .returned (.int .i64 r) ∧ R w') :
    Calls Tryz.prog 44 #[.pointer (some ⟨gx, 0, none⟩)] w fun e w' => e = .returned (.int .i64 r) ∧ R w' := by
  obtain ⟨n, hn⟩ : ∃ n, n = fs.length := ⟨_, rfl⟩
  have htop : ∀ W, MachAt W gx M L → W.cell? ⟨g, n * 3, none⟩ = some (.int .u64 f.code) ∧ W.cell? ⟨g, n * 3 + 1, none⟩ = some (.int .i64 a) := fun W hW => by
    have := hW.top fs f hat.frames g cap hv
    rw [hat.at_, ← hn] at this
    exact ⟨this.1, this.2.1⟩
  have c18 := h.c18
  rw [hv, ← hn] at c18
  have hc1 : n + 1 ≤ cap := by rw [hn]; exact (h.top fs f hat.frames g cap hv).2.2.2.1
  have hc2 : cap ≤ 9223372036854775807 := (h.top fs f hat.frames g cap hv).2.2.2.2.1
  have Hh := Lib.hid h
  have Hat := Lib.hid hat
  have HH := Lib.hid H
  have Hn := Lib.hid hn
  have Hv := Lib.hid hv
  have Htop := Lib.hid htop
  have hnm : n ≤ 1000000 := by rw [hn]; exact hat.many
  have hlt := hat.lt
  have hsz := hat.sz
  have hat0 : ¬ (a : Int) < 0 := by omega
  have hat1 : ¬ (o.fs.length : Int) - o.tg ≤ a := by omega
  clear H hv h hn hat htop
  go_enter Tryz.func44, Tryz.ntmps44
  go_wp2
  go_quiet (fail)
  obtain ⟨w1, hw1⟩ : ∃ w1, w1 = w.drewN nq := ⟨_, rfl⟩
  have K1 := Lib.hid (show Kp (fun _ => False) w w1 by rw [hw1]; exact (Kp.refl _ _).drewN _)
  have hm1 := Lib.hid (Hh.out.still K1.out)
  rw [← hw1]
  clear hw1 c18
  have d0 := hm1.out.c0
  obtain ⟨v0, v1⟩ := Htop.out _ hm1.out
  go_wp2
  go_quiet ((first | (go_at_call 72; exact Calls.quiet_of_same (still_of (numToPtr _ _ Hat.out.isw))) | (go_at_call 53; exact Calls.quiet_of ((hm1.out.mem.dr _).look_yes j o Hat.out.obj _ Hat.out.code))))
  obtain ⟨w2, hw2⟩ : ∃ w2, w2 = w1.drewN nq := ⟨_, rfl⟩
  have K2 := Lib.hid (show Kp (fun _ => False) w w2 by rw [hw2]; exact K1.out.drewN _)
  have hm2 := Lib.hid (Hh.out.still K2.out)
  rw [← hw2]
  clear hw2 d0 v0 v1 hm1 K1
  obtain ⟨u0, u1⟩ := Htop.out _ hm2.out
  have keep : ∀ W, Kp (fun _ => False) w2 W → W.cell? ⟨g, n * 3, none⟩ = some (.int .u64 f.code) ∧ W.cell? ⟨g, n * 3 + 1, none⟩ = some (.int .i64 a) := fun W hW => Htop.out _ (hm2.out.still hW)
  have hS := keep _ (Kp.refl _ _).drew
  have hfld : ∀ W, Kp (fun _ => False) w2 W → Calls Tryz.prog 74 #[.pointer (some ⟨gx, 0, none⟩), .int .u64 f.code, .int .i64 ((o.tg : Int) + a)] W fun e w' => e = .returned (.int .u64 x) ∧ Kp (fun _ => False) W w' := fun W hW => by
    have := (hm2.out.still hW).field_yes f.code ((o.tg + a : Nat) : Int) Hat.out.isw j o Hat.out.obj Hat.out.code ⟨by omega, by omega⟩
    rw [Int.toNat_natCast, Hat.out.word, Int.natCast_add] at this
    exact this.mono fun e w' hh => ⟨hh.1, by obtain ⟨k, hk⟩ := hh.2; rw [hk]; exact (Kp.refl _ _).drewN k⟩
  have Hfld := Lib.hid hfld
  have Keep := Lib.hid keep
  clear hfld keep
  go_upto_region 5 with fail
  go_cut [8, 9] (fun s8 s9 wx => ∃ b : Nat, s8 = .pointer (some ⟨b, 0, none⟩) ∧ s9 = .int .i64 0 ∧ wx.heap[b]? = some (.cells #[.int .i64 (dOp x), .int .i64 (dA x), .int .i64 (dB x), .int .i64 (dC x), .int .i64 (dN x)] 62 (0, 0)) ∧ Kp (fun _ => False) w2 wx)
  case first =>
    have hidx : IntKind.i64.wrap ((o.tg : Int) + a) = (o.tg : Int) + a := by rw [IntKind.wrap_i64]; omega
    have k0 := (Kp.refl (fun _ => False) w2).drew
    have k0a := ((Kp.refl (fun _ => False) w2).alloc zero5).drew
    go_region_held3 (fun W : World => W.cell? ⟨g, n * 3, none⟩ = some (.int .u64 f.code) ∧ W.cell? ⟨g, n * 3 + 1, none⟩ = some (.int .i64 a)) (first | with_reducible exact hS | with_reducible exact Keep.out _ (k5.alloc _) | with_reducible exact Keep.out _ k5 | with_reducible exact Keep.out _ (k3.alloc _) | with_reducible exact Keep.out _ k3 | with_reducible exact Keep.out _ k0a | with_reducible exact Keep.out _ (five_kp k5 hb5 _ _ _ _ _))
      (first
        | (go_at_call 74; first
            | ((with_reducible refine (Hfld.out _ k0).mono ?_); rintro e w3 ⟨rfl, q3⟩; have k3 := k0.trans q3 (fun _ h => h.elim); clear q3)
            | ((with_reducible refine (Hfld.out _ k0a).mono ?_); rintro e w3 ⟨rfl, q3⟩; have k3 := k0a.trans q3 (fun _ h => h.elim); have z3 := Lib.hid (alloc_drew_then q3); clear q3))
        | (go_at_call 73; refine (isaDecode x _ Hat.out.isx Hat.out.ok).mono ?_; rintro e w4 ⟨rfl, b4⟩; first
            | (have z5 := Lib.hid ((Kp.of_below (F := fun _ => False) b4).at_ z3.out id); have k5 := k3.andBelow b4; have hb5 := Nat.le_refl w2.heap.size; obtain ⟨⟨e0, e1, e2, e3, e4⟩, p0, p1, p2, p3, p4⟩ := five z5.out)
            | (have k5 := by with_reducible exact k3.andBelow b4)
            | (have k5 := (k3.alloc zero5).andBelow b4; have hb5 := k3.size; have z5 := Lib.hid (alloc_then (Kp.of_below (F := fun _ => False) b4)); obtain ⟨⟨e0, e1, e2, e3, e4⟩, p0, p1, p2, p3, p4⟩ := five z5.out)))
    all_goals (go_wp2_with fail; go_meet)
    all_goals (first | exact ⟨_, rfl, rfl, five_set z5.out _ _ _ _ _, five_kp k5 hb5 _ _ _ _ _⟩ | exact ⟨_, rfl, rfl, heap_alloc_new _ _, k5.alloc _⟩)
  case rest =>
    obtain ⟨b, rfl, rfl, hb, k6⟩ := hcut
    clear hS
    have hm6 := Lib.hid (hm2.out.still k6)
    have K6 := Lib.hid (K2.out.trans k6 (fun _ h => h.elim))
    generalize wc = w6 at *
    clear k6 u0 u1
    obtain ⟨u0, u1⟩ := Htop.out _ hm6.out
    have fz := (hm6.out.top fs f Hat.out.frames g cap Hv.out).2.2.1 (n * 3 + 1)
    have hgb := (own_at hm6.out.fr g (by rw [Hv.out]; rfl))
    have hne : ¬ b = g := by
      intro e; subst e
      obtain ⟨_, cur, hc⟩ := hgb
      rw [hb] at hc; injection hc with hc; injection hc with _ hc; cases hc
    have hm7 := hm6.out.setAt fs f Hat.out.frames g (fs.length + 1) cap Hv.out ((a : Int) + 1)
    have k7 : Kp (fun i => i = g) w6 (w6.setCell ⟨g, fs.length * 3 + 1, none⟩ (.int .i64 ((a : Int) + 1))) := (Kp.refl (fun i => i = g) w6).setCell (p := ⟨g, _, none⟩) (.inl rfl) _
    have T7 : Turned w (w6.setCell ⟨g, fs.length * 3 + 1, none⟩ (.int .i64 ((a : Int) + 1))) (L.own gx) (L.own gx) := (Turned.still K6.out).trans (Turned.of_kp k7 (fun i hi => .inl (.inr (.inr (.inl (by rw [hi, Hv.out]; rfl))))))
    have hb7 := k7.at_ hb hne
    rw [← Hn.out] at hm7 k7 T7 hb7
    have Hm7 := Lib.hid hm7
    have H7 := Lib.hid T7
    clear hm7 T7 k7 hgb hb
    go_upto_region 9 with fail
    generalize w6.setCell ⟨g, n * 3 + 1, none⟩ (.int .i64 ((a : Int) + 1)) = w7 at *
    have b0 : w7.cell? ⟨b, 0, none⟩ = some (.int .i64 (dOp x)) := cell_of_row _ _ _ _ _ _ hb7
    have b1 : w7.cell? ⟨b, 1, none⟩ = some (.int .i64 (dA x)) := cell_of_row _ _ _ _ _ _ hb7
    have b2 : w7.cell? ⟨b, 2, none⟩ = some (.int .i64 (dB x)) := cell_of_row _ _ _ _ _ _ hb7
    have b3 : w7.cell? ⟨b, 3, none⟩ = some (.int .i64 (dC x)) := cell_of_row _ _ _ _ _ _ hb7
    have b4 : w7.cell? ⟨b, 4, none⟩ = some (.int .i64 (dN x)) := cell_of_row _ _ _ _ _ _ hb7
    have HC := Lib.hid (HH.out _ Hm7.out H7.out)
    rw [← Hn.out] at HC
    have hop := (chk_bd Hat.out.ok).1
    clear hb7 u0 u1 fz hne
    obtain ⟨op, hopx⟩ : ∃ op, dOp x = op := ⟨_, rfl⟩
    obtain ⟨va, hva⟩ : ∃ v, dA x = v := ⟨_, rfl⟩
    obtain ⟨vb, hvb⟩ : ∃ v, dB x = v := ⟨_, rfl⟩
    obtain ⟨vc, hvc⟩ : ∃ v, dC x = v := ⟨_, rfl⟩
    obtain ⟨vn, hvn⟩ : ∃ v, dN x = v := ⟨_, rfl⟩
    unfold insV at HC
    rw [hopx, hva, hvb, hvc, hvn] at HC
    rw [hopx] at b0 hop
    rw [hva] at b1
    rw [hvb] at b2
    rw [hvc] at b3
    rw [hvn] at b4
    clear hopx hva hvb hvc hvn
    have hcase : op = 1 ∨ op = 2 ∨ op = 3 ∨ op = 4 ∨ op = 5 ∨ op = 6 ∨ op = 7 ∨ op = 8 ∨ op = 9 ∨ op = 10 ∨ op = 11 ∨ op = 12 ∨ op = 13 ∨ op = 14 ∨ op = 15 ∨ op = 16 ∨ op = 17 ∨ op = 18 ∨ op = 19 ∨ op = 20 ∨ op = 21 ∨ op = 22 ∨ op = 23 ∨ op = 24 ∨ op = 25 ∨ op = 26 ∨ op = 27 ∨ op = 28 ∨ op = 29 ∨ op = 30 ∨ op = 31 ∨ op = 32 ∨ op = 33 ∨ op = 34 ∨ op = 35 ∨ op = 36 := by omega
    clear hop
    rcases hcase with rfl | rfl | rfl | rfl | rfl | rfl | rfl | rfl | rfl | rfl | rfl | rfl | rfl | rfl | rfl | rfl | rfl | rfl | rfl | rfl | rfl | rfl | rfl | rfl | rfl | rfl | rfl | rfl | rfl | rfl | rfl | rfl | rfl | rfl | rfl | rfl
    all_goals
      go_wp2_with (first
        | (go_at_call 75; refine HC.out.mono ?_; rintro e w' ⟨rfl, hR⟩)
        | (go_at_call 76; refine HC.out.mono ?_; rintro e w' ⟨rfl, hR⟩)
        | (go_at_call 77; refine HC.out.mono ?_; rintro e w' ⟨rfl, hR⟩)
        | (go_at_call 78; refine HC.out.mono ?_; rintro e w' ⟨rfl, hR⟩)
        | (go_at_call 79; refine HC.out.mono ?_; rintro e w' ⟨rfl, hR⟩)
        | (go_at_call 80; refine HC.out.mono ?_; rintro e w' ⟨rfl, hR⟩)
        | (go_at_call 81; refine HC.out.mono ?_; rintro e w' ⟨rfl, hR⟩))
      go_ret
      exact ⟨rfl, hR⟩
end Go.Proofs.YtjfcbimbnpfdeaaGreat

/- Load of one code of instructions into a fresh machine. -/
import Derived.Test.YtjfcbimbnpfdeaaGreatYa
import Derived.Deep.RegionHeld3
namespace Go.Proofs.YtjfcbimbnpfdeaaGreat
open Go.RowKit

/-- One code is loaded, nothing has run. -/
structure Loaded1 (w : World) (gx g gg mb : Nat) (words stack : Int) (xs : List Ins) (wv hv : Value) : Prop where
  mac : w.heap[gx]? = some (.cells (macCells g stack ones (.slice none 0 0) (.slice none 0 0) (.slice (some ⟨gg, 0, none⟩) 1024 1024) 2 1 0 0 0) 94 (0, 0))
  mem : w.heap[g]? = some (.cells (memCells words 0 1 wv hv (words + 1) (.slice none 0 0) (.slice none 0 0) mb) 129 (0, 0))
  row : Rw w 51 .u64 wv (ldW xs xs.length)
  heads : Rw w 3 .i64 hv [1]

set_option maxRecDepth 100000 in
set_option maxHeartbeats 4000000 in
theorem machineLoad1 (gx g gg mb gc : Nat) (words stack : Int) (v : Value) (xs : List Ins) (w : World) (h : Fresh w gx g gg mb words stack) (hv : InsAt w v xs) (hn : xs.length ≤ 60) (hok : ∀ i ∈ xs, Ins.ok i) (hn0 : 0 < xs.length)
    (hc : w.heap[gc]? = some (.cells #[.slice none 0 0, v] 60 (0, 0))) (hw : 64 ≤ words ∧ words ≤ 65536) :
    Calls Tryz.prog 19 #[.pointer (some ⟨gx, 0, none⟩), .slice (some ⟨gc, 0, none⟩) 1 1] w fun e w' => e = .returned (.int .i64 0) ∧ (∃ wv hv, Loaded1 w' gx g gg mb words stack xs wv hv ∧ (∀ b, wv.ownBlock = some b → w.heap.size ≤ b) ∧ ∀ b, hv.ownBlock = some b → w.heap.size ≤ b) ∧ Kp (fun i => i = gx ∨ i = g) w w' := by
  have HV := Lib.hid hv
  obtain ⟨A, c, rfl, -⟩ := hv
  obtain ⟨n, hN⟩ : ∃ n, n = xs.length := ⟨_, rfl⟩
  have HN := Lib.hid hN
  rw [← hN] at hn hn0 hc HV
  clear hN
  have c0 : w.cell? ⟨gc, 0, none⟩ = some (.slice none 0 0) := cell_of_row _ _ _ _ _ _ hc
  have c1 : w.cell? ⟨gc, 1, none⟩ = some (.slice A n c) := cell_of_row _ _ _ _ _ _ hc
  have hchk : ∀ W, Below w.heap.size w W → Calls Tryz.prog 47 #[.agg #[.slice none 0 0, .slice A n c], .int .i64 1] W fun e w' => e = .returned (.tuple #[.int .i64 (1 + n), .int .i64 0]) ∧ Below W.heap.size W w' := fun W hW => by
    have := codeCheck (.slice A n c) 1 xs W (HV.out.below hW) (by have := HN.out; omega) hok
    rw [← HN.out] at this
    exact this
  have HC := Lib.hid hchk
  have hok2 := Lib.hid hok
  clear hchk hok
  have hmk : ∀ W : World, (Instr.makeSlice 68 (.int .i64 1) (.int .i64 1)).run Tryz.prog W = .ok (.slice (some ⟨W.heap.size, 0, none⟩) 1 1) (W.alloc (.cells #[.int .i64 0] 3)) := fun W => by
    have h1 := run_make_row' (P := Tryz.prog) 68 3 (.int .i64 0) 8 Tryz.underlying68 (by kernel_rfl) rfl .i64 .i64 1 (by omega) (by omega) W
    rw [show madeCells #[.int .i64 0] 1 = #[.int .i64 0] from Array.toList_inj.1 (by rw [toList_madeCells_one]; rfl)] at h1
    exact h1
  go_enter Tryz.func19, Tryz.ntmps19
  go_wp2
  refine wp_loop_rounds 2 ?_
  rw [rounds_succ]
  go_wp2_with (first
    | (go_at_call 47; refine (HC.out _ ((Below.refl _ w).alloc (Nat.le_refl _) _)).mono ?_; rintro e w1 ⟨rfl, b1⟩)
    | fail)
  have k1 : Kp (fun _ => False) w w1 := Kp.of_below (((Below.refl _ w).alloc (Nat.le_refl _) _).trans (b1.mono (by simp)))
  have m1 := k1.at_ h.mac id
  have c21 : w1.cell? ⟨gx, 21, none⟩ = some (.int .u64 1) := (cell_of_row _ _ _ _ _ _ m1).trans (mac_tail (by rfl) 3)
  have f21 : w1.frozen? ⟨gx, 21, none⟩ = false := frozen_of_row _ _ _ _ _ m1
  have m2 := heap_setCell_same _ _ 21 _ _ (.int .u64 1) m1
  rw [mac_setE (by rfl)] at m2
  have k2 : Kp (fun i => i = gx) w1 (w1.setCell ⟨gx, 21, none⟩ (.int .u64 1)) := (Kp.refl (fun i => i = gx) w1).setCell (p := ⟨gx, 21, none⟩) (.inl rfl) _
  have hroom : ∀ W, Kp (fun i => i = gx) w W → W.heap[gx]? = some (.cells (macCells g stack ones (.slice none 0 0) (.slice none 0 0) (.slice (some ⟨gg, 0, none⟩) 1024 1024) 1 1 0 0 0) 94 (0, 0)) → Calls Tryz.prog 48 #[.pointer (some ⟨gx, 0, none⟩), .int .i64 (1 + n)] W fun e w' => e = .returned (.bool true) ∧ Kp (fun _ => False) W w' := fun W hW hm =>
    machineRoom gx g stack ones _ _ _ 1 1 0 0 0 words 0 1 (words + 1) none 0 0 _ _ _ mb (1 + n) W (by omega) (by omega) hm (hW.at_ h.mem (by intro e; subst e; have h1 := h.mac; rw [h.mem] at h1; injection h1 with h1; injection h1 with _ h1; cases h1)) (by omega)
  have HR := Lib.hid hroom
  have kx : Kp (fun i => i = gx) w (w1.setCell ⟨gx, 21, none⟩ (.int .u64 1)) := (k1.mono (fun _ h => h.elim)).trans k2 (fun _ hi => .inl hi)
  clear hroom
  rw [rounds_succ]
  go_wp2_with (first
    | (go_at_call 46; refine (numInt _ _).mono ?_; rintro e w' ⟨rfl, rfl⟩; rw [wInt_zero])
    | (go_at_call 43; refine (machineIdle gx g stack ones _ _ _ 1 1 0 0 0 _ (by rfl) rfl m2).mono ?_; rintro e w3 ⟨rfl, m3, k3⟩)
    | (go_at_call 48; refine (HR.out w3 (kx.trans k3 (fun _ hi => .inl hi)) m3).mono ?_; rintro e w4 ⟨rfl, k4⟩)
    | fail)
  have kw4 : Kp (fun i => i = gx) w w4 := (kx.trans k3 (fun _ hi => .inl hi)).trans k4 (fun _ hi => hi.elim)
  have hne : g ≠ gx := by intro e; subst e; have h1 := h.mac; rw [h.mem] at h1; injection h1 with h1; injection h1 with _ h1; cases h1
  have hne2 : gc ≠ gx := by intro e; subst e; have h1 := h.mac; rw [hc] at h1; injection h1 with h1; injection h1 with _ h1; cases h1
  have m4 := k4.at_ m3 id
  have g4 := kw4.at_ h.mem hne
  have gc4 := kw4.at_ hc hne2
  clear HR m3 k4 k3 kx k2 m2 f21 c21 m1 k1 b1 HC c0 c1
  obtain ⟨w5, hw5⟩ : ∃ w5, w5 = w4.alloc (.cells #[.int .i64 0] 3) := ⟨_, rfl⟩
  have k5 : Kp (fun _ => False) w4 w5 := by rw [hw5]; exact (Kp.refl _ _).alloc _
  have a5 : w5.heap[w4.heap.size]? = some (.cells #[.int .i64 0] 3 (0, 0)) := by rw [hw5]; exact heap_alloc_new _ _
  have Z5 : Hid (w5.heap.size = w4.heap.size + 1) := Lib.hid (by rw [hw5]; simp)
  rw [← hw5]
  clear hw5 hmk
  have gc5 := k5.at_ gc4 id
  have x0 : w5.cell? ⟨gc, 0, none⟩ = some (.slice none 0 0) := cell_of_row _ _ _ _ _ _ gc5
  have x1 : w5.cell? ⟨gc, 1, none⟩ = some (.slice A n c) := cell_of_row _ _ _ _ _ _ gc5
  refine wp_loop_rounds 2 ?_
  rw [rounds_succ]
  go_wp2
  obtain ⟨w6, hw6⟩ : ∃ w6, w6 = w5.alloc (.cells #[.slice none 0 0, .slice A n c] 60) := ⟨_, rfl⟩
  have k6 : Kp (fun _ => False) w5 w6 := by rw [hw6]; exact (Kp.refl _ _).alloc _
  have d6 : w6.heap[w5.heap.size]? = some (.cells #[.slice none 0 0, .slice A n c] 60 (0, 0)) := by rw [hw6]; exact heap_alloc_new _ _
  have z6 : w6.heap.size = w5.heap.size + 1 := by rw [hw6]; simp
  rw [← hw6]
  clear hw6
  have k46 : Kp (fun _ => False) w4 w6.drew := (k5.trans k6 (fun _ hi => hi.elim)).drew
  have k06 : Kp (fun i => i = gx) w w6.drew := kw4.trans k46 (fun _ hi => hi.elim)
  have d6' : w6.drew.heap[w5.heap.size]? = some (.cells #[.slice none 0 0, .slice A n c] 60 (0, 0)) := d6
  have y0 : w6.drew.cell? ⟨gx, 0, none⟩ = some (.pointer (some ⟨g, 0, none⟩)) := (cell_of_row _ _ _ _ _ _ (k46.at_ m4 id)).trans mac_m
  have y1 : w6.drew.cell? ⟨w5.heap.size, 0, none⟩ = some (.slice none 0 0) := cell_of_row _ _ _ _ _ _ d6'
  have y2 : w6.drew.cell? ⟨w5.heap.size, 1, none⟩ = some (.slice A n c) := cell_of_row _ _ _ _ _ _ d6'
  have hAl := memAlloc g words 0 1 (words + 1) (.slice none 0 0) (.slice none 0 0) (.slice none 0 0) (.slice none 0 0) mb [] [] 5 n 0 w6.drew ⟨by omega, by omega⟩ ⟨fun i j h1 h2 => by simp at h2, by simp, by simp, by omega, by omega⟩ (by simp; omega) (by omega) (by simp) (k46.at_ g4 id) (Rw.nil _ _ _) (Rw.nil _ _ _)
  simp only [List.length_nil, List.nil_append] at hAl
  rw [show ((0 : Nat) : Int) = 0 from rfl, show (1 : Int) + 0 = 1 from rfl] at hAl
  have hg4 := at_lt g4
  have hgx4 := at_lt m4
  have HZ := Lib.hid (And.intro Z5.out z6)
  clear z6 Z5
  have hwr : IntKind.i64.wrap (n : Int) = n := by rw [IntKind.wrap_i64]; omega
  have hne5 : w5.heap.size ≠ g := by have := HZ.out.1; omega
  have hgw : ¬ (gx = g ∨ gx = w4.heap.size) := by intro e; rcases e with e | e; exact hne e.symm; omega
  have h5w : ¬ (w5.heap.size = g ∨ w5.heap.size = w4.heap.size) := by have := HZ.out.1; intro e; rcases e with e | e; exact hne5 e; omega
  have keep7 : ∀ W, Kp (fun i => i = g ∨ i = w4.heap.size) w6.drew W → W.cell? ⟨gx, 0, none⟩ = some (.pointer (some ⟨g, 0, none⟩)) ∧ W.cell? ⟨w5.heap.size, 0, none⟩ = some (.slice none 0 0) ∧ W.cell? ⟨w5.heap.size, 1, none⟩ = some (.slice A n c) := fun W hW =>
    have e1 := hW.at_ (k46.at_ m4 id) hgw
    have e2 := hW.at_ d6' h5w
    ⟨(cell_of_row _ _ _ _ _ _ e1).trans mac_m, cell_of_row _ _ _ _ _ _ e2, cell_of_row _ _ _ _ _ _ e2⟩
  have hS : w6.drew.cell? ⟨gx, 0, none⟩ = some (.pointer (some ⟨g, 0, none⟩)) ∧ w6.drew.cell? ⟨w5.heap.size, 0, none⟩ = some (.slice none 0 0) ∧ w6.drew.cell? ⟨w5.heap.size, 1, none⟩ = some (.slice A n c) := ⟨y0, y1, y2⟩
  go_region_held3 (fun W : World => W.cell? ⟨gx, 0, none⟩ = some (.pointer (some ⟨g, 0, none⟩)) ∧ W.cell? ⟨w5.heap.size, 0, none⟩ = some (.slice none 0 0) ∧ W.cell? ⟨w5.heap.size, 1, none⟩ = some (.slice A n c)) (first | exact hS | exact keep7 _ k9 | exact hS9) (first | (go_at_call 37; (try rw [hwr]); refine hAl.mono ?_; rintro e w7 ⟨rfl, wv, hv, m7, r7, h7, k7, o7, o7'⟩; have k9 : Kp (fun i => i = g ∨ i = w4.heap.size) w6.drew w7 := k7.mono (fun i hi => .inl (by rcases hi with h | h | h; exact .inl h; cases h; cases h)); have a7 := k7.at_ ((k6.at_ a5 id : w6.drew.heap[w4.heap.size]? = _)) (by simp [Value.ownBlock]; omega); have s7 : w7.cell? ⟨w4.heap.size, 0, none⟩ = some (.int .i64 0) := cell_of_row _ _ 0 _ _ _ a7; have t7 : w7.frozen? ⟨w4.heap.size, 0, none⟩ = false := frozen_of_row _ _ _ _ _ a7; have hS9 := keep7 _ (k9.setCell (p := ⟨w4.heap.size, 0, none⟩) (.inl (.inr rfl)) (.int .i64 1))))
  go_wp2
  rw [rounds_succ]
  go_wp2
  have a8 := heap_setCell_same _ _ 0 _ _ (.int .i64 1) a7
  have k8 : Kp (fun i => i = w4.heap.size) w7 (w7.setCell ⟨w4.heap.size, 0, none⟩ (.int .i64 1)) := (Kp.refl (fun i => i = w4.heap.size) w7).setCell (p := ⟨w4.heap.size, 0, none⟩) (.inl rfl) _
  have k68 : Kp (fun i => i = g ∨ i = w4.heap.size) w6.drew (w7.setCell ⟨w4.heap.size, 0, none⟩ (.int .i64 1)) := k9.setCell (p := ⟨w4.heap.size, 0, none⟩) (.inl (.inr rfl)) _
  have z64 : w4.heap.size < w6.drew.heap.size := by have := HZ.out; show _ < w6.heap.size; omega
  have r8 : Rw (w7.setCell ⟨w4.heap.size, 0, none⟩ (.int .i64 1)) 51 .u64 wv (objW 5 n 0) := r7.kp k8 (fun b hb e => by subst e; rcases o7 _ hb with h | h; cases h; omega)
  have h8 : Rw (w7.setCell ⟨w4.heap.size, 0, none⟩ (.int .i64 1)) 3 .i64 hv [1] := h7.kp k8 (fun b hb e => by subst e; rcases o7' _ hb with h | h; cases h; omega)
  have m8 := k8.at_ m7 (by omega)
  have gc8 := k68.at_ (k46.at_ gc4 id) (by have := at_lt gc4; intro e; rcases e with e | e; subst e; rw [g4] at gc4; injection gc4 with q; injection q with _ q; cases q; omega)
  have gx8 := k68.at_ (k46.at_ m4 id) hgw
  have ow : ∀ b, wv.ownBlock = some b → w6.drew.heap.size ≤ b := fun b hb => by rcases o7 b hb with h | h; cases h; exact h
  have owh : ∀ b, hv.ownBlock = some b → w6.drew.heap.size ≤ b := fun b hb => by rcases o7' b hb with h | h; cases h; exact h
  clear k8 a7 s7 t7 hS hS9 keep7 r7 h7 k7 m7 k9 o7 o7'
  have b8 : Kp (fun i => i = gx ∨ i = g) w (w7.setCell ⟨w4.heap.size, 0, none⟩ (.int .i64 1)) := (k06.mono (fun i hi => .inl (.inl hi))).trans k68 (fun i hi => by rcases hi with h | h; exact .inl (.inr h); exact .inr (by have := kw4.size; omega))
  clear k68
  generalize w7.setCell ⟨w4.heap.size, 0, none⟩ (.int .i64 1) = w8 at *
  have x0 : w8.cell? ⟨gc, 0, none⟩ = some (.slice none 0 0) := cell_of_row _ _ _ _ _ _ gc8
  have x1 : w8.cell? ⟨gc, 1, none⟩ = some (.slice A n c) := cell_of_row _ _ _ _ _ _ gc8
  refine wp_loop_rounds 2 ?_
  rw [rounds_succ]
  go_wp2
  obtain ⟨w9, hw9⟩ : ∃ w9, w9 = w8.alloc (.cells #[.slice none 0 0, .slice A n c] 60) := ⟨_, rfl⟩
  have k9 : Kp (fun _ => False) w8 w9 := by rw [hw9]; exact (Kp.refl _ _).alloc _
  have d9 : w9.heap[w8.heap.size]? = some (.cells #[.slice none 0 0, .slice A n c] 60 (0, 0)) := by rw [hw9]; exact heap_alloc_new _ _
  rw [← hw9]
  clear hw9 x0 x1
  have x1 : w9.cell? ⟨w8.heap.size, 1, none⟩ = some (.slice A n c) := cell_of_row _ _ _ _ _ _ d9
  refine wp_loop_rounds 1 ?_
  rw [rounds_succ]
  go_wp2
  have hl9 : ldW xs 0 = objW 5 n 0 := by rw [ldW_zero, ← HN.out]
  have r9 : Rw w9 51 .u64 wv (ldW xs 0) := by rw [hl9]; exact r8.kp k9 (fun _ _ h => h)
  go_loopw [127] (fun i wr => ∃ k : Nat, k ≤ n ∧ i = .int .i64 k ∧ Rw wr 51 .u64 wv (ldW xs k) ∧ Kp (fun i => wv.ownBlock = some i) w9 wr) (fun i _ => n - (intOf i).toNat)
  case atStart => exact ⟨0, Nat.zero_le _, rfl, r9, Kp.refl _ _⟩
  case round =>
    obtain ⟨k, hk, rfl, hr, hkp⟩ := hrel
    by_cases hlt : k < n
    · obtain ⟨i, hi⟩ : ∃ i, xs[k]? = some i := ⟨xs[k]'(by have := HN.out; omega), List.getElem?_eq_getElem _⟩
      have hv8 : InsAt w8 (.slice A n c) xs := by
        refine InsAt.kp (by have := HV.out; exact this) b8 ?_
        intro g' cur hg' hb
        rcases hb with e | e
        · subst e; have h1 := h.mac; rw [hg'] at h1; injection h1 with h1; injection h1 with _ h1; cases h1
        · subst e; have h1 := h.mem; rw [hg'] at h1; injection h1 with h1; injection h1 with _ h1; cases h1
      have hvr : InsAt wr (.slice A n c) xs := by
        refine (hv8.kp k9 (fun _ _ _ h => h)).kp hkp ?_
        intro g' cur hg' hb
        obtain ⟨_, cur', hc'⟩ := r9.lt _ hb
        rw [hg'] at hc'
        injection hc' with hc'
        injection hc' with _ ht
        cases ht
      obtain ⟨A2, c2, hs, hcs⟩ := hvr
      obtain ⟨rfl, -, rfl⟩ : A = A2 ∧ True ∧ c = c2 := by injection hs with h1 h2 h3; exact ⟨h1, trivial, h3⟩
      obtain ⟨gi, rfl, ⟨cur, hg0⟩, y0, y1, y2, y3, y4⟩ := hcs k i hi
      clear hs hcs hv8
      have hz := Lib.hid (hok2.out i (List.mem_of_getElem? hi))
      have hset := Lib.hid (ldW_set xs k i hi)
      go_wp2_with fail
      refine (isaEncode i.op i.a i.b i.c i.n _ hz.out).mono ?_
      rintro e w10 ⟨rfl, b10⟩
      have k10 : Kp (fun _ => False) wr w10 := Kp.of_below (((Below.refl _ wr).alloc (Nat.le_refl _) _).trans (b10.mono (by simp)))
      have kk : Kp (fun i => wv.ownBlock = some i) w9 w10 := hkp.trans k10 (fun _ h => h.elim)
      have gx10 := kk.at_ (k9.at_ gx8 id) (fun hb => by have := ow _ hb; omega)
      have a10 := kk.at_ (k9.at_ a8 id) (fun hb => by have := ow _ hb; omega)
      have m10 := kk.at_ (k9.at_ m8 id) (fun hb => by have := ow _ hb; omega)
      have d10 := kk.at_ d9 (fun hb => by have := (r8.lt _ hb).1; omega)
      have r10 := hr.kp k10 (fun _ _ h => h)
      have h10 := (h8.kp k9 (fun _ _ h => h)).kp kk (fun b hb hb' => r8.apart h8 (by decide) b hb' hb)
      have s0 : w10.cell? ⟨w4.heap.size, 0, none⟩ = some (.int .i64 1) := cell_of_row _ _ 0 _ _ _ a10
      have s1 : w10.cell? ⟨gx, 0, none⟩ = some (.pointer (some ⟨g, 0, none⟩)) := (cell_of_row _ _ _ _ _ _ gx10).trans mac_m
      have s2 : w10.cell? ⟨w8.heap.size, 0, none⟩ = some (.slice none 0 0) := cell_of_row _ _ _ _ _ _ d10
      have hk16 : n ≤ 16384 := by omega
      have hst := memStore g words 0 1 (words + 1) wv hv (.slice none 0 0) (.slice none 0 0) mb (ldW xs k) [1] 0 5 n 0 w10.drew 1 k i.enc (by omega) ⟨by omega, by omega⟩ ⟨fun i j h1 h2 => by simp at h2; omega, by simp, by rw [ldW_len _ _ (by rw [← HN.out]; exact hk), ← HN.out]; omega, by omega, by omega⟩ ⟨⟨0, by simp, by simp⟩, ⟨⟨by omega, by omega, by omega, by omega⟩, by omega⟩, by rw [ldW_len _ _ (by rw [← HN.out]; exact hk), ← HN.out]; omega, by rw [ldW, ← HN.out]; rfl⟩ m10 r10 h10
      rw [Int.toNat_natCast, show 0 + 1 + k = k + 1 by omega, hset.out] at hst
      clear hz hset y0 y1 y2 y3 y4 hg0
      have hk0 : IntKind.i64.wrap (k : Int) = k := by rw [IntKind.wrap_i64]; omega
      have hS : w10.drew.cell? ⟨gx, 0, none⟩ = some (.pointer (some ⟨g, 0, none⟩)) ∧ w10.drew.cell? ⟨w4.heap.size, 0, none⟩ = some (.int .i64 1) ∧ w10.drew.cell? ⟨w8.heap.size, 0, none⟩ = some (.slice none 0 0) := ⟨s1, s0, s2⟩
      have hS11 : ∀ W, Kp (fun i => wv.ownBlock = some i) w10.drew W → W.cell? ⟨gx, 0, none⟩ = some (.pointer (some ⟨g, 0, none⟩)) ∧ W.cell? ⟨w4.heap.size, 0, none⟩ = some (.int .i64 1) ∧ W.cell? ⟨w8.heap.size, 0, none⟩ = some (.slice none 0 0) := fun W hW =>
        have e1 := hW.at_ (show w10.drew.heap[gx]? = _ from gx10) (fun hb => by have := ow _ hb; omega)
        have e2 := hW.at_ (show w10.drew.heap[w4.heap.size]? = _ from a10) (fun hb => by have := ow _ hb; omega)
        have e3 := hW.at_ (show w10.drew.heap[w8.heap.size]? = _ from d10) (fun hb => by have := (r8.lt _ hb).1; omega)
        ⟨(cell_of_row _ _ _ _ _ _ e1).trans mac_m, cell_of_row _ _ 0 _ _ _ e2, cell_of_row _ _ _ _ _ _ e3⟩
      go_wp2
      go_region_held3 (fun W : World => W.cell? ⟨gx, 0, none⟩ = some (.pointer (some ⟨g, 0, none⟩)) ∧ W.cell? ⟨w4.heap.size, 0, none⟩ = some (.int .i64 1) ∧ W.cell? ⟨w8.heap.size, 0, none⟩ = some (.slice none 0 0)) (first | exact hS | exact hS11 _ k11) (first | (go_at_call 36; refine hst.mono ?_; rintro e w11 ⟨rfl, m11, r11, h11, k11⟩))
      have kf : Kp (fun i => wv.ownBlock = some i) w9 w11 := kk.drew.trans k11 (fun i hi => .inl hi)
      clear hS hS11 hst m11 h11 k11 s0 s1 s2
      go_wp2
      go_roundw
      case rel => exact ⟨k + 1, by omega, by go_num, r11, kf⟩
      case measure => simp [intOf]; omega
    · have hkn : k = n := by omega
      subst hkn
      have gx9 := hkp.at_ (k9.at_ gx8 id) (fun hb => by have := ow _ hb; omega)
      have a9 := hkp.at_ (k9.at_ a8 id) (fun hb => by have := ow _ hb; omega)
      have e0 : wr.cell? ⟨w4.heap.size, 0, none⟩ = some (.int .i64 1) := cell_of_row _ _ 0 _ _ _ a9
      have e21 : wr.cell? ⟨gx, 21, none⟩ = some (.int .u64 1) := (cell_of_row _ _ _ _ _ _ gx9).trans (mac_tail (by rfl) 3)
      have f21 : wr.frozen? ⟨gx, 21, none⟩ = false := frozen_of_row _ _ _ _ _ gx9
      go_wp2
      rw [rounds_succ]
      go_wp2_with (go_at_call 51; refine (numPtr _ _).mono ?_; rintro e w' ⟨rfl, rfl⟩)
      go_ret
      have k12 : Kp (fun i => i = gx) wr (wr.setCell ⟨gx, 21, none⟩ (.int .u64 2)) := (Kp.refl (fun i => i = gx) wr).setCell (p := ⟨gx, 21, none⟩) (.inl rfl) _
      have gx12 := heap_setCell_same _ _ 21 _ _ (.int .u64 2) gx9
      rw [mac_setE (by rfl)] at gx12
      have hgg : w4.heap.size < w8.heap.size := at_lt a8
      have m12 := k12.at_ (hkp.at_ (k9.at_ m8 id) (fun hb => by have := ow _ hb; omega)) hne
      have r12 := hr.kp k12 (fun b hb e => by have := ow _ hb; omega)
      have h12 := ((h8.kp k9 (fun _ _ h => h)).kp hkp (fun b hb hb' => r8.apart h8 (by decide) b hb' hb)).kp k12 (fun b hb e => h8.off gx8 (by decide) (e ▸ hb))
      refine ⟨rfl, ⟨wv, hv, ⟨gx12, m12, ?_, h12⟩, fun b hb => by have := ow _ hb; have := kw4.size; omega, fun b hb => by have := owh _ hb; have := kw4.size; omega⟩, ?_⟩
      · rw [← HN.out]; exact r12
      · refine ((b8.trans (k9.mono (fun _ h => h.elim)) (fun _ h => .inl h)).trans hkp (fun i hi => .inr ?_)).trans k12 (fun i hi => .inl (.inl hi))
        have := ow _ hi; have := kw4.size; omega
end Go.Proofs.YtjfcbimbnpfdeaaGreat

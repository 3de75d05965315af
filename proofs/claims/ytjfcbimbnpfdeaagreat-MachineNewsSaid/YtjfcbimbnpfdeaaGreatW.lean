/- The reference's roots, Order, Live of a new machine. -/
import Derived.Test.YtjfcbimbnpfdeaaGreatV
import Derived.Deep.RegionLaw
namespace Go.Proofs.YtjfcbimbnpfdeaaGreat
open Go.RowKit

theorem rown_ge {w : World} {base : Nat} {v : Value} {n : Nat} {xs : List Value} (h : w.ownsRow base 71 3 v n xs) {k : Nat} (hk : v.ownBlock = some k) : base ≤ k := by
  rcases h.2 with ⟨rfl, _⟩ | ⟨g, cap, cur, rfl, h2, _⟩
  · cases hk
  · cases hk; exact h2
theorem rown_below {w W : World} {base : Nat} {v : Value} {n : Nat} {xs : List Value} (h : w.ownsRow base 71 3 v n xs) (hb : Below w.heap.size w W) : W.ownsRow base 71 3 v n xs := by
  refine ⟨h.1, ?_⟩
  rcases h.2 with h | ⟨g, cap, cur, h1, h2, h3, h4⟩
  · exact .inl h
  · exact .inr ⟨g, cap, cur, h1, h2, (hb.block g (at_lt h3)).trans h3, h4⟩

/-- An append of zero words to zero words. -/
theorem append_zero (w : World) (base : Nat) (v : Value) (n m c : Nat) (ad : Addr) (hown : w.ownsRow base 71 3 v n (zwl n)) (hc : ∀ j, j < m * 3 → w.cell? (ad.add j) = some (zc j)) (hn : n + m ≤ 1000000) (hb : base ≤ w.heap.size) :
    ∃ v' w', (Builtin.append_ #[76, 76] 76 #[v, .slice (some ad) m c]).run Tryz.prog w = .ok v' w' ∧ w'.ownsRow base 71 3 v' (n + m) (zwl (n + m)) ∧ w.grownBy w' v.ownBlock := by
  obtain ⟨i, hi, hz, hs, hby⟩ := info_parts info71
  obtain ⟨v', w', h1, h2, h3, _, _⟩ := run_append_own_at (P := Tryz.prog) w base 76 76 71 i _ 3 24 Tryz.underlying76 hi hz hs hby rfl (by decide) v n (zwl n) hown ad m c (zwl m) (zwl_len m) (fun j u hu => by obtain ⟨hj, rfl⟩ := zwl_some hu; exact hc j hj) (zwl_one m) (by unfold maxLen; omega) (by omega) hb
  rw [zwl_app] at h2
  exact ⟨v', w', h1, h2, h3⟩

/-- An append whose run is known. -/
theorem wpList_append_run {P : Program} {ops : Array Oper} {rest : List Oper} {o : Oper} {a : Act} {w w' : World} {Q : Exit → Act → World → Prop} (s x : Operand) (t : TypeId) {v u v' : Value} (hgd : o.guard = none)
    (ho : o.op = .call { callee := .builtin .append, args := #[s, x], argTypes := #[t, t] }) (hs : a.eval s = v) (hx : a.eval x = u) (hr : (Builtin.append_ #[t, t] o.type #[v, u]).run P w = .ok v' w')
    (h : wpList P ops Q rest (a.put o.dst v') w') : wpList P ops Q (o :: rest) a w := by
  refine wpList_plain hgd fun K hK => ?_
  unfold Oper.wp execOp
  simp only [ho, resolve, invoke, builtin, Sem.run_bind, Sem.run_pure, Result.andThen_ok, List.map_toArray, List.map_cons, List.map_nil, hs, hx, hr]
  exact hK _ _ h

/-- .. in a region that draws its order. -/
theorem step_append_run {P : Program} {ops : Array Oper} {o : Oper} {a : Act} {w w' : World} {K : Act → World → Prop} {Q : Exit → Act → World → Prop} {E : Prop} (s x : Operand) (t : TypeId) {v u v' : Value} (hg : o.guard = none)
    (hop : o.op = .call { callee := .builtin .append, args := #[s, x], argTypes := #[t, t] }) (hs : a.eval s = v) (hx : a.eval x = u) (hr : (Builtin.append_ #[t, t] o.type #[v, u]).run P w = .ok v' w')
    (hK : K (a.put o.dst v') w') : if Region.wanted o (yielded ops a.tmps) = true then Oper.wp P o a w K Q else E := by
  have hw : Region.wanted o (yielded ops a.tmps) = true := by simp [Region.wanted, hg]
  rw [if_pos hw]
  unfold Oper.wp
  simp only [execOp, hop, resolve, invoke, builtin, Sem.run_bind, Sem.run_pure, Result.andThen_ok, List.map_toArray, List.map_cons, List.map_nil, hs, hx, hr]
  exact hK

set_option maxRecDepth 100000 in
set_option maxHeartbeats 2000000 in
theorem refRoots (gy gg : Nat) (words stack : Int) (w : World) (h : RFresh w gy gg words stack) :
    Calls Tryz.prog 89 #[.pointer (some ⟨gy, 0, none⟩)] w fun e w' => ∃ v, e = .returned v ∧ w'.ownsRow w.heap.size 71 3 v 1042 (zwl 1042) ∧ Below w.heap.size w w' := by
  have c : ∀ W, Below w.heap.size w W → ∀ j, W.cell? ⟨gy, j, none⟩ = (rfCells words stack gg)[j]? := fun W hW j => (hW.cell (p := ⟨gy, j, none⟩) (at_lt h.mac)).trans (cell_of_row _ _ _ _ _ _ h.mac)
  obtain ⟨v1, w1, a1, o1, g1⟩ := append_zero w w.heap.size (.slice none 0 0) 0 16 16 ⟨gy, 4, none⟩ (World.ownsRow_nil _ _ _ _) (fun j hj => by
    rw [show ((⟨gy, 4, none⟩ : Addr).add j) = ⟨gy, 4 + j, none⟩ by unfold Addr.add; split <;> simp_all, c w (Below.refl _ _), rf_zero _ _ _ _ (.inl (by omega))]
    unfold zc
    rw [show (4 + j - 1) % 3 = j % 3 by omega]) (by omega) (Nat.le_refl _)
  have b1 : Below w.heap.size w w1 := (Below.refl _ _).grown g1 (Nat.le_refl _) (fun k hk => by cases hk)
  obtain ⟨v2, w2, a2, o2, g2⟩ := append_zero w1 w.heap.size v1 (0 + 16) 1024 1024 ⟨gg, 0, none⟩ o1 (fun j hj => by
    rw [Addr.add_plain, b1.cell (p := ⟨gg, j, none⟩) (at_lt h.glob), cell_of_row _ _ _ _ _ _ h.glob, List.getElem?_toArray]
    exact zwl_get _ _ hj) (by omega) b1.size
  have b2 : Below w.heap.size w w2 := b1.grown g2 b1.size (fun k hk => rown_ge o1 hk)
  have c5 : w1.cell? ⟨gy, 52, none⟩ = some (.slice none 0 0) := c w1 b1 52
  have c7 : w1.cell? ⟨gy, 54, none⟩ = some (.slice (some ⟨gg, 0, none⟩) 1024 1024) := c w1 b1 54
  have b2d : Below w.heap.size w w2.drew := b2.drew
  obtain ⟨v3, w3, a3, o3, g3⟩ := append_zero (w2.drew.alloc (.cells #[.bool false, .int .i64 0, .int .i64 0, .bool false, .int .i64 0, .int .i64 0] 71)) w.heap.size v2 (0 + 16 + 1024) 2 2 ⟨w2.heap.size, 0, none⟩ (rown_below o2 (((Below.refl _ w2).drew).alloc (Nat.le_refl _) _)) (fun j hj => by
    have hcc := cell_of_row _ _ j _ _ _ (heap_alloc_new w2.drew (.cells #[.bool false, .int .i64 0, .int .i64 0, .bool false, .int .i64 0, .int .i64 0] 71))
    rw [Addr.add_plain]
    refine Eq.trans hcc ?_
    have : j = 0 ∨ j = 1 ∨ j = 2 ∨ j = 3 ∨ j = 4 ∨ j = 5 := by omega
    rcases this with rfl | rfl | rfl | rfl | rfl | rfl <;> rfl) (by omega) (by have := b2.size; simp; omega)
  have b3 : Below w.heap.size w w3 := (b2d.alloc b2d.size _).grown g3 (by have := b2.size; simp; omega) (fun k hk => rown_ge o2 hk)
  have e5 : w2.drew.cell? ⟨gy, 55, none⟩ = some (.bool false) := c _ b2d 55
  have e6 : w2.drew.cell? ⟨gy, 56, none⟩ = some (.int .i64 0) := c _ b2d 56
  have e7 : w2.drew.cell? ⟨gy, 57, none⟩ = some (.int .i64 0) := c _ b2d 57
  have e8 : w2.drew.cell? ⟨gy, 58, none⟩ = some (.bool false) := c _ b2d 58
  have e9 : w2.drew.cell? ⟨gy, 59, none⟩ = some (.int .i64 0) := c _ b2d 59
  have e10 : w2.drew.cell? ⟨gy, 60, none⟩ = some (.int .i64 0) := c _ b2d 60
  have E := Lib.hid (And.intro e5 (And.intro e6 (And.intro e7 (And.intro e8 (And.intro e9 e10)))))
  clear c
  go_enter Tryz.func89, Tryz.ntmps89
  go_wp2_with (first
    | (at_builtin; refine wpList_append_run (.tmp 5) (.tmp 9) 76 rfl rfl rfl rfl a1 ?_)
    | (at_builtin; refine wpList_append_run (.tmp 41) (.tmp 45) 76 rfl rfl rfl rfl a2 ?_)
    | fail)
  refine wp_loop_rounds 1 ?_
  rw [rounds_succ]
  go_wp2_with (first
    | (at_builtin; refine wpList_append_run (.tmp 41) (.tmp 45) 76 rfl rfl rfl rfl a2 ?_)
    | fail)
  clear e5 e6 e7 e8 e9 e10 a1 a2
  obtain ⟨e5, e6, e7, e8, e9, e10⟩ := E.out
  go_region_law (refine step_append_run (.tmp 47) (.tmp 56) 76 rfl rfl rfl rfl a3 ?_)
  all_goals go_wp2
  all_goals go_ret
  all_goals exact ⟨_, rfl, o3, b3⟩

set_option maxRecDepth 100000 in
set_option maxHeartbeats 2000000 in
theorem refOrder (gy gg n : Nat) (words stack : Int) (v : Value) (base : Nat) (w : World) (h : RFresh w gy gg words stack) (hv : w.ownsRow base 71 3 v n (zwl n)) (hn : n ≤ 1000000) :
    Calls Tryz.prog 88 #[.pointer (some ⟨gy, 0, none⟩), v] w fun e w' => e = .returned (.slice none 0 0) ∧ Below w.heap.size w w' := by
  have c2 : w.cell? ⟨gy, 2, none⟩ = some (.slice none 0 0) := cell_of_row _ _ 2 _ _ _ h.mac
  clear h
  have hmk : ∀ W : World, (Instr.makeSlice 191 (.int .i64 0) (.int .i64 0)).run Tryz.prog W = .ok (.slice (some ⟨W.heap.size, 0, none⟩) 0 0) (W.alloc (.cells (madeCells #[.bool false] 0) 4)) := fun W => run_make_row' (P := Tryz.prog) 191 4 (.bool false) 1 Tryz.underlying191 (by kernel_rfl) rfl .i64 .i64 0 (by omega) (by omega) W
  obtain ⟨A, c, rfl, hc⟩ : ∃ A c, v = .slice A n c ∧ ∀ k, k < n → ∃ g, A = some ⟨g, 0, none⟩ ∧ w.cell? ⟨g, k * 3, none⟩ = some (.bool false) ∧ g < w.heap.size := by
    rcases hv.2 with ⟨rfl, rfl⟩ | ⟨g, cap, cur, rfl, h2, h3, h4, h5, h6, h7⟩
    · exact ⟨none, 0, rfl, fun k hk => by omega⟩
    · refine ⟨_, _, rfl, fun k hk => ⟨g, rfl, ?_, at_lt h3⟩⟩
      rw [cell_of_row _ _ _ _ _ _ h3]
      have h8 := zwl_get n (k * 3) (by omega)
      rw [← h7, List.getElem?_take_of_lt (by omega)] at h8
      rw [show zc (k * 3) = .bool false by unfold zc; rw [if_pos (by omega)]] at h8
      simpa using h8
  clear hv
  have Hc := Lib.hid hc
  clear hc
  obtain ⟨W, hW⟩ : ∃ W, W = w.alloc (.cells (madeCells #[.bool false] 0) 4) := ⟨_, rfl⟩
  have hB : Below w.heap.size w W := by rw [hW]; exact (Below.refl _ _).alloc (Nat.le_refl _) _
  go_enter Tryz.func88, Tryz.ntmps88
  go_wp2
  rw [← hW]
  clear hW hmk
  refine wp_loop_rounds 1 ?_
  rw [rounds_succ]
  go_wp2
  go_loop [9, 6] (fun i out => ∃ k : Nat, k ≤ n ∧ i = .int .i64 k ∧ out = .slice none 0 0) (fun i _ => n - (intOf i).toNat)
  case atStart => exact ⟨0, Nat.zero_le _, rfl, rfl⟩
  case round =>
    obtain ⟨k, hk, rfl, rfl⟩ := hrel
    by_cases hlt : k < n
    · obtain ⟨g, rfl, hcell, hgl⟩ := Hc.out k hlt
      have hcw := (hB.cell (p := ⟨g, k * 3, none⟩) hgl).trans hcell
      go_wp2
      go_round
      case rel => exact ⟨k + 1, by omega, by go_num, rfl⟩
      case measure => simp [intOf]; omega
    · have hk16 : k = n := by omega
      subst hk16
      go_wp2
      go_ret
      exact ⟨rfl, hB⟩

theorem RFresh.below {w W : World} {gy gg : Nat} {words stack : Int} (h : RFresh w gy gg words stack) (hb : Below w.heap.size w W) : RFresh W gy gg words stack := h.kp (Kp.of_below hb)
set_option maxHeartbeats 1000000 in
theorem refLive (gy gg : Nat) (words stack : Int) (w : World) (h : RFresh w gy gg words stack) :
    Calls Tryz.prog 57 #[.pointer (some ⟨gy, 0, none⟩)] w fun e w' => e = .returned (.int .i64 0) ∧ Below w.heap.size w w' := by
  go_enter Tryz.func57, Tryz.ntmps57
  go_wp2_with (first
    | (go_at_call 89; refine (refRoots gy gg words stack w h).mono ?_; rintro e w1 ⟨v1, rfl, o1, b1⟩)
    | (go_at_call 88; refine (refOrder gy gg 1042 words stack v1 _ w1 (h.below b1) o1 (by omega)).mono ?_; rintro e w2 ⟨rfl, b2⟩)
    | fail)
  refine wp_loop_rounds 1 ?_
  rw [rounds_succ]
  go_wp2
  go_ret
  exact ⟨rfl, b1.trans (b2.mono b1.size)⟩
end Go.Proofs.YtjfcbimbnpfdeaaGreat

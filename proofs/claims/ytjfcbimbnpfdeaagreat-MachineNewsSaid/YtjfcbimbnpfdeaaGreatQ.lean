/- gc.Live where all roots are integers. -/
import Derived.Test.YtjfcbimbnpfdeaaGreatP
namespace Go.Proofs.YtjfcbimbnpfdeaaGreat
open Go.RowKit Go.Shelf
attribute [local go_sem] Oper.semAt_some

theorem stepR_scope {P : Program} {b : Frame} {a : Act} {k : List Item} {cs : List Frame} {w : World} {c : Code} : step P (lone (b.atR a (.code (.scope c) :: k)) cs w) = .next (lone (b.atR a (.code c :: .inScope c :: k)) cs w) :=
  step_lone_go (by simp [stepG, stepG.exec, Frame.atR])
theorem stepR_inScope {P : Program} {b : Frame} {a : Act} {k : List Item} {cs : List Frame} {w : World} {c : Code} : step P (lone (b.atR a (.inScope c :: k)) cs w) = .next (lone (b.atR a k) cs w) :=
  step_lone_go (by simp [stepG, stepG.exec, Frame.atR])
theorem wpIn_scope_straight {F : Fence} {n : Nat} {P : Program} {Q : Exit → Act → World → Prop} {a : Act} {w : World} {c : Code} (h : c.wpIn F n P (Exit.noGoto Q) a w) (hF : F.round = none) : (Code.scope c).wpIn F n P Q a w := by
  intro b k cs hro hb hr
  have h0 : (lone (b.atR a (.code (.scope c) :: k)) cs w).fenced P F := fenced_calm hb hr rfl
  obtain ⟨e, a₁, w₁, hq, harr⟩ := h b (.inScope c :: k) cs hro hb hr
  cases e with
  | normal => exact ⟨.normal, a₁, w₁, hq, .head h0 stepR_scope (StepsIn.trans harr (.one (fenced_calm hb hr rfl) stepR_inScope))⟩
  | exit id => exact ⟨.exit id, a₁, w₁, hq, fun k' hk => .head h0 stepR_scope (harr.1 k' (by simp [exitTo, hk])), fun h' => by rw [hro, hF] at h'; cases h'⟩
  | goto l => exact hq.elim
  | ret => exact ⟨_, a₁, w₁, hq, .of_steps (.one h0 stepR_scope) harr⟩
  | panic ch => exact ⟨_, a₁, w₁, hq, .of_steps (.one h0 stepR_scope) harr⟩
  | outgrown => exact ⟨_, a₁, w₁, hq, .of_steps (.one h0 stepR_scope) harr⟩

set_option maxHeartbeats 400000 in
theorem numIsIntIn (F : Fence) (n : Nat) (h101 : F.fn 101) (hro : F.round = none) (x : Int) (w : World) (h : isW x) :
    CallsIn F n Tryz.prog 101 #[.int .u64 x] w fun e w' => e = .returned (.bool (wIsInt x)) ∧ w = w' := by
  have hx := Lib.hid (and_one h)
  refine callsIn_of_wp Tryz.func101 rfl h101 ?_ hro
  simp only [Tryz.ntmps101, List.size_toArray, List.length_cons, List.length_nil, Nat.reduceAdd, Nat.reduceSub, Array.replicate_succ, Array.replicate_zero, List.push_toArray, List.append_toArray, List.nil_append, List.cons_append]
  gi_wp2
  go_ret
  exact ⟨ret_bool (by rw [hx.out]; rfl), rfl⟩

set_option maxHeartbeats 400000 in
theorem walkGoodIn (F : Fence) (n : Nat) (h149 : F.fn 149) (h101 : F.fn 101) (hro : F.round = none) (hn : 1 ≤ n) (x : Int) (b0 b1 b2 : Value) (w : World) (h : isW x) (ho : x % 2 = 1) :
    CallsIn F n Tryz.prog 149 #[.int .u64 x, b0, b1, b2] w fun e w' => e = .returned (.bool true) ∧ w = w' := by
  have hi : wIsInt x = true := by simp [wIsInt, ho]
  have Hi := Lib.hid hi
  clear hi ho
  refine callsIn_of_wp Tryz.func149 rfl h149 ?_ hro
  simp only [Tryz.ntmps149, List.size_toArray, List.length_cons, List.length_nil, Nat.reduceAdd, Nat.reduceSub, Array.replicate_succ, Array.replicate_zero, List.push_toArray, List.append_toArray, List.nil_append, List.cons_append]
  gi_wp2_with (gi_at_call 101; refine (numIsIntIn F (n - 1) h101 hro _ _ h).mono ?_; rintro e w' ⟨rfl, rfl⟩; rw [Hi.out])
  go_ret
  exact ⟨rfl, rfl⟩

set_option maxRecDepth 100000 in
set_option maxHeartbeats 1000000 in
theorem gcWalkIn (F : Fence) (n : Nat) (h127 : F.fn 127) (h149 : F.fn 149) (h101 : F.fn 101) (hro : F.round = none) (hn : 2 ≤ n) (g : Nat) (v : Value) (xs : List Int) (w : World) (hv : Rw w 51 .u64 v xs) (hl : xs.length ≤ 1000000) (hx : ∀ j, j < xs.length → isW (xs.getD j 0) ∧ xs.getD j 0 % 2 = 1) :
    CallsIn F n Tryz.prog 127 #[.pointer (some ⟨g, 0, none⟩), v] w fun e w' => e = .returned (.tuple #[.slice none 0 0, .bool true]) ∧ Below w.heap.size w w' := by
  have hmm := @run_makeMap Tryz.prog
  have hmf : ∀ (fn : Fn) (first cap : Array Value) (w : World), (Instr.makeFunc fn first cap).run Tryz.prog w = .ok (.func fn first cap) w := fun _ _ _ _ => rfl
  obtain ⟨A, c, rfl, hc1, hc2⟩ := hv.len
  have Hx := Lib.hid hx
  clear hx
  have h1 : 1 ≤ n := by omega
  refine callsIn_of_wp Tryz.func127 rfl h127 ?_ hro
  simp only [Tryz.ntmps127, List.size_toArray, List.length_cons, List.length_nil, Nat.reduceAdd, Nat.reduceSub, Array.replicate_succ, Array.replicate_zero, List.push_toArray, List.append_toArray, List.nil_append, List.cons_append]
  gi_wp2
  refine wpIn_scope_straight ?_ hro
  gi_wp2
  obtain ⟨W, hW⟩ : ∃ W, W = (((w.alloc (Obj.cells #[Value.pointer (some { block := g, off := 0 })] 79)).alloc (Obj.cells #[Value.slice none 0 0] 68)).alloc (Obj.map #[] 0)).alloc (Obj.cells #[Value.map (some (w.heap.size + 1 + 1))] 127) := ⟨_, rfl⟩
  have hBW : Below w.heap.size w W := by rw [hW]; exact ((((Below.refl _ _).alloc (Nat.le_refl _) _).alloc (by simp) _).alloc (by simp; omega) _).alloc (by simp; omega) _
  have hk1 : W.heap[w.heap.size + 1]? = some (.cells #[Value.slice none 0 0] 68 (0, 0)) := by
    rw [hW]
    have h1 := heap_alloc_new (w.alloc (Obj.cells #[Value.pointer (some { block := g, off := 0 })] 79)) (.cells #[Value.slice none 0 0] 68)
    rw [World.size_alloc] at h1
    exact (Below.heap_alloc _ _ _ (by simp)).trans ((Below.heap_alloc _ _ _ (by simp)).trans h1)
  have hc1 : W.cell? ⟨w.heap.size + 1, 0, none⟩ = some (.slice none 0 0) := cell_of_row _ _ _ _ _ _ hk1
  rw [← hW]
  clear hW hk1
  gi_loop [24, 9, 11] (fun i ok _ => ∃ k : Nat, k ≤ xs.length ∧ i = .int .i64 k ∧ ok = .bool true) (fun i _ _ => xs.length - (intOf i).toNat)
  case atStart => exact ⟨0, Nat.zero_le _, rfl, rfl⟩
  case round =>
    obtain ⟨k, hk, rfl, rfl⟩ := hrel
    by_cases hlt : k < xs.length
    · obtain ⟨gv, cap, hh, _, _, hcell, _, hgl⟩ := hv.some_ (by omega)
      injection hh with hh _ hh2
      subst hh hh2
      have hc := (hBW.cell (p := ⟨gv, k, none⟩) hgl).trans (hcell k hlt)
      obtain ⟨hx1, hx2⟩ := Hx.out k hlt
      obtain ⟨x, hx0⟩ : ∃ x, xs.getD k 0 = x := ⟨_, rfl⟩
      rw [hx0] at hc hx1 hx2
      clear hx0 hcell hv
      gi_wp2_with (gi_at_call 149; refine (walkGoodIn F (n - 1) h149 h101 hro (by omega) _ _ _ _ _ hx1 hx2).mono ?_; rintro e w' ⟨rfl, rfl⟩)
      go_round
      case rel => exact ⟨k + 1, by omega, by go_num, rfl⟩
      case measure => simp [intOf]; omega
    · gi_wp2
      refine wpIn_label ?_
      gi_wp2
      refine wpIn_loop_rounds 1 ?_
      rw [roundsIn_succ]
      gi_wp2
      rw [Exit.noGoto_ret]
      go_ret2
      exact ⟨rfl, hBW⟩

set_option maxHeartbeats 400000 in
theorem gcCheckIn (F : Fence) (n : Nat) (h86 : F.fn 86) (h127 : F.fn 127) (h149 : F.fn 149) (h101 : F.fn 101) (hro : F.round = none) (hn : 3 ≤ n) (g : Nat) (v : Value) (xs : List Int) (w : World) (hv : Rw w 51 .u64 v xs) (hl : xs.length ≤ 1000000) (hx : ∀ j, j < xs.length → isW (xs.getD j 0) ∧ xs.getD j 0 % 2 = 1) :
    CallsIn F n Tryz.prog 86 #[.pointer (some ⟨g, 0, none⟩), v] w fun e w' => e = .returned (.int .i64 0) ∧ Below w.heap.size w w' := by
  have h1 : 1 ≤ n := by omega
  refine callsIn_of_wp Tryz.func86 rfl h86 ?_ hro
  simp only [Tryz.ntmps86, List.size_toArray, List.length_cons, List.length_nil, Nat.reduceAdd, Nat.reduceSub, Array.replicate_succ, Array.replicate_zero, List.push_toArray, List.append_toArray, List.nil_append, List.cons_append]
  gi_wp2_with (gi_at_call 127; refine (gcWalkIn F (n - 1) h127 h149 h101 hro (by omega) g _ xs _ hv hl hx).mono ?_; rintro e w' ⟨rfl, hb⟩)
  go_ret
  exact ⟨rfl, hb⟩

set_option maxHeartbeats 400000 in
theorem gcReachIn (F : Fence) (n : Nat) (h87 : F.fn 87) (h127 : F.fn 127) (h149 : F.fn 149) (h101 : F.fn 101) (hro : F.round = none) (hn : 3 ≤ n) (g : Nat) (v : Value) (xs : List Int) (w : World) (hl : xs.length ≤ 1000000) (hx : ∀ j, j < xs.length → isW (xs.getD j 0) ∧ xs.getD j 0 % 2 = 1) (hk : ∀ W, Below w.heap.size w W → Rw W 51 .u64 v xs) :
    CallsIn F n Tryz.prog 87 #[.pointer (some ⟨g, 0, none⟩), v] w fun e w' => e = .returned (.func (.func 128) #[] #[.pointer (some ⟨w.heap.size, 0, none⟩)]) ∧ w'.cell? ⟨w.heap.size, 0, none⟩ = some (.slice none 0 0) ∧ w.heap.size < w'.heap.size ∧ Below w.heap.size w w' := by
  have hmf : ∀ (fn : Fn) (first cap : Array Value) (w : World), (Instr.makeFunc fn first cap).run Tryz.prog w = .ok (.func fn first cap) w := fun _ _ _ _ => rfl
  have h1 : 1 ≤ n := by omega
  refine callsIn_of_wp Tryz.func87 rfl h87 ?_ hro
  simp only [Tryz.ntmps87, List.size_toArray, List.length_cons, List.length_nil, Nat.reduceAdd, Nat.reduceSub, Array.replicate_succ, Array.replicate_zero, List.push_toArray, List.append_toArray, List.nil_append, List.cons_append]
  have hb0 : Below w.heap.size w (w.alloc (.cells #[.slice none 0 0] 68)) := (Below.refl _ _).alloc (Nat.le_refl _) _
  gi_wp2_with (gi_at_call 127; refine (gcWalkIn F (n - 1) h127 h149 h101 hro (by omega) g _ xs _ (hk _ hb0) hl hx).mono ?_; rintro e w' ⟨rfl, hb⟩; have hbx : Boxed w' w.heap.size 68 (.slice none 0 0) := (hb.block w.heap.size (by simp)).trans (Boxed.new w 68 _); have hcb := hbx.cell; have hfb := hbx.frozen; have hlt := hbx.lt)
  go_ret
  have hb1 : Below w.heap.size (w.alloc (.cells #[.slice none 0 0] 68)) w' := hb.mono (by simp)
  have hb2 : Below w.heap.size w w' := hb0.trans hb1
  exact ⟨rfl, (hbx.set _).cell, by simpa using hlt, hb2.setCell (p := ⟨w.heap.size, 0, none⟩) (Nat.le_refl _) _⟩

theorem reachStops (F : Fence) (n : Nat) (h128 : F.fn 128) (hro : F.round = none) (Bn : Nat) (w : World) (hBn : Bn < w.heap.size) (hc : w.cell? ⟨Bn, 0, none⟩ = some (.slice none 0 0)) :
    SeqStopsK F n Tryz.prog 128 #[.pointer (some ⟨Bn, 0, none⟩)] (fun _ : Int => #[.int .i64 0]) (fun _ _ => True) (fun ys => ys = []) (fun _ => True) 0 w := by
  intro l J Jx W hW _ _ hY h0
  have hc1 := (hW.cell (p := ⟨Bn, 0, none⟩) hBn).trans hc
  refine callsIn_of_wp Tryz.func128 rfl h128 ?_ hro
  simp only [Tryz.ntmps128, List.size_toArray, List.length_cons, List.length_nil, Nat.reduceAdd, Nat.reduceSub, Array.replicate_succ, Array.replicate_zero, List.push_toArray, List.append_toArray, List.nil_append, List.cons_append]
  gi_wp2
  refine wpIn_loop_rounds 1 ?_
  rw [roundsIn_succ]
  gi_wp2
  go_end0
  exact ⟨⟨_, rfl⟩, .inl ⟨_, rfl, h0⟩⟩

set_option maxRecDepth 100000 in
set_option maxHeartbeats 1000000 in
theorem gcLiveIn (F : Fence) (n : Nat) (h55 : F.fn 55) (h86 : F.fn 86) (h87 : F.fn 87) (h128 : F.fn 128) (h127 : F.fn 127) (h149 : F.fn 149) (h101 : F.fn 101) (hro : F.round = none) (hn : 5 ≤ n) (g : Nat) (v : Value) (xs : List Int) (w : World) (hl : xs.length ≤ 1000000) (hx : ∀ j, j < xs.length → isW (xs.getD j 0) ∧ xs.getD j 0 % 2 = 1) (hk : ∀ W, Below w.heap.size w W → Rw W 51 .u64 v xs) :
    CallsIn F n Tryz.prog 55 #[.pointer (some ⟨g, 0, none⟩), v] w fun e w' => e = .returned (.tuple #[.int .i64 0, .int .i64 0]) ∧ Below w.heap.size w w' := by
  have h1 : 1 ≤ n := by omega
  refine callsIn_of_wp_marks Tryz.func55 rfl h55 ?_ hro
  simp only [Tryz.ntmps55, List.size_toArray, List.length_cons, List.length_nil, Nat.reduceAdd, Nat.reduceSub, Array.replicate_succ, Array.replicate_zero, List.push_toArray, List.append_toArray, List.nil_append, List.cons_append]
  have hb0 : Below w.heap.size w (w.alloc (.cells #[.pointer (some ⟨g, 0, none⟩)] 79)) := (Below.refl _ _).alloc (Nat.le_refl _) _
  have hx0 : Boxed (w.alloc (.cells #[.pointer (some ⟨g, 0, none⟩)] 79)) w.heap.size 79 (.pointer (some ⟨g, 0, none⟩)) := Boxed.new w 79 _
  have hc0 := hx0.cell
  gi_wp2_with (first
    | (gi_at_call 86; refine (gcCheckIn F (n - 1) h86 h127 h149 h101 hro (by omega) g _ xs _ (hk _ hb0) hl hx).mono ?_; rintro e w2 ⟨rfl, hb2⟩; have hx2 := (hb2.block w.heap.size hx0.lt).trans hx0; have hc2 := Boxed.cell (Boxed.alloc hx2 (.cells #[.int .i64 0] 3)); have hz2 := (hb0.trans (hb2.mono hb0.size)); have hz3 : Below w.heap.size w (w2.alloc (.cells #[.int .i64 0] 3)) := hz2.alloc hz2.size _)
    | (gi_at_call 87; refine (gcReachIn F (n - 1) h87 h127 h149 h101 hro (by omega) g _ xs _ hl hx (fun W hW => hk W (hz3.trans (hW.mono hz3.size)))).mono ?_; rintro e w3 ⟨rfl, hc3, hl3, hb3⟩; have hx3 := (hb3.block w2.heap.size (by simp)).trans (Boxed.new w2 3 (.int .i64 0))))
  have hz4 : Below w.heap.size w w3 := hz3.trans (hb3.mono hz3.size)
  have hlt3 : w2.heap.size < w3.heap.size := Boxed.lt hx3
  refine wpIn_rangeFunc_ownF (α := Int) hro h1 (gf := 128) (lb := #[.pointer (some ⟨(w2.alloc (.cells #[.int .i64 0] 3)).heap.size, 0, none⟩)]) (by go_simp) h128 (enters_of Tryz.func128 (by kernel_rfl) rfl)
    (reachStops F (n - 1) h128 hro _ w3 hl3 hc3) (fun _ _ => trivial) (fun _ _ _ _ _ _ _ _ => trivial) (Below.refl _ _) (fun _ => rfl)
    (fun _ W => Below w3.heap.size w3 W)
    (fun _ _ _ => False)
    (ownFrom_below (Nat.le_refl _) (Nat.le_refl _))
    (fun _ _ _ _ _ hs _ _ => hs)
    (Below.refl _ _)
    (fun _ => { tmps := #[.pointer (some ⟨g, 0, none⟩), v, .pointer (some ⟨w.heap.size, 0, none⟩), undef, .int .i64 0, .int .i64 0, .int .i64 0, .pointer (some ⟨w2.heap.size, 0, none⟩), .int .i64 0, undef, undef, undef, undef, .pointer (some ⟨g, 0, none⟩), v, .int .i64 0, .int .i64 0, .bool false, undef, .pointer (some ⟨g, 0, none⟩), v, .func (.func 128) #[] #[.pointer (some ⟨w2.heap.size + 1, 0, none⟩)], .int .i64 0, undef, undef, undef, undef, undef, undef, undef, undef, undef, undef, undef, undef, undef], defers := [] }) ?assign ?body ?done ?stop
  case assign =>
    intro l x W K hK
    gi_wp2
    exact hK
  case body =>
    intro l pre x W _ h0
    omega
  case done =>
    rintro D ys W hD rfl hB hK
    have hxW := (hB.block w2.heap.size hlt3).trans hx3
    have hcW := Boxed.cell hxW
    gi_wp2
    refine ⟨by simp, .inl ⟨_, _, rfl, run_takeDeferred hK, ?_⟩⟩
    refine ⟨_, results_tmp2 rfl _ _ _, rfl, ?_⟩
    have hD' : w.heap.size ≤ D := Nat.le_trans hz4.size hD
    exact (hz4.trans (hB.mono hz4.size)).trans (belowK_b (w := w) (Nat.le_refl _) W D _ _ hD' hK rfl rfl)
  case stop =>
    rintro D c pre W _ _ h _
    exact h.elim

theorem gcLive (g : Nat) (v : Value) (xs : List Int) (w : World) (hl : xs.length ≤ 1000000) (hx : ∀ j, j < xs.length → isW (xs.getD j 0) ∧ xs.getD j 0 % 2 = 1) (hk : ∀ W, Below w.heap.size w W → Rw W 51 .u64 v xs) :
    Calls Tryz.prog 55 #[.pointer (some ⟨g, 0, none⟩), v] w fun e w' => e = .returned (.tuple #[.int .i64 0, .int .i64 0]) ∧ Below w.heap.size w w' :=
  calls_of_every_depth (L := [55, 86, 87, 128, 127, 149, 101]) (n := 5) fun D => gcLiveIn _ 5 (by simp [Fence.list]) (by simp [Fence.list]) (by simp [Fence.list]) (by simp [Fence.list]) (by simp [Fence.list]) (by simp [Fence.list]) (by simp [Fence.list]) rfl (by omega) g v xs w hl hx hk
end Go.Proofs.YtjfcbimbnpfdeaaGreat

/- The roots' words of a machine without frames, all of them the integer 0's word. -/
import Derived.Test.YtjfcbimbnpfdeaaGreatN
import Derived.OrdersHeld
import Derived.RangeFuncFrom
namespace Go.Proofs.YtjfcbimbnpfdeaaGreat
open Go.RowKit Go.Shelf
attribute [local go_sem] Oper.semAt_some

abbrev PlaceT (gx gg : Nat) : Type := { x : Addr // ∃ k, k < 1042 ∧ x = place gx gg k }
def plT (gx gg : Nat) (k : Nat) : PlaceT gx gg := if h : k < 1042 then ⟨place gx gg k, k, h, rfl⟩ else ⟨place gx gg 0, 0, by omega, rfl⟩
theorem plT_val (gx gg : Nat) (k : Nat) (h : k < 1042) : (plT gx gg k).1 = place gx gg k := by unfold plT; rw [dif_pos h]
def Good (gx gg : Nat) (W : World) : Prop := ∀ k, k < 1042 → W.cell? (place gx gg k) = some (.int .u64 1)

theorem layKp_b {gx gg Bn : Nat} (W : World) (l : Nat) (o o' : Obj) (h : W.heap[l]? = some o) (hc : o.isCells = false) : LayKp gx gg Bn W (W.putObj l o') := fun hl =>
  ⟨hl.box.kept (grownBy_putObj' W l o') (fun e => by cases e; have hb := hl.box; unfold Boxed at hb; rw [h] at hb; cases hb; cases hc), cell_kept hl.fr (grownBy_putObj' W l o') (fun r e => by cases e; exact ⟨_, h, hc⟩), cell_kept hl.gl (grownBy_putObj' W l o') (fun r e => by cases e; exact ⟨_, h, hc⟩)⟩

theorem row_snoc {α : Type} {w' : World} {n0 : Nat} {v : Value} {pre : List α} {x : α} (h : w'.ownsRow n0 51 1 v (pre.length + 1) (iv .u64 (List.replicate pre.length 1) ++ [.int .u64 1])) :
    w'.ownsRow n0 51 1 v (pre ++ [x]).length (iv .u64 (List.replicate (pre ++ [x]).length 1)) := by
  have e : iv .u64 (List.replicate (pre ++ [x]).length 1) = iv .u64 (List.replicate pre.length 1) ++ [.int .u64 1] := by
    rw [List.length_append, List.length_singleton, List.replicate_succ', iv_append]; rfl
  rw [e, List.length_append, List.length_singleton]; exact h
theorem place_lt {gx gg n0 : Nat} (h1 : gx < n0) (h2 : gg < n0) (k : Nat) : (place gx gg k).block < n0 := by
  unfold place; split; exact h1; split; exact h2; exact h1
theorem Good.below {gx gg : Nat} {w W : World} (h : Good gx gg w) (h1 : gx < w.heap.size) (h2 : gg < w.heap.size) (hb : Below w.heap.size w W) : Good gx gg W := fun k hk => (hb.cell (place_lt h1 h2 k)).trans (h k hk)

set_option maxRecDepth 100000 in
set_option maxHeartbeats 4000000 in
theorem wordsIn (F : Fence) (n : Nat) (h56 : F.fn 56) (h66 : F.fn 66) (h104 : F.fn 104) (hro : F.round = none) (hn : 3 ≤ n) (gx gg : Nat) (w : World) (hgx : gx < w.heap.size) (hgg : gg < w.heap.size)
    (hfr : w.cell? ⟨gx, 18, none⟩ = some (.slice none 0 0)) (hgl : w.cell? ⟨gx, 20, none⟩ = some (.slice (some ⟨gg, 0, none⟩) 1024 1024)) (hgood : Good gx gg w) :
    CallsIn F n Tryz.prog 56 #[.pointer (some ⟨gx, 0, none⟩)] w fun e w' => ∃ v, e = .returned v ∧ w'.ownsRow w.heap.size 51 1 v 1042 (iv .u64 (List.replicate 1042 1)) ∧ Below w.heap.size w w' := by
  have h1 : 1 ≤ n := by omega
  refine callsIn_of_wp_marks Tryz.func56 rfl h56 ?_ hro
  simp only [Tryz.ntmps56, List.size_toArray, List.length_cons, List.length_nil, Nat.reduceAdd, Nat.reduceSub, Array.replicate_succ, Array.replicate_zero, List.push_toArray, List.append_toArray, List.nil_append, List.cons_append]
  gi_wp2_with (gi_at_call 66; refine (rootsIn F (n - 1) h66 hro _ _).mono ?_; rintro e w' ⟨rfl, rfl⟩)
  have hL : Lay gx gg (w.heap.size + 1) ((w.alloc (.cells #[.slice none 0 0] 43)).alloc (.cells #[.pointer (some ⟨gx, 0, none⟩)] 28)) := by
    have hB : Below w.heap.size w ((w.alloc (.cells #[.slice none 0 0] 43)).alloc (.cells #[.pointer (some ⟨gx, 0, none⟩)] 28)) := ((Below.refl _ w).alloc (Nat.le_refl _) _).alloc (by simp) _
    refine ⟨?_, (hB.cell (p := ⟨gx, 18, none⟩) hgx).trans hfr, (hB.cell (p := ⟨gx, 20, none⟩) hgx).trans hgl⟩
    have := heap_alloc_new (w.alloc (.cells #[.slice none 0 0] 43)) (.cells #[.pointer (some ⟨gx, 0, none⟩)] 28)
    rw [World.size_alloc] at this
    exact this
  refine wpIn_rangeFunc_ownF (α := PlaceT gx gg) hro h1 (gf := 104) (lb := #[.pointer (some ⟨w.heap.size + 1, 0, none⟩)]) rfl h104 (enters_of Tryz.func104 (by kernel_rfl) rfl)
    (rootsStops Subtype.val (plT gx gg) F (n - 1) h104 hro (by omega) gx gg (w.heap.size + 1) _ (by simp) (by simp; omega) hL (fun k hk => plT_val gx gg k hk)) (fun h k hl => k (h hl)) (fun W l o o' _ h hc _ => layKp_b W l o o' h hc) (Below.refl _ _) (fun _ => rfl)
    (fun (pre : List (PlaceT gx gg)) W => (∃ v, Boxed W w.heap.size 43 v ∧ W.ownsRow w.heap.size 51 1 v pre.length (iv .u64 (List.replicate pre.length 1)) ∧ True) ∧ Below w.heap.size w W)
    (fun _ _ _ => False)
    (OwnFrom.and (Own.from (holdsRow_own w.heap.size w.heap.size 43 51 1 (fun pre : List (PlaceT gx gg) => pre.length) (fun pre => iv .u64 (List.replicate pre.length 1)) (fun _ _ => True)) _) (ownFrom_below (Nat.le_refl _) (by simp; omega)))
    (fun _ _ _ _ _ hs _ _ => hs)
    ?start
    (fun x => { tmps := #[.pointer (some ⟨gx, 0, none⟩), undef, .slice none 0 0, .pointer (some ⟨w.heap.size, 0, none⟩), .pointer (some x.1), .pointer (some ⟨gx, 0, none⟩), .func (.func 104) #[] #[.pointer (some ⟨w.heap.size + 1, 0, none⟩)], .pointer (some x.1), undef, undef, undef, undef, undef, undef, undef], defers := [] }) ?assign ?body ?done ?stop
  case start => exact ⟨⟨_, (Boxed.new w 43 _).alloc _, World.ownsRow_nil _ _ _ _, trivial⟩, ((Below.refl _ w).alloc (Nat.le_refl _) _).alloc (by simp) _⟩
  case assign =>
    intro l x W K hK
    simp only [encA]
    gi_wp2
    exact hK
  case body =>
    rintro l pre x W ⟨⟨v, hbx, hrow, -⟩, hB⟩ hlen
    have hca : W.cell? x.1 = some (.int .u64 1) := by obtain ⟨a, k, hk, rfl⟩ := x; exact (hgood.below hgx hgg hB) k hk
    refine wpIn_block ?_
    refine wpIn_region_any (by kernel_rfl) (wpAny_in ?calm ?hno _ _ _ _ ?_)
    case calm =>
      intro i o ho
      have hi : i = 0 ∨ i = 1 ∨ i = 2 ∨ i = 3 ∨ i = 4 ∨ i = 5 ∨ i = 6 := by
        have := (Array.getElem?_eq_some_iff.1 ho).1
        simp at this; omega
      rcases hi with rfl | rfl | rfl | rfl | rfl | rfl | rfl <;> (injection ho with ho; subst ho)
      · exact calm_load rfl
      · exact calm_move rfl
      · exact calm_nilCheck rfl
      · exact calm_load rfl
      · exact calm_buildSlice rfl
      · exact calm_append rfl
      · exact calm_store rfl
    case hno => rintro ⟨_, _, h⟩; exact h
    have hB' : Below w.heap.size w W.drew := ⟨hB.os, hB.tape, hB.output, hB.size, hB.block⟩
    have hko : KeepsOthers W W.drew := KeepsOthers.drew W
    have hlk : LayKp gx gg (w.heap.size + 1) W W.drew := fun h => ⟨h.box, h.fr, h.gl⟩
    have hbx' : Boxed W.drew w.heap.size 43 v := hbx
    have hrow' : W.drew.ownsRow w.heap.size 51 1 v pre.length (iv .u64 (List.replicate pre.length 1)) := hrow
    have hca' : W.drew.cell? x.1 = some (.int .u64 1) := hca
    change wpAny _ _ _ _ _ _ _ W.drew
    clear hbx hrow hca hB
    generalize W.drew = W1 at *
    have hcb := hbx'.cell
    have hfb := hbx'.frozen
    have hlt := hbx'.lt
    have hpl : pre.length ≤ 1041 := by omega
    obtain ⟨i51, hi51, hz0, hz1, hz2⟩ := info_parts info51
    refine wpAny_some (rs := [0, 1]) (by kernel_rfl) (by simp) (fun i hi => ?_)
    simp only [List.mem_cons, List.not_mem_nil, or_false] at hi
    rcases hi with rfl | rfl
    · refine wpOp_yields rfl rfl (v := v) (by go_simp) ?_
      refine wpAny_tail 1 _ rfl (by kernel_rfl) ?_
      simp only [List.drop_succ_cons, List.drop_zero]
      go_wp2_with (at_builtin; refine wpList_append_own_at _ rfl (.tmp 8) (.tmp 12) 43 rfl w.heap.size 51 i51 (.int .u64 0) 1 8 Tryz.underlying43 hi51 hz0 hz1 hz2 rfl (by decide) v pre.length (iv .u64 (List.replicate pre.length 1)) rfl (hrow'.alloc _) ⟨W1.heap.size, 0, none⟩ 1 1 [.int .u64 1] rfl rfl (cell_one_new _ _ _) (by simp [Value.oneCell']) (by unfold maxLen; omega) (by omega) (by have := hB'.size; simp; omega) ?_)
      intro v' w2 hown hgrow _ _
      obtain ⟨g', cap', rfl⟩ := ownsRow_succ hown
      obtain ⟨hv1, hv2, hr2, hk2, hb2⟩ := hbx'.appended (by decide) hrow' hB'.size (Nat.le_refl _) hown hgrow
      have hc1 := hv1.cell
      have hf1 := hv1.frozen
      have hlay : LayKp gx gg (w.heap.size + 1) W1 (w2.setCell ⟨w.heap.size, 0, none⟩ (.slice (some ⟨g', 0, none⟩) (pre.length + 1) cap')) := fun hl =>
        ⟨((hl.box.alloc _).kept hgrow (hl.box.not_row (by decide) hrow')).kept (grownBy_setCell' _ _ _) (by simp), (hb2.cell (p := ⟨gx, 18, none⟩) hgx).trans hl.fr, (hb2.cell (p := ⟨gx, 20, none⟩) hgx).trans hl.gl⟩
      have hfin : KeepsOthers W (w2.setCell ⟨w.heap.size, 0, none⟩ (.slice (some ⟨g', 0, none⟩) (pre.length + 1) cap')) ∧ LayKp gx gg (w.heap.size + 1) W (w2.setCell ⟨w.heap.size, 0, none⟩ (.slice (some ⟨g', 0, none⟩) (pre.length + 1) cap')) ∧ Below w.heap.size w (w2.setCell ⟨w.heap.size, 0, none⟩ (.slice (some ⟨g', 0, none⟩) (pre.length + 1) cap')) :=
        ⟨hko.trans hk2, fun hl => hlay (hlk hl), hB'.trans hb2⟩
      have hr3 := row_snoc (x := x) hr2
      clear hown hgrow hv1 hlay hb2 hk2 hr2
      go_wp2
      exact ⟨hfin.1, hfin.2.1, ⟨_, hv2, hr3⟩, hfin.2.2⟩
    · refine wpOp_yields rfl rfl (v := .pointer (some x.1)) (by go_simp) ?_
      refine wpAny_some (rs := [0, 2]) (by kernel_rfl) (by simp) (fun i hi => ?_)
      simp only [List.mem_cons, List.not_mem_nil, or_false] at hi
      rcases hi with rfl | rfl
      · refine wpOp_yields rfl rfl (v := v) (by go_simp) ?_
        refine wpAny_tail 2 _ rfl (by kernel_rfl) ?_
        simp only [List.drop_succ_cons, List.drop_zero]
        go_wp2_with (at_builtin; refine wpList_append_own_at _ rfl (.tmp 8) (.tmp 12) 43 rfl w.heap.size 51 i51 (.int .u64 0) 1 8 Tryz.underlying43 hi51 hz0 hz1 hz2 rfl (by decide) v pre.length (iv .u64 (List.replicate pre.length 1)) rfl (hrow'.alloc _) ⟨W1.heap.size, 0, none⟩ 1 1 [.int .u64 1] rfl rfl (cell_one_new _ _ _) (by simp [Value.oneCell']) (by unfold maxLen; omega) (by omega) (by have := hB'.size; simp; omega) ?_)
        intro v' w2 hown hgrow _ _
        obtain ⟨g', cap', rfl⟩ := ownsRow_succ hown
        obtain ⟨hv1, hv2, hr2, hk2, hb2⟩ := hbx'.appended (by decide) hrow' hB'.size (Nat.le_refl _) hown hgrow
        have hc1 := hv1.cell
        have hf1 := hv1.frozen
        have hlay : LayKp gx gg (w.heap.size + 1) W1 (w2.setCell ⟨w.heap.size, 0, none⟩ (.slice (some ⟨g', 0, none⟩) (pre.length + 1) cap')) := fun hl =>
          ⟨((hl.box.alloc _).kept hgrow (hl.box.not_row (by decide) hrow')).kept (grownBy_setCell' _ _ _) (by simp), (hb2.cell (p := ⟨gx, 18, none⟩) hgx).trans hl.fr, (hb2.cell (p := ⟨gx, 20, none⟩) hgx).trans hl.gl⟩
        have hfin : KeepsOthers W (w2.setCell ⟨w.heap.size, 0, none⟩ (.slice (some ⟨g', 0, none⟩) (pre.length + 1) cap')) ∧ LayKp gx gg (w.heap.size + 1) W (w2.setCell ⟨w.heap.size, 0, none⟩ (.slice (some ⟨g', 0, none⟩) (pre.length + 1) cap')) ∧ Below w.heap.size w (w2.setCell ⟨w.heap.size, 0, none⟩ (.slice (some ⟨g', 0, none⟩) (pre.length + 1) cap')) :=
          ⟨hko.trans hk2, fun hl => hlay (hlk hl), hB'.trans hb2⟩
        have hr3 := row_snoc (x := x) hr2
        clear hown hgrow hv1 hlay hb2 hk2 hr2
        go_wp2
        exact ⟨hfin.1, hfin.2.1, ⟨_, hv2, hr3⟩, hfin.2.2⟩
      · refine wpOp_yields rfl rfl (v := .pointer (some x.1)) (by go_simp) ?_
        refine wpAny_some (rs := [0, 3]) (by kernel_rfl) (by simp) (fun i hi => ?_)
        simp only [List.mem_cons, List.not_mem_nil, or_false] at hi
        rcases hi with rfl | rfl
        · refine wpOp_yields rfl rfl (v := v) (by go_simp) ?_
          refine wpAny_tail 3 _ rfl (by kernel_rfl) ?_
          simp only [List.drop_succ_cons, List.drop_zero]
          go_wp2_with (at_builtin; refine wpList_append_own_at _ rfl (.tmp 8) (.tmp 12) 43 rfl w.heap.size 51 i51 (.int .u64 0) 1 8 Tryz.underlying43 hi51 hz0 hz1 hz2 rfl (by decide) v pre.length (iv .u64 (List.replicate pre.length 1)) rfl (hrow'.alloc _) ⟨W1.heap.size, 0, none⟩ 1 1 [.int .u64 1] rfl rfl (cell_one_new _ _ _) (by simp [Value.oneCell']) (by unfold maxLen; omega) (by omega) (by have := hB'.size; simp; omega) ?_)
          intro v' w2 hown hgrow _ _
          obtain ⟨g', cap', rfl⟩ := ownsRow_succ hown
          obtain ⟨hv1, hv2, hr2, hk2, hb2⟩ := hbx'.appended (by decide) hrow' hB'.size (Nat.le_refl _) hown hgrow
          have hc1 := hv1.cell
          have hf1 := hv1.frozen
          have hlay : LayKp gx gg (w.heap.size + 1) W1 (w2.setCell ⟨w.heap.size, 0, none⟩ (.slice (some ⟨g', 0, none⟩) (pre.length + 1) cap')) := fun hl =>
            ⟨((hl.box.alloc _).kept hgrow (hl.box.not_row (by decide) hrow')).kept (grownBy_setCell' _ _ _) (by simp), (hb2.cell (p := ⟨gx, 18, none⟩) hgx).trans hl.fr, (hb2.cell (p := ⟨gx, 20, none⟩) hgx).trans hl.gl⟩
          have hfin : KeepsOthers W (w2.setCell ⟨w.heap.size, 0, none⟩ (.slice (some ⟨g', 0, none⟩) (pre.length + 1) cap')) ∧ LayKp gx gg (w.heap.size + 1) W (w2.setCell ⟨w.heap.size, 0, none⟩ (.slice (some ⟨g', 0, none⟩) (pre.length + 1) cap')) ∧ Below w.heap.size w (w2.setCell ⟨w.heap.size, 0, none⟩ (.slice (some ⟨g', 0, none⟩) (pre.length + 1) cap')) :=
            ⟨hko.trans hk2, fun hl => hlay (hlk hl), hB'.trans hb2⟩
          have hr3 := row_snoc (x := x) hr2
          clear hown hgrow hv1 hlay hb2 hk2 hr2
          go_wp2
          exact ⟨hfin.1, hfin.2.1, ⟨_, hv2, hr3⟩, hfin.2.2⟩
        · refine wpOp_yields rfl rfl (v := .int .u64 1) (by go_simp) ?_
          refine wpAny_some (rs := [0, 4]) (by kernel_rfl) (by simp) (fun i hi => ?_)
          simp only [List.mem_cons, List.not_mem_nil, or_false] at hi
          rcases hi with rfl | rfl
          · refine wpOp_yields rfl rfl (v := v) (by go_simp) ?_
            refine wpAny_tail 4 _ rfl (by kernel_rfl) ?_
            simp only [List.drop_succ_cons, List.drop_zero]
            go_wp2_with (at_builtin; refine wpList_append_own_at _ rfl (.tmp 8) (.tmp 12) 43 rfl w.heap.size 51 i51 (.int .u64 0) 1 8 Tryz.underlying43 hi51 hz0 hz1 hz2 rfl (by decide) v pre.length (iv .u64 (List.replicate pre.length 1)) rfl (hrow'.alloc _) ⟨W1.heap.size, 0, none⟩ 1 1 [.int .u64 1] rfl rfl (cell_one_new _ _ _) (by simp [Value.oneCell']) (by unfold maxLen; omega) (by omega) (by have := hB'.size; simp; omega) ?_)
            intro v' w2 hown hgrow _ _
            obtain ⟨g', cap', rfl⟩ := ownsRow_succ hown
            obtain ⟨hv1, hv2, hr2, hk2, hb2⟩ := hbx'.appended (by decide) hrow' hB'.size (Nat.le_refl _) hown hgrow
            have hc1 := hv1.cell
            have hf1 := hv1.frozen
            have hlay : LayKp gx gg (w.heap.size + 1) W1 (w2.setCell ⟨w.heap.size, 0, none⟩ (.slice (some ⟨g', 0, none⟩) (pre.length + 1) cap')) := fun hl =>
              ⟨((hl.box.alloc _).kept hgrow (hl.box.not_row (by decide) hrow')).kept (grownBy_setCell' _ _ _) (by simp), (hb2.cell (p := ⟨gx, 18, none⟩) hgx).trans hl.fr, (hb2.cell (p := ⟨gx, 20, none⟩) hgx).trans hl.gl⟩
            have hfin : KeepsOthers W (w2.setCell ⟨w.heap.size, 0, none⟩ (.slice (some ⟨g', 0, none⟩) (pre.length + 1) cap')) ∧ LayKp gx gg (w.heap.size + 1) W (w2.setCell ⟨w.heap.size, 0, none⟩ (.slice (some ⟨g', 0, none⟩) (pre.length + 1) cap')) ∧ Below w.heap.size w (w2.setCell ⟨w.heap.size, 0, none⟩ (.slice (some ⟨g', 0, none⟩) (pre.length + 1) cap')) :=
              ⟨hko.trans hk2, fun hl => hlay (hlk hl), hB'.trans hb2⟩
            have hr3 := row_snoc (x := x) hr2
            clear hown hgrow hv1 hlay hb2 hk2 hr2
            go_wp2
            exact ⟨hfin.1, hfin.2.1, ⟨_, hv2, hr3⟩, hfin.2.2⟩
          · refine wpOp_makes rfl rfl (v := .slice (some ⟨W1.heap.size, 0, none⟩) 1 1) (w' := W1.alloc (.cells #[.int .u64 1] 51)) (by go_simp) ?_
            refine wpAny_some (rs := [0]) (by kernel_rfl) (by simp) (fun i hi => ?_)
            simp only [List.mem_cons, List.not_mem_nil, or_false] at hi
            subst hi
            refine wpOp_yields rfl rfl (v := v) (by go_simp) ?_
            refine wpAny_tail 5 _ rfl (by kernel_rfl) ?_
            simp only [List.drop_succ_cons, List.drop_zero]
            go_wp2_with (at_builtin; refine wpList_append_own_at _ rfl (.tmp 8) (.tmp 12) 43 rfl w.heap.size 51 i51 (.int .u64 0) 1 8 Tryz.underlying43 hi51 hz0 hz1 hz2 rfl (by decide) v pre.length (iv .u64 (List.replicate pre.length 1)) rfl (hrow'.alloc _) ⟨W1.heap.size, 0, none⟩ 1 1 [.int .u64 1] rfl rfl (cell_one_new _ _ _) (by simp [Value.oneCell']) (by unfold maxLen; omega) (by omega) (by have := hB'.size; simp; omega) ?_)
            intro v' w2 hown hgrow _ _
            obtain ⟨g', cap', rfl⟩ := ownsRow_succ hown
            obtain ⟨hv1, hv2, hr2, hk2, hb2⟩ := hbx'.appended (by decide) hrow' hB'.size (Nat.le_refl _) hown hgrow
            have hc1 := hv1.cell
            have hf1 := hv1.frozen
            have hlay : LayKp gx gg (w.heap.size + 1) W1 (w2.setCell ⟨w.heap.size, 0, none⟩ (.slice (some ⟨g', 0, none⟩) (pre.length + 1) cap')) := fun hl =>
              ⟨((hl.box.alloc _).kept hgrow (hl.box.not_row (by decide) hrow')).kept (grownBy_setCell' _ _ _) (by simp), (hb2.cell (p := ⟨gx, 18, none⟩) hgx).trans hl.fr, (hb2.cell (p := ⟨gx, 20, none⟩) hgx).trans hl.gl⟩
            have hfin : KeepsOthers W (w2.setCell ⟨w.heap.size, 0, none⟩ (.slice (some ⟨g', 0, none⟩) (pre.length + 1) cap')) ∧ LayKp gx gg (w.heap.size + 1) W (w2.setCell ⟨w.heap.size, 0, none⟩ (.slice (some ⟨g', 0, none⟩) (pre.length + 1) cap')) ∧ Below w.heap.size w (w2.setCell ⟨w.heap.size, 0, none⟩ (.slice (some ⟨g', 0, none⟩) (pre.length + 1) cap')) :=
              ⟨hko.trans hk2, fun hl => hlay (hlk hl), hB'.trans hb2⟩
            have hr3 := row_snoc (x := x) hr2
            clear hown hgrow hv1 hlay hb2 hk2 hr2
            go_wp2
            exact ⟨hfin.1, hfin.2.1, ⟨_, hv2, hr3⟩, hfin.2.2⟩
  case done =>
    rintro D ys W hD rfl ⟨⟨v, hbx, hrow, -⟩, hB⟩ hK
    have hc := hbx.cell
    rw [places_len] at hrow
    gi_wp2
    refine ⟨by simp, .inl ⟨_, _, rfl, run_takeDeferred hK, ?_⟩⟩
    refine ⟨_, results_tmp rfl _ _ _, v, rfl, ownsRow_putObj hrow _ hK rfl, hB.trans (belowK_b (w := w) (Nat.le_refl _) W D _ _ (by simp at hD; omega) hK rfl rfl)⟩
  case stop =>
    rintro D c pre W _ _ h _
    exact h.elim

/-- (*Machine).words: as a plain contract. -/
theorem machineWords (gx gg : Nat) (w : World) (hgx : gx < w.heap.size) (hgg : gg < w.heap.size)
    (hfr : w.cell? ⟨gx, 18, none⟩ = some (.slice none 0 0)) (hgl : w.cell? ⟨gx, 20, none⟩ = some (.slice (some ⟨gg, 0, none⟩) 1024 1024)) (hgood : Good gx gg w) :
    Calls Tryz.prog 56 #[.pointer (some ⟨gx, 0, none⟩)] w fun e w' => ∃ v, e = .returned v ∧ w'.ownsRow w.heap.size 51 1 v 1042 (iv .u64 (List.replicate 1042 1)) ∧ Below w.heap.size w w' :=
  calls_of_every_depth (L := [56, 66, 104]) (n := 3) fun D => wordsIn _ 3 (by simp [Fence.list]) (by simp [Fence.list]) (by simp [Fence.list]) rfl (by omega) gx gg w hgx hgg hfr hgl hgood
end Go.Proofs.YtjfcbimbnpfdeaaGreat

/- Run, for whatever is known of the steps. -/
import Derived.Test.YtjfcbimbnpfdeaaGreatAk
import Derived.Deep.LoopGhost
namespace Go.Proofs.YtjfcbimbnpfdeaaGreat
open Go.RowKit

/-- How a run goes, by its steps: A is what is known of the machine. -/
structure Goes {α : Type} (I J : MS → α → Prop) (inc : α → α) (st : α → α × Int) (steps : α → Int) (budget : Int) : Prop where
  steps_is : ∀ M A, I M A → M.steps = steps A
  jsteps_is : ∀ M A, J M A → M.steps = steps A
  bd : ∀ M A, I M A → M.budget = budget
  inc_is : ∀ M A, I M A → steps A < budget → I { M with steps := M.steps + 1 } (inc A)
  incs : ∀ A, steps (inc A) = steps A + 1
  mono : ∀ A, steps A ≤ steps (st A).1
  pos : ∀ M A, I M A → 0 ≤ steps A ∧ steps A ≤ budget
  toJ : ∀ M A, I M A → J M A
  entry : ∀ M A, J M A → (M.entry == 0) = false
def runA {α : Type} (inc : α → α) (st : α → α × Int) (steps : α → Int) (budget stop : Int) : Nat → α → α × Int
  | 0, A => (A, 0)
  | k + 1, A => if 0 < stop ∧ stop ≤ steps A then (A, 4) else if budget ≤ steps A then (A, 3) else
    if (st (inc A)).2 = 0 then runA inc st steps budget stop k (st (inc A)).1 else st (inc A)
def MachIs {α : Type} (I : MS → α → Prop) (w0 : World) (gx : Nat) (L0 : ML) (w : World) (A : α) : Prop := ∃ M L, MachAt w gx M L ∧ I M A ∧ Turned w0 w (L0.own gx) (L.own gx)

/-- What a run has left. -/
def RanTo {α : Type} (J : MS → α → Prop) (w : World) (gx : Nat) (L : ML) (kd : Int) (A : α) (w' : World) : Prop :=
  ∃ M' L', J M' A ∧ MachAt w' gx { M'.idle with value := if kd = 1 ∨ kd = 2 then M'.value else 1 } L' ∧ Turned w w' (L.own gx) (L'.own gx)
theorem apart_none (v : Value) : apartV v (.slice none 0 0) := fun _ _ h => by cases h
theorem apart_snoc {l : List Value} (h : l.Pairwise apartV) (v : Value) (hv : ∀ u ∈ l, apartV u v) : (l ++ [v]).Pairwise apartV := by
  rw [List.pairwise_append]
  exact ⟨h, by simp, fun a ha b hb => by simp at hb; subst hb; exact hv a ha⟩
/-- The first frame of a run. -/
theorem MachAt.firstFrame {w : World} {gx : Nat} {M : MS} {L : ML} (h : MachAt w gx M L) (hs : L.svs = []) (x : Int) :
    MachAt (((w.setCell ⟨gx, 18, none⟩ (.slice (some ⟨w.heap.size, 0, none⟩) 1 1)).setCell ⟨gx, 23, none⟩ (.int .i64 3)).alloc (.cells #[.int .u64 x, .int .i64 0, .slice none 0 0] 97)) gx { M with frames := [⟨x, 0, []⟩], used := 3 } { L with fv := .slice (some ⟨w.heap.size, 0, none⟩) 1 1, svs := [.slice none 0 0] } ∧
    Turned w (((w.setCell ⟨gx, 18, none⟩ (.slice (some ⟨w.heap.size, 0, none⟩) 1 1)).setCell ⟨gx, 23, none⟩ (.int .i64 3)).alloc (.cells #[.int .u64 x, .int .i64 0, .slice none 0 0] 97)) (L.own gx) (({ L with fv := .slice (some ⟨w.heap.size, 0, none⟩) 1 1, svs := [.slice none 0 0] } : ML).own gx) := by
  have hgl := at_lt h.mac
  have e : ((w.setCell ⟨gx, 18, none⟩ (.slice (some ⟨w.heap.size, 0, none⟩) 1 1)).setCell ⟨gx, 23, none⟩ (.int .i64 3)).alloc (.cells #[.int .u64 x, .int .i64 0, .slice none 0 0] 97) = ((w.alloc (.cells #[.int .u64 x, .int .i64 0, .slice none 0 0] 97)).setCell ⟨gx, 18, none⟩ (.slice (some ⟨w.heap.size, 0, none⟩) 1 1)).setCell ⟨gx, 23, none⟩ (.int .i64 3) := by
    rw [World.setCell_alloc_past _ _ _ _ hgl, World.setCell_alloc_past _ _ _ _ (by simpa using hgl)]
  have ka : Kp (fun _ => False) w (w.alloc (.cells #[.int .u64 x, .int .i64 0, .slice none 0 0] 97)) := (Kp.refl _ w).alloc _
  have h1 := h.still ka
  have hr : (w.alloc (.cells #[.int .u64 x, .int .i64 0, .slice none 0 0] 97)).ownsRow 0 97 3 (.slice (some ⟨w.heap.size, 0, none⟩) 1 1) ([⟨x, 0, []⟩] : List Fr).length (frCells [⟨x, 0, []⟩] [.slice none 0 0]) :=
    ⟨rfl, .inr ⟨w.heap.size, 1, _, rfl, Nat.zero_le _, heap_alloc_new _ _, by simp, by decide, rfl, rfl⟩⟩
  have h2 := (h1.newFrames _ _ _ hr ⟨Rw.nil _ _ _, trivial⟩ (by
    have := apart_snoc h.apart (.slice none 0 0) (fun u _ => apart_none u)
    rw [hs] at this
    exact this)).setUsed 3
  rw [e]
  refine ⟨h2, ?_⟩
  refine ⟨(((Kp.refl (L.own gx) w).alloc _).setCell (p := ⟨gx, 18, none⟩) (.inl (.inl rfl)) _).setCell (p := ⟨gx, 23, none⟩) (.inl (.inl rfl)) _, ?_⟩
  · intro i hi
    rcases hi with hi | hi | hi | hi | hi | ⟨s, hs', hi⟩
    · exact .inl (.inl hi)
    · exact .inl (.inr (.inl hi))
    · cases hi; exact .inr (Nat.le_refl _)
    · exact .inl (.inr (.inr (.inr (.inl hi))))
    · exact .inl (.inr (.inr (.inr (.inr (.inl hi)))))
    · simp at hs'; subst hs'; cases hi

set_option maxRecDepth 100000 in
set_option maxHeartbeats 4000000 in
theorem MachAt.run_is {w : World} {gx : Nat} {M : MS} {L : ML} (h : MachAt w gx M L) {α : Type} {I J : MS → α → Prop} {inc : α → α} {st : α → α × Int} {steps : α → Int} (budget stop every : Int) (hb : 0 ≤ budget ∧ budget ≤ 1000000) (hg : Goes I J inc st steps budget)
    (hentry : wIsPtr M.entry = true) (hew : isW M.entry) (he0 : (M.entry == 0) = false) (A0 : α) (hA0 : I (M.begin budget) A0)
    (hcol : 0 < every → ∀ W M L A, MachAt W gx M L → I M A → Calls Tryz.prog 30 #[.pointer (some ⟨gx, 0, none⟩)] W fun e w' => e = .returned (.tuple #[]) ∧ MachIs I W gx L w' A)
    (hstep : ∀ W M L A, MachAt W gx M L → I M A → Calls Tryz.prog 44 #[.pointer (some ⟨gx, 0, none⟩)] W fun e w' => e = .returned (.int .i64 (st A).2) ∧ MachIs (if (st A).2 = 0 then I else J) W gx L w' (st A).1) :
    Calls Tryz.prog 17 #[.pointer (some ⟨gx, 0, none⟩), .int .i64 budget, .int .i64 stop, .int .i64 every] w fun e w' =>
      e = .returned (.agg #[.int .i64 (runA inc st steps budget stop (budget.toNat + 1) A0).2, .int .i64 (steps (runA inc st steps budget stop (budget.toNat + 1) A0).1)]) ∧
      RanTo J w gx L (runA inc st steps budget stop (budget.toNat + 1) A0).2 (runA inc st steps budget stop (budget.toNat + 1) A0).1 w' := by
  obtain ⟨res, hres⟩ : ∃ res, res = runA inc st steps budget stop (budget.toNat + 1) A0 := ⟨_, rfl⟩
  rw [← hres]
  have HR := Lib.hid hres
  clear hres
  have c21 := h.c21
  have Hh := Lib.hid h
  have Hcol := Lib.hid hcol
  have Hstep := Lib.hid hstep
  have Hg := Lib.hid hg
  have HA0 := Lib.hid hA0
  have He0 := Lib.hid he0
  have Hent := Lib.hid hentry
  obtain ⟨hb0, hb1⟩ := hb
  clear h hcol hstep hg hA0 he0 hentry
  have hnb : ¬ budget < 0 := by omega
  go_enter Tryz.func17, Tryz.ntmps17
  go_upto_region 1 with fail
  obtain ⟨w1, hw1⟩ : ∃ w1, w1 = w.alloc (.cells #[.int .i64 0, .int .i64 0] 34) := ⟨_, rfl⟩
  obtain ⟨r0, hr0⟩ : ∃ r0, r0 = w.heap.size := ⟨_, rfl⟩
  have hbox : w1.heap[r0]? = some (.cells #[.int .i64 0, .int .i64 0] 34 (0, 0)) := by rw [hw1, hr0]; exact heap_alloc_new _ _
  have hm1 : MachAt w1 gx M L := by rw [hw1]; exact Hh.out.still ((Kp.refl _ w).alloc _)
  have K1 := Lib.hid (show Kp (fun _ => False) w w1 by rw [hw1]; exact (Kp.refl _ w).alloc _)
  have hr1 : ∀ i, L.own gx i → i ≠ r0 := fun i hi e => by have := Hh.out.lt i hi; omega
  have Hr1 := Lib.hid hr1
  have Hbox := Lib.hid hbox
  have Hr0 := Lib.hid hr0
  rw [← hw1, ← hr0]
  clear hw1 c21 hr1 hr0 hbox
  have c21 := hm1.c21
  go_upto_region 3 with (go_at_call 42; refine (numIsPtr _ _ hew).mono ?_; rintro e w' ⟨rfl, rfl⟩; rw [Hent.out])
  have Hi := Lib.hid (hm1.idle_is He0.out)
  clear c21 hm1
  go_wp2_with fail
  refine Hi.out.mono ?_
  rintro e w2 ⟨rfl, hm2, t2⟩
  have Hm2 := Lib.hid hm2
  have T2 := Lib.hid t2
  have c24 := hm2.c24
  have c25 := hm2.c25
  have f24 := hm2.fz 24
  have f25 := hm2.fz 25
  have hm3 := (hm2.setBudget budget).setSteps 0
  have t3 := (t2.trans (Turned.set 24 (.int .i64 budget))).trans (Turned.set 25 (.int .i64 0))
  clear hm2 t2
  go_upto_region 5 with fail
  clear c24 c25 f24 f25
  generalize (w2.setCell ⟨gx, 24, none⟩ (.int .i64 budget)).setCell ⟨gx, 25, none⟩ (.int .i64 0) = w3 at *
  have c21 := hm3.c21
  have c18 := hm3.c18
  have c23 := hm3.c23
  have f18 := hm3.fz 18
  have f23 := hm3.fz 23
  have hgl := at_lt hm3.mac
  go_upto_region 6 with fail
  obtain ⟨hm4, t4⟩ := hm3.firstFrame rfl M.idle.entry
  have T4 := Lib.hid ((t3.trans t4))
  have hm4' : MachAt _ gx (M.begin budget) _ := hm4
  have Hm4 := Lib.hid hm4'
  clear hm4 hm4' t3 t4 hm3 c21 c18 c23 f18 f23 hgl
  generalize (((w3.setCell ⟨gx, 18, none⟩ (.slice (some ⟨w3.heap.size, 0, none⟩) 1 1)).setCell ⟨gx, 23, none⟩ (.int .i64 3)).alloc (.cells #[.int .u64 M.idle.entry, .int .i64 0, .slice none 0 0] 97)) = w4 at *
  go_wp2_with fail
  have hst0 : budget - steps A0 + 1 ≤ ((budget.toNat + 1 : Nat) : Int) ∧ steps A0 ≤ budget := by have := Hg.out.pos _ _ HA0.out; omega
  have Hst0 := Lib.hid hst0
  clear hst0
  go_loopg [9] (budget.toNat + 2) (fun k s9 wr => (s9 = .int .i64 0 ∧ ∃ f A, k = f + 1 ∧ budget - steps A + 1 ≤ (f : Int) ∧ runA inc st steps budget stop f A = res ∧ MachIs I w1 gx L wr A) ∨ (k = 0 ∧ s9 = .int .i64 res.2 ∧ ¬ res.2 = 0 ∧ MachIs J w1 gx L wr res.1))
  case atStart => exact .inl ⟨rfl, budget.toNat + 1, A0, rfl, Hst0.out.1, HR.out.symm, _, _, Hm4.out, HA0.out, T4.out⟩
  case round =>
    clear Hm4 T4 Hst0
    rcases hrel with ⟨rfl, f, A, rfl, hf, hrun, Mr, Lr, hmr, hIr, hTr⟩ | ⟨rfl, rfl, hne, Mr, Lr, hmr, hJr, hTr⟩
    · obtain ⟨sA, hsA⟩ : ∃ sA, sA = steps A := ⟨_, rfl⟩
      have hpos := Hg.out.pos _ _ hIr
      have c25 := hmr.c25
      rw [Hg.out.steps_is _ _ hIr, ← hsA] at c25
      have c24 := hmr.c24
      rw [Hg.out.bd _ _ hIr] at c24
      rw [← hsA] at hf hpos
      obtain ⟨p0, p1⟩ := hpos
      obtain ⟨f, rfl⟩ : ∃ f', f = f' + 1 := ⟨f - 1, by omega⟩
      rw [runA, ← hsA] at hrun
      have Hrun := Lib.hid hrun
      have HsA := Lib.hid hsA
      have Hmr := Lib.hid hmr
      have HI := Lib.hid hIr
      have HT := Lib.hid hTr
      clear hrun hsA hmr hIr hTr
      by_cases hstop : 0 < stop ∧ stop ≤ sA
      · have hres : res = (A, 4) := by rw [← Hrun.out, if_pos hstop]
        obtain ⟨q0, q1⟩ := hstop
        have Hres := Lib.hid hres
        clear hres
        go_wp2
        go_roundg 0
        case measure => omega
        case rel => exact .inr ⟨rfl, by rw [Hres.out], by rw [Hres.out]; exact (by decide : ¬ (4 : Int) = 0), by rw [Hres.out]; exact ⟨_, _, Hmr.out, Hg.out.toJ _ _ HI.out, HT.out⟩⟩
      · have hq : (¬ 0 < stop) ∨ (0 < stop ∧ ¬ stop ≤ sA) := by omega
        have Hrun2 := Hrun.out
        rw [if_neg hstop] at Hrun2
        have Hrun3 := Lib.hid Hrun2
        clear Hrun Hrun2 hstop
        by_cases hbud : budget ≤ sA
        · have hres : res = (A, 3) := by rw [← Hrun3.out, if_pos hbud]
          have Hres := Lib.hid hres
          clear hres
          have hm2 : ∀ n, MachIs J w1 gx L (wr.drewN n) res.1 := fun n => by rw [Hres.out]; exact ⟨_, _, Hmr.out.dr n, Hg.out.toJ _ _ HI.out, HT.out.trans (Turned.still ((Kp.refl _ wr).drewN n))⟩
          have Hm2 := Lib.hid hm2
          clear hm2
          rcases hq with hq | ⟨hq, hq2⟩
          all_goals
            go_wp2
            go_quiet (fail)
            go_wp2
            go_roundg 0
            case measure => omega
            case rel => exact .inr ⟨rfl, by rw [Hres.out], by rw [Hres.out]; exact (by decide : ¬ (3 : Int) = 0), Hm2.out _⟩
        · have Hrun4 := Hrun3.out
          rw [if_neg hbud] at Hrun4
          have HrunB := Lib.hid Hrun4
          clear Hrun3 Hrun4
          have hlt : sA < budget := by omega
          -- the world behind steps++
          have hm5 : ∀ n, MachAt ((wr.drewN n).setCell ⟨gx, 25, none⟩ (.int .i64 (sA + 1))) gx { Mr with steps := Mr.steps + 1 } Lr := fun n => by
            have := (Hmr.out.dr n).setSteps (sA + 1)
            rw [HsA.out, ← Hg.out.steps_is _ _ HI.out] at this
            rw [HsA.out, ← Hg.out.steps_is _ _ HI.out]
            exact this
          have ht5 : ∀ n, Turned w1 ((wr.drewN n).setCell ⟨gx, 25, none⟩ (.int .i64 (sA + 1))) (L.own gx) (Lr.own gx) := fun n => (HT.out.trans (Turned.still ((Kp.refl _ wr).drewN n))).trans (Turned.set 25 _)
          have hI5 : I { Mr with steps := Mr.steps + 1 } (inc A) := Hg.out.inc_is _ _ HI.out (by rw [← HsA.out]; exact hlt)
          have Hm5 := Lib.hid hm5
          have HT5 := Lib.hid ht5
          have HI5 := Lib.hid hI5
          clear hm5 ht5 hI5
          have hinc := Lib.hid (Hg.out.incs A)
          -- what comes behind the step
          have hend : ∀ W, MachIs I w1 gx L W (inc A) → Calls Tryz.prog 44 #[.pointer (some ⟨gx, 0, none⟩)] W fun e w' => e = .returned (.int .i64 (st (inc A)).2) ∧ MachIs (if (st (inc A)).2 = 0 then I else J) w1 gx L w' (st (inc A)).1 := by
            rintro W ⟨M2, L2, a1, a2, a3⟩
            refine (Hstep.out W M2 L2 (inc A) a1 a2).mono ?_
            rintro e w' ⟨he, M3, L3, b1, b2, b3⟩
            exact ⟨he, M3, L3, b1, b2, a3.trans b3⟩
          have Hend := Lib.hid hend
          clear hend
          have hc6 : 0 < every → ∀ W, MachAt W gx { Mr with steps := Mr.steps + 1 } Lr → Turned w1 W (L.own gx) (Lr.own gx) → Calls Tryz.prog 30 #[.pointer (some ⟨gx, 0, none⟩)] W fun e w' => e = .returned (.tuple #[]) ∧ MachIs I w1 gx L w' (inc A) := by
            intro he W a1 a3
            refine (Hcol.out he W _ _ _ a1 HI5.out).mono ?_
            rintro e w' ⟨he, M3, L3, b1, b2, b3⟩
            exact ⟨he, M3, L3, b1, b2, a3.trans b3⟩
          have Hc6 := Lib.hid hc6
          clear hc6
          have hev : (¬ 0 < every) ∨ (0 < every ∧ ((sA + 1) % every == 0) = true) ∨ (0 < every ∧ ((sA + 1) % every == 0) = false) := by
            by_cases he : 0 < every
            · cases hh : ((sA + 1) % every == 0)
              · exact .inr (.inr ⟨he, rfl⟩)
              · exact .inr (.inl ⟨he, rfl⟩)
            · exact .inl he
          have hk : (st (inc A)).2 = 0 ∨ ¬ (st (inc A)).2 = 0 := by omega
          have hbo : budget - steps (st (inc A)).1 + 1 ≤ (f : Int) := by have := Hg.out.mono (inc A); rw [hinc.out, ← HsA.out] at this; omega
          have Hk := Lib.hid hk
          have Hbo := Lib.hid hbo
          clear hk hbo
          generalize hst : st (inc A) = pA at *
          rcases pA with ⟨A', kd⟩
          have Hst := Lib.hid hst
          clear hst
          dsimp only at HrunB Hend Hk Hbo
          rcases hq with hq | ⟨hq, hq2⟩
          all_goals
            go_wp2
            go_quiet (fail)
            have c25' : (wr.drewN nq).cell? ⟨gx, 25, none⟩ = some (.int .i64 sA) := c25
            have f25' : (wr.drewN nq).frozen? ⟨gx, 25, none⟩ = false := (Hmr.out.dr nq).fz 25
            have gm5 := Hm5.out nq
            have gt5 := HT5.out nq
            clear c25
            generalize wr.drewN nq = w4 at *
            go_upto_region 9 with fail
            generalize w4.setCell ⟨gx, 25, none⟩ (.int .i64 (sA + 1)) = w5 at *
            have c25 := gm5.c25
            have c25'' : w5.cell? ⟨gx, 25, none⟩ = some (.int .i64 (sA + 1)) := by rw [c25, HsA.out, ← Hg.out.steps_is _ _ HI.out]
            have Gm5 := Lib.hid gm5
            have Gt5 := Lib.hid gt5
            have HM5 : Hid (MachIs I w1 gx L w5 (inc A)) := ⟨_, _, gm5, HI5.out, gt5⟩
            clear c25 c25' f25' gm5 gt5
            rcases hev with he | ⟨he, hbv⟩ | ⟨he, hbv⟩
            all_goals
              go_wp2_with (first
                | (go_at_call 30; refine (Hc6.out he w5 Gm5.out Gt5.out).mono ?_; rintro e w6 ⟨rfl, hM6⟩; have HM6 := Lib.hid hM6; clear hM6)
                | (go_at_call 44; first
                    | ((with_reducible refine (Hend.out w6 HM6.out).mono ?_); rintro e w7 ⟨rfl, hM7⟩; have HM7 := Lib.hid hM7; clear hM7)
                    | ((with_reducible refine (Hend.out w5 HM5.out).mono ?_); rintro e w7 ⟨rfl, hM7⟩; have HM7 := Lib.hid hM7; clear hM7))
                | fail)
              rcases Hk.out with hz | hz
              · subst hz
                go_roundg (f + 1)
                case measure => omega
                case rel => exact .inl ⟨rfl, f, A', rfl, Hbo.out, by have := HrunB.out; rw [if_pos rfl] at this; exact this, by have := HM7.out; rw [if_pos rfl] at this; exact this⟩
              · have hres : res = (A', kd) := by rw [← HrunB.out, if_neg hz]
                go_roundg 0
                case measure => omega
                case rel => exact .inr ⟨rfl, by rw [hres], by rw [hres]; exact hz, by rw [hres]; have := HM7.out; rw [if_neg hz] at this; exact this⟩
    · have c22 := hmr.c22
      have Hmr := Lib.hid hmr
      have HJ := Lib.hid hJr
      have HT := Lib.hid hTr
      clear hmr hJr hTr
      have hbr := HT.out.kp.at_ Hbox.out (fun hi => Hr1.out r0 hi rfl)
      have Hi := Lib.hid (Hmr.out.idle_is (Hg.out.entry _ _ HJ.out))
      obtain ⟨resA, kd⟩ := res
      dsimp only at hne HJ ⊢
      have hb0 : (kd == 0) = false := by simp [hne]
      go_upto_region 17 with fail
      have Hi2 := Hi.out
      clear c22 Hi
      go_wp2_with fail
      refine Hi2.mono ?_
      rintro e w8 ⟨rfl, hm8, t8⟩
      have T8 := Lib.hid (HT.out.trans t8)
      have hb8 := T8.out.kp.at_ Hbox.out (fun hi => Hr1.out r0 hi rfl)
      have b80 : w8.cell? ⟨r0, 0, none⟩ = some (.int .i64 0) := cell_of_row _ _ _ _ _ _ hb8
      have b81 : w8.cell? ⟨r0, 1, none⟩ = some (.int .i64 0) := cell_of_row _ _ _ _ _ _ hb8
      have g80 : w8.frozen? ⟨r0, 0, none⟩ = false := frozen_of_row _ _ _ _ _ hb8
      have g81 : w8.frozen? ⟨r0, 1, none⟩ = false := frozen_of_row _ _ _ _ _ hb8
      have c25 := hm8.c25
      have hsr := Hg.out.jsteps_is _ _ HJ.out
      have c25' : w8.cell? ⟨gx, 25, none⟩ = some (.int .i64 (steps resA)) := by rw [← hsr]; exact c25
      have c22 := hm8.c22
      have f22 := hm8.fz 22
      have Hm8 := Lib.hid hm8
      have Hsr := Lib.hid hsr
      clear c25 hsr hm8 t8 hbr Hi2
      have hne0 : ¬ gx = r0 := Hr1.out gx (.inl rfl)
      have hr0l : r0 < w1.heap.size := at_lt Hbox.out
      have hend : ∀ W v, MachAt W gx { Mr.idle with value := v } Lr.idle → Turned w1 W (L.own gx) (Lr.idle.own gx) → MachAt ((W.setCell ⟨r0, 0, none⟩ (.int .i64 kd)).setCell ⟨r0, 1, none⟩ (.int .i64 (steps resA))) gx { Mr.idle with value := v } Lr.idle ∧ Turned w ((W.setCell ⟨r0, 0, none⟩ (.int .i64 kd)).setCell ⟨r0, 1, none⟩ (.int .i64 (steps resA))) (L.own gx) (Lr.idle.own gx) := by
        intro W v hW hT
        have k0 : Kp (fun i => i = r0) W ((W.setCell ⟨r0, 0, none⟩ (.int .i64 kd)).setCell ⟨r0, 1, none⟩ (.int .i64 (steps resA))) := ((Kp.refl (fun i => i = r0) W).setCell (p := ⟨r0, 0, none⟩) (.inl rfl) _).setCell (p := ⟨r0, 1, none⟩) (.inl rfl) _
        have hno : ∀ i, Lr.idle.own gx i → ¬ i = r0 := fun i hi e => by
          subst e
          rcases hT.new _ hi with h1 | h1
          · exact Hr1.out _ h1 rfl
          · omega
        refine ⟨hW.kp k0 hno, ⟨?_, fun i hi => ?_⟩⟩
        · exact ((K1.out.mono (fun _ h => h.elim)).trans hT.kp (fun i hi => .inl hi)).trans k0 (fun i hi => .inr (by rw [hi, ← Hr0.out]; exact Nat.le_refl _))
        · rcases hT.new _ hi with h1 | h1
          · exact .inl h1
          · exact .inr (Nat.le_trans K1.out.size h1)
      have hk : kd = 1 ∨ kd = 2 ∨ (¬ kd = 1 ∧ ¬ kd = 2) := by omega
      rcases hk with hk | hk | ⟨hk1, hk2⟩
      · subst hk
        have HE := Lib.hid (hend _ Mr.value (Hm8.out.setValue Mr.value) (T8.out.trans (Turned.set 22 _)))
        clear hend hb0 hne
        go_wp2
        refine bodyPost_ret (v := .agg #[.int .i64 1, .int .i64 (steps resA)]) (by simp [results, Tryz.results17, go_sem, b80, b81]) rfl ?_
        exact ⟨rfl, Mr, Lr.idle, HJ.out, by rw [if_pos (.inl rfl)]; exact HE.out.1, HE.out.2⟩
      · subst hk
        have HE := Lib.hid (hend _ Mr.value (Hm8.out.setValue Mr.value) (T8.out.trans (Turned.set 22 _)))
        clear hend hb0 hne
        go_wp2
        refine bodyPost_ret (v := .agg #[.int .i64 2, .int .i64 (steps resA)]) (by simp [results, Tryz.results17, go_sem, b80, b81]) rfl ?_
        exact ⟨rfl, Mr, Lr.idle, HJ.out, by rw [if_pos (.inr rfl)]; exact HE.out.1, HE.out.2⟩
      · have HE := Lib.hid (hend w8 1 Hm8.out T8.out)
        have e1 : (kd == 1) = false := by simp [hk1]
        have e2 : (kd == 2) = false := by simp [hk2]
        have Hn : Hid (¬ (kd = 1 ∨ kd = 2)) := fun h => h.elim hk1 hk2
        clear hend hb0 hne hk1 hk2
        go_wp2
        refine bodyPost_ret (v := .agg #[.int .i64 kd, .int .i64 (steps resA)]) (by simp [results, Tryz.results17, go_sem, b80, b81]) rfl ?_
        exact ⟨rfl, Mr, Lr.idle, HJ.out, by rw [if_neg Hn.out]; exact HE.out.1, HE.out.2⟩
end Go.Proofs.YtjfcbimbnpfdeaaGreat

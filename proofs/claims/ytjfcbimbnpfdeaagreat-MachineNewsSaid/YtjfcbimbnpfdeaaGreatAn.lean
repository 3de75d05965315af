/- known: the walk. -/
import Derived.Test.YtjfcbimbnpfdeaaGreatAm
namespace Go.Proofs.YtjfcbimbnpfdeaaGreat
open Go.RowKit

theorem ldW_k : ldW kIns kIns.length = rowsOf [kObj] := by rw [ldW_all, rowsOf_one]; rfl
/-- The machine that known has loaded, in general words. -/
theorem kMach {w w' : World} {gx g gg mb : Nat} {wv hv : Value} (hf : Fresh w gx g gg mb 64 16) (k : Kp (fun i => i = gx ∨ i = g) w w') (hl : Loaded1 w' gx g gg mb 64 16 kIns wv hv) (hn : ∀ b, wv.ownBlock = some b → w.heap.size ≤ b) :
    MachAt w' gx (kM (List.replicate 1024 1)) ⟨⟨g, mb, wv, hv, .slice none 0 0, .slice none 0 0⟩, .slice none 0 0, .slice none 0 0, .slice (some ⟨gg, 0, none⟩) 1024 1024, []⟩ := by
  have hgl := hf.glob.lt gg rfl
  obtain ⟨hg1, cur, hg2⟩ := hgl
  have ne1 : ¬ (gg = gx ∨ gg = g) := by
    intro e
    rcases e with e | e
    · subst e; have := hf.mac; rw [hg2] at this; injection this with this; injection this with _ this; cases this
    · subst e; have := hf.mem; rw [hg2] at this; injection this with this; injection this with _ this; cases this
  have ne2 : ¬ (mb = gx ∨ mb = g) := by
    intro e
    rcases e with e | e
    · subst e; have := hf.mac; rw [hf.map] at this; cases this
    · subst e; have := hf.mem; rw [hf.map] at this; cases this
  have hmap : MapIs w' mb := ⟨0, .map [], by omega, #[], 0, k.at_ hf.map ne2, ⟨by simp, Go.MapKept.stamped_empty 0, by simp⟩, by simp, rfl⟩
  refine ⟨hl.mac, rfl, ⟨hl.mem, ?_, hl.heads, Rw.nil _ _ _, Rw.nil _ _ _, hmap, apart_none _, apart_none _, kWf⟩, World.ownsRow_nil _ _ _ _, trivial, World.ownsRow_nil _ _ _ _, hf.glob.kp k (fun b hb => by cases hb; exact ne1), List.length_replicate, ?_⟩
  · have := hl.row
    rw [ldW_k] at this
    exact this
  · have a1 : apartV wv (.slice (some ⟨gg, 0, none⟩) 1024 1024) := fun b h1 h2 => by
      have h3 : b = gg := by cases h2; rfl
      have := hn _ h1; omega
    have a2 : apartV (.slice none 0 0) (.slice (some ⟨gg, 0, none⟩) 1024 1024) := fun b h1 => by cases h1
    simp only [List.pairwise_cons, List.mem_cons, List.not_mem_nil, or_false]
    exact ⟨fun a ha => by rcases ha with rfl | rfl; exact apart_none _; exact a1, fun a ha => by subst ha; exact a2, fun a ha => ha.elim, List.Pairwise.nil⟩

theorem natOf {x : Int} (h : 0 ≤ x) : ∃ n : Nat, x = n := ⟨x.toNat, by omega⟩
theorem insV_W {x : Int} (h : chk (dOp x) (dA x) (dB x) (dC x) (dN x) = 0) : ∃ a b c : Nat, a < 16 ∧ b < 16 ∧ c < 16 ∧ dA x = a ∧ dB x = b ∧ dC x = c ∧ insV x = insW (dOp x) a b c (dN x) := by
  obtain ⟨_, ⟨a0, a1⟩, ⟨b0, b1⟩, ⟨c0, c1⟩, _⟩ := chk_bd h
  obtain ⟨a, ha⟩ := natOf a0
  obtain ⟨b, hb⟩ := natOf b0
  obtain ⟨c, hc⟩ := natOf c0
  exact ⟨a, b, c, by omega, by omega, by omega, ha, hb, hc, by unfold insV insW; rw [ha, hb, hc]⟩
theorem wToInt_5 : wToInt (wInt 5) = 5 := by decide +kernel
theorem wToInt_7 : wToInt (wInt (-7)) = -7 := by decide +kernel
theorem w63_35 : w63 (5 * -7) = -35 := by decide +kernel

/-- One step of known's run. -/
theorem kStep (gl : List Int) (W : World) (gx : Nat) (M : MS) (L : ML) (A : Nat × Int) (h : MachAt W gx M L) (hI : kI gl M A) :
    Calls Tryz.prog 44 #[.pointer (some ⟨gx, 0, none⟩)] W fun e w' => e = .returned (.int .i64 (kSt A).2) ∧ MachIs (if (kSt A).2 = 0 then kI gl else kJ gl) W gx L w' (kSt A).1 := by
  obtain ⟨i, s⟩ := A
  obtain ⟨h1, h2, h3, hM⟩ := hI
  dsimp only at h1 h2 h3 hM
  obtain ⟨x, hat, hx⟩ := kAt gl i h1 s
  rw [← hM] at hat
  obtain ⟨g, cap, hv⟩ : ∃ g cap, L.fv = .slice (some ⟨g, 0, none⟩) (([] : List Fr).length + 1) cap := by
    obtain ⟨g, cap, e, _⟩ := own_cell h.fr (by rw [hat.frames]; simp)
    rw [hat.frames] at e
    exact ⟨g, cap, e⟩
  obtain ⟨a, b, c, ha, hb, hc, ea, eb, ec, eI⟩ := insV_W hat.ok
  refine h.step_to [] ⟨2, i, []⟩ 0 kObj i x hat g cap hv _ _ ?_
  intro W1 h1' t1
  rw [eI]
  have hcase : i = 0 ∨ i = 1 ∨ i = 2 ∨ i = 3 := by omega
  rcases hcase with rfl | rfl | rfl | rfl
  · have e0 : (⟨1, 2, 0, 0, 5⟩ : Ins) = ⟨dOp x, dA x, dB x, dC x, dN x⟩ := Option.some.inj hx
    injection e0 with o1 o2 o3 o4 o5
    rw [← o1, ← o5]
    obtain rfl : a = 2 := by omega
    refine (h1'.move_int 2 b c 5 _ _ (by omega)).mono ?_
    rintro e w' ⟨rfl, hm, t⟩
    refine ⟨rfl, _, _, hm, ?_, t1.trans t⟩
    rw [if_pos (show (kSt (0, s)).2 = 0 from rfl)]
    exact ⟨by show _ + 1 ≤ 3; omega, h2, h3, by rw [hM]; rfl⟩
  · have e0 : (⟨1, 3, 0, 0, -7⟩ : Ins) = ⟨dOp x, dA x, dB x, dC x, dN x⟩ := Option.some.inj hx
    injection e0 with o1 o2 o3 o4 o5
    rw [← o1, ← o5]
    obtain rfl : a = 3 := by omega
    refine (h1'.move_int 3 b c (-7) _ _ (by omega)).mono ?_
    rintro e w' ⟨rfl, hm, t⟩
    refine ⟨rfl, _, _, hm, ?_, t1.trans t⟩
    rw [if_pos (show (kSt (1, s)).2 = 0 from rfl)]
    exact ⟨by show _ + 1 ≤ 3; omega, h2, h3, by rw [hM]; rfl⟩
  · have e0 : (⟨9, 2, 2, 3, 0⟩ : Ins) = ⟨dOp x, dA x, dB x, dC x, dN x⟩ := Option.some.inj hx
    injection e0 with o1 o2 o3 o4 o5
    rw [← o1]
    obtain rfl : a = 2 := by omega
    obtain rfl : b = 2 := by omega
    obtain rfl : c = 3 := by omega
    have r2 : M.regs.getD 2 0 = wInt 5 := by rw [hM]; rfl
    have r3 : M.regs.getD 3 0 = wInt (-7) := by rw [hM]; rfl
    refine (h1'.reck_mul 2 2 3 (dN x) (by omega) (by omega) (by omega) (by show isW (M.regs.getD 2 0); rw [r2]; exact wInt_is _) (by show wIsInt (M.regs.getD 2 0) = true; rw [r2]; decide +kernel) (by show isW (M.regs.getD 3 0); rw [r3]; exact wInt_is _) (by show wIsInt (M.regs.getD 3 0) = true; rw [r3]; decide +kernel)).mono ?_
    rintro e w' ⟨rfl, hm, t⟩
    refine ⟨rfl, _, _, hm, ?_, t1.trans t⟩
    rw [if_pos (show (kSt (2, s)).2 = 0 from rfl)]
    refine ⟨by show 2 + 1 ≤ 3; omega, h2, h3, ?_⟩
    show ({ M with frames := _, regs := M.regs.set 2 (wInt (w63 (wToInt (M.regs.getD 2 0) * wToInt (M.regs.getD 3 0)))) } : MS) = _
    rw [r2, r3, wToInt_5, wToInt_7, w63_35, hM]
    rfl
  · have e0 : (⟨28, 2, 0, 0, 0⟩ : Ins) = ⟨dOp x, dA x, dB x, dC x, dN x⟩ := Option.some.inj hx
    injection e0 with o1 o2 o3 o4 o5
    rw [← o1]
    obtain rfl : a = 2 := by omega
    refine (h1'.return_last 2 b c (dN x) _ (by omega) hb ⟨2, ((3 : Nat) : Int) + 1, []⟩ rfl (by rw [hM]; rfl) (by rw [hM]; exact Nat.zero_le _) (by rw [hM]; show (3 : Int) + 0 + 0 ≤ 3; decide) (by rw [hM]; show (3 : Int) ≤ 100000000; decide)).mono ?_
    rintro e w' ⟨rfl, L', hm, t⟩
    refine ⟨rfl, _, _, hm, ?_, t1.trans t⟩
    rw [if_neg (by show ¬ (1 : Int) = 0; decide)]
    exact ⟨by rw [hM]; rfl, by rw [hM]; rfl, fun _ => by rw [hM]; rfl⟩
end Go.Proofs.YtjfcbimbnpfdeaaGreat

/- New frames, new handlers; idle in general. -/
import Derived.Test.YtjfcbimbnpfdeaaGreatAj
namespace Go.Proofs.YtjfcbimbnpfdeaaGreat
open Go.RowKit

theorem MachAt.newFrames {w : World} {gx : Nat} {M : MS} {L : ML} (h : MachAt w gx M L) (fv : Value) (fs : List Fr) (svs : List Value) (hr : w.ownsRow 0 97 3 fv fs.length (frCells fs svs)) (hs : SlotsAt w fs svs) (ha : (L.m.wv :: L.m.ov :: L.gv :: svs).Pairwise apartV) :
    MachAt (w.setCell ⟨gx, 18, none⟩ fv) gx { M with frames := fs } { L with fv := fv, svs := svs } := by
  have k : Kp (fun i => i = gx) w (w.setCell ⟨gx, 18, none⟩ fv) := (Kp.refl (fun i => i = gx) w).setCell (p := ⟨gx, 18, none⟩) (.inl rfl) _
  have hb := heap_setCell_same w gx 18 _ 94 fv h.mac
  rw [mac_setF h.r16] at hb
  refine ⟨hb, h.r16, ?_, ?_, ?_, ?_, ?_, h.g1024, ha⟩
  · exact h.mem.kp k (fun i hi e => by subst e; exact h.mem.off h.mac (by decide) (by decide) (by decide) hi)
  · exact own_kp hr k (fun b hb => by obtain ⟨_, cur, hc⟩ := own_at hr b hb; exact h.off hc (by decide))
  · exact SlotsAt.kp k hs (fun s hs' b hb => by obtain ⟨xs, hx⟩ := hs.row s hs'; obtain ⟨_, cur, hc⟩ := hx.lt b hb; exact h.off hc (by decide))
  · exact own_kp h.hd k (fun b hb => by obtain ⟨_, cur, hc⟩ := own_at h.hd b hb; exact h.off hc (by decide))
  · exact h.gl.kp k (fun b hb => by obtain ⟨_, cur, hc⟩ := h.gl.lt b hb; exact h.off hc (by decide))
theorem MachAt.newHands {w : World} {gx : Nat} {M : MS} {L : ML} (h : MachAt w gx M L) (kv : Value) (hs : List (Int × Int)) (hr : w.ownsRow 0 182 2 kv hs.length (hdCells hs)) :
    MachAt (w.setCell ⟨gx, 19, none⟩ kv) gx { M with hands := hs } { L with kv := kv } := by
  have k : Kp (fun i => i = gx) w (w.setCell ⟨gx, 19, none⟩ kv) := (Kp.refl (fun i => i = gx) w).setCell (p := ⟨gx, 19, none⟩) (.inl rfl) _
  have hb := heap_setCell_same w gx 19 _ 94 kv h.mac
  rw [mac_setK h.r16] at hb
  refine ⟨hb, h.r16, ?_, ?_, ?_, ?_, ?_, h.g1024, h.apart⟩
  · exact h.mem.kp k (fun i hi e => by subst e; exact h.mem.off h.mac (by decide) (by decide) (by decide) hi)
  · exact own_kp h.fr k (fun b hb => by obtain ⟨_, cur, hc⟩ := own_at h.fr b hb; exact h.off hc (by decide))
  · exact SlotsAt.kp k h.slots (fun s hs' b hb => by obtain ⟨xs, hx⟩ := h.slots.row s hs'; obtain ⟨_, cur, hc⟩ := hx.lt b hb; exact h.off hc (by decide))
  · exact own_kp hr k (fun b hb => by obtain ⟨_, cur, hc⟩ := own_at hr b hb; exact h.off hc (by decide))
  · exact h.gl.kp k (fun b hb => by obtain ⟨_, cur, hc⟩ := h.gl.lt b hb; exact h.off hc (by decide))

def MS.idle (M : MS) : MS := { M with regs := ones, frames := [], hands := [], used := 0, value := 1 }
def ML.idle (L : ML) : ML := { L with fv := .slice none 0 0, kv := .slice none 0 0, svs := [] }
theorem ML.idle_own {L : ML} {gx : Nat} : ∀ i, L.idle.own gx i → L.own gx i := by
  intro i hi
  rcases hi with hi | hi | hi | hi | hi | ⟨s, hs, hi⟩
  · exact .inl hi
  · exact .inr (.inl hi)
  · cases hi
  · cases hi
  · exact .inr (.inr (.inr (.inr (.inl hi))))
  · cases hs
theorem MachAt.idle_is {w : World} {gx : Nat} {M : MS} {L : ML} (h : MachAt w gx M L) (he : (M.entry == 0) = false) :
    Calls Tryz.prog 43 #[.pointer (some ⟨gx, 0, none⟩)] w fun e w' => e = .returned (.tuple #[]) ∧ MachAt w' gx M.idle L.idle ∧ Turned w w' (L.own gx) (L.idle.own gx) := by
  refine (machineIdle gx L.m.g M.stack M.regs L.fv L.kv L.gv M.entry M.value M.used M.budget M.steps w h.r16 he h.mac).mono ?_
  rintro e w' ⟨rfl, hm, k⟩
  refine ⟨rfl, ⟨hm, rfl, ?_, World.ownsRow_nil _ _ _ _, trivial, World.ownsRow_nil _ _ _ _, ?_, h.g1024, ?_⟩, ⟨k.mono (fun i hi => .inl (.inl hi)), fun i hi => .inl (ML.idle_own i hi)⟩⟩
  · exact h.mem.kp k (fun i hi e => by subst e; exact h.mem.off h.mac (by decide) (by decide) (by decide) hi)
  · exact h.gl.kp k (fun b hb => by obtain ⟨_, cur, hc⟩ := h.gl.lt b hb; exact h.off hc (by decide))
  · exact h.apart.sublist (List.Sublist.cons_cons _ (List.Sublist.cons_cons _ (List.Sublist.cons_cons _ (List.nil_sublist _))))

/-- As a run begins. -/
def MS.begin (M : MS) (budget : Int) : MS := { M.idle with frames := [⟨M.entry, 0, []⟩], used := 3, budget := budget, steps := 0 }

end Go.Proofs.YtjfcbimbnpfdeaaGreat

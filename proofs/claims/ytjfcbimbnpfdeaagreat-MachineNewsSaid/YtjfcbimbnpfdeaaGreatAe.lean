/- drop: the frames behind so many go. -/
import Derived.Test.YtjfcbimbnpfdeaaGreatAd
namespace Go.Proofs.YtjfcbimbnpfdeaaGreat
open Go.RowKit

def fsz : List Fr → Int
  | [] => 0
  | f :: l => 3 + (f.slots.length : Int) + fsz l
theorem fsz_nn : ∀ l, 0 ≤ fsz l
  | [] => by simp [fsz]
  | f :: l => by have := fsz_nn l; simp [fsz]; omega
theorem fsz_app : ∀ l k, fsz (l ++ k) = fsz l + fsz k
  | [], k => by simp [fsz]
  | f :: l, k => by simp only [List.cons_append, fsz]; rw [fsz_app l k]; omega
theorem fsz_take_le (l : List Fr) (i : Nat) : fsz (l.take i) ≤ fsz l := by
  have h := fsz_app (l.take i) (l.drop i)
  rw [List.take_append_drop] at h
  have := fsz_nn (l.drop i); omega
theorem fsz_take_succ (l : List Fr) (i : Nat) (f : Fr) (h : l[i]? = some f) : fsz (l.take (i + 1)) = fsz (l.take i) + (3 + (f.slots.length : Int)) := by
  have hi : i < l.length := (List.getElem?_eq_some_iff.1 h).1
  rw [List.take_add_one, h, fsz_app]
  simp [fsz]
theorem fsz_drop_le (l : List Fr) (i : Nat) : fsz (l.drop i) ≤ fsz l := by
  have h := fsz_app (l.take i) (l.drop i)
  rw [List.take_append_drop] at h
  have := fsz_nn (l.take i); omega
theorem fsz_len : ∀ l, 3 * (l.length : Int) ≤ fsz l
  | [] => by simp [fsz]
  | f :: l => by have := fsz_len l; simp [fsz]; omega
theorem frCells_get : ∀ (l : List Fr) (t : List Value) (j : Nat) (f : Fr) (s : Value), l[j]? = some f → t[j]? = some s →
    (frCells l t)[j * 3]? = some (.int .u64 f.code) ∧ (frCells l t)[j * 3 + 1]? = some (.int .i64 f.at_) ∧ (frCells l t)[j * 3 + 2]? = some s
  | [], _, _, _, _, h, _ => by simp at h
  | _ :: _, [], _, _, _, _, h => by simp at h
  | g :: l, u :: t, 0, f, s, h, k => by simp at h k; subst h; subst k; exact ⟨rfl, rfl, rfl⟩
  | g :: l, u :: t, j + 1, f, s, h, k => by
    have := frCells_get l t j f s (by simpa using h) (by simpa using k)
    rw [show (j + 1) * 3 = j * 3 + 1 + 1 + 1 by omega]
    simp only [frCells, List.getElem?_cons_succ]
    exact this
theorem frCells_take : ∀ (l : List Fr) (t : List Value) (n : Nat), frCells (l.take n) (t.take n) = (frCells l t).take (n * 3)
  | [], t, n => by simp [frCells]
  | f :: l, [], n => by cases n <;> simp [frCells]
  | f :: l, s :: t, 0 => by simp [frCells]
  | f :: l, s :: t, n + 1 => by
    rw [show (n + 1) * 3 = n * 3 + 1 + 1 + 1 by omega]
    simp only [frCells, List.take_succ_cons]
    rw [frCells_take l t n]
theorem frCells_len : ∀ (l : List Fr) (t : List Value), t.length = l.length → (frCells l t).length = l.length * 3
  | [], t, h => by simp [frCells]
  | f :: l, [], h => by simp at h
  | f :: l, s :: t, h => by simp only [frCells, List.length_cons]; rw [frCells_len l t (by simpa using h)]; omega
theorem SlotsAt.take {w : World} : ∀ {l : List Fr} {t : List Value}, SlotsAt w l t → ∀ n, SlotsAt w (l.take n) (t.take n)
  | [], [], _, n => by simp [SlotsAt]
  | f :: l, s :: t, h, 0 => by simp [SlotsAt]
  | f :: l, s :: t, h, n + 1 => ⟨h.1, SlotsAt.take h.2 n⟩
  | [], _ :: _, h, _ => h.elim
  | _ :: _, [], h, _ => h.elim
theorem SlotsAt.get {w : World} : ∀ {l : List Fr} {t : List Value}, SlotsAt w l t → ∀ (j : Nat) (f : Fr) (s : Value), l[j]? = some f → t[j]? = some s → Rw w 51 .u64 s f.slots
  | [], [], _, j, f, s, h, _ => by simp at h
  | f :: l, s :: t, h, j, g, u, h1, h2 => by
    cases j with
    | zero => simp at h1 h2; subst h1; subst h2; exact h.1
    | succ j => exact SlotsAt.get h.2 j g u (by simpa using h1) (by simpa using h2)
  | [], _ :: _, h, _, _, _, _, _ => h.elim
  | _ :: _, [], h, _, _, _, _, _ => h.elim
theorem own_take {w : World} {n : Nat} {e : TypeId} {z : Nat} {g cap l : Nat} {xs : List Value} (h : w.ownsRow n e z (.slice (some ⟨g, 0, none⟩) l cap) l xs) (k : Nat) (hk : k ≤ l) :
    w.ownsRow n e z (.slice (some ⟨g, 0, none⟩) k cap) k (xs.take (k * z)) := by
  rcases h with ⟨h0, ⟨h1, h2⟩ | ⟨g', cap', cur, h1, h3, h4, h5, h6, h7, h8⟩⟩
  · cases h1
  · cases h1
    have hz : k * z ≤ l * z := Nat.mul_le_mul_right z hk
    refine ⟨by rw [List.length_take, h0, Nat.min_eq_left hz], .inr ⟨g, cap, cur, rfl, h3, h4, by omega, h6, h7, ?_⟩⟩
    rw [← h8, List.take_take, Nat.min_eq_left hz]

/-- The frames' slice turns: to fewer frames of the same row. -/
theorem MachAt.takeF {w : World} {gx : Nat} {M : MS} {L : ML} (h : MachAt w gx M L) (g cap n : Nat) (hv : L.fv = .slice (some ⟨g, 0, none⟩) M.frames.length cap) (hn : n ≤ M.frames.length) :
    MachAt (w.setCell ⟨gx, 18, none⟩ (.slice (some ⟨g, 0, none⟩) n cap)) gx { M with frames := M.frames.take n } { L with fv := .slice (some ⟨g, 0, none⟩) n cap, svs := L.svs.take n } := by
  have k : Kp (fun i => i = gx) w (w.setCell ⟨gx, 18, none⟩ (.slice (some ⟨g, 0, none⟩) n cap)) := (Kp.refl (fun i => i = gx) w).setCell (p := ⟨gx, 18, none⟩) (.inl rfl) _
  have hb := heap_setCell_same w gx 18 _ 94 (.slice (some ⟨g, 0, none⟩) n cap) h.mac
  rw [mac_setF h.r16] at hb
  have ne : ∀ {b : Nat} {cur : Array Value} {t : TypeId}, w.heap[b]? = some (.cells cur t (0, 0)) → t ≠ 94 → ¬ b = gx := by
    intro b cur t hb2 ht e
    subst e
    have := h.mac; rw [hb2] at this; injection this with this; injection this with _ this; exact ht this
  have hfr := h.fr
  rw [hv] at hfr
  refine ⟨hb, h.r16, ?_, ?_, ?_, ?_, ?_, h.g1024, ?_⟩
  · exact h.mem.kp k (fun i hi e => by subst e; exact h.mem.off h.mac (by decide) (by decide) (by decide) hi)
  · have := own_take hfr n hn
    rw [← frCells_take] at this
    rw [List.length_take, Nat.min_eq_left hn]
    exact own_kp this k (fun b hb => by cases hb; obtain ⟨_, cur, hc⟩ := own_at hfr g rfl; exact ne hc (by decide))
  · exact SlotsAt.kp k (h.slots.take n) (fun s hs b hb => by obtain ⟨xs, hx⟩ := h.slots.row s (List.mem_of_mem_take hs); obtain ⟨_, cur, hc⟩ := hx.lt b hb; exact ne hc (by decide))
  · exact own_kp h.hd k (fun b hb => by obtain ⟨_, cur, hc⟩ := own_at h.hd b hb; exact ne hc (by decide))
  · exact h.gl.kp k (fun b hb => by obtain ⟨_, cur, hc⟩ := h.gl.lt b hb; exact ne hc (by decide))
  · have hs : (L.m.wv :: L.m.ov :: L.gv :: L.svs.take n).Sublist (L.m.wv :: L.m.ov :: L.gv :: L.svs) := by
      refine List.Sublist.cons_cons _ (List.Sublist.cons_cons _ (List.Sublist.cons_cons _ (List.take_sublist _ _)))
    exact h.apart.sublist hs

def MS.drop (M : MS) (n : Nat) : MS := { M with frames := M.frames.take n, used := M.used - fsz (M.frames.drop n) }

set_option maxRecDepth 100000 in
set_option maxHeartbeats 2000000 in
theorem MachAt.drop_is {w : World} {gx : Nat} {M : MS} {L : ML} (h : MachAt w gx M L) (n : Nat) (hn : n ≤ M.frames.length) (hp : 0 < M.frames.length) (hu : fsz M.frames ≤ M.used) (hu2 : M.used ≤ 100000000) :
    Calls Tryz.prog 122 #[.pointer (some ⟨gx, 0, none⟩), .int .i64 n] w fun e w' => e = .returned (.tuple #[]) ∧ ∃ L', MachAt w' gx (M.drop n) L' ∧ Turned w w' (L.own gx) (L'.own gx) := by
  obtain ⟨g, cap, hfv, hc1, hc2, hcell, -, hgl⟩ := own_cell h.fr hp
  obtain ⟨len, hlen⟩ : ∃ len, len = M.frames.length := ⟨_, rfl⟩
  have hl5 := fsz_len M.frames
  have hll : len ≤ 100000000 := by omega
  have c18 := h.c18
  rw [hfv, ← hlen] at c18
  rw [← hlen] at hn hp hc1
  have Hh := Lib.hid h
  have Hfv := Lib.hid hfv
  have Hcell := Lib.hid hcell
  have Hlen := Lib.hid hlen
  have K0 := Lib.hid (Kp.refl (fun i => i = gx) w)
  clear h hfv hcell hlen
  have hfin : ∀ W, MachAt W gx { M with used := M.used - fsz (M.frames.drop n) } L → MachAt (W.setCell ⟨gx, 18, none⟩ (.slice (some ⟨g, 0, none⟩) n cap)) gx (M.drop n) { L with fv := .slice (some ⟨g, 0, none⟩) n cap, svs := L.svs.take n } ∧ Turned W (W.setCell ⟨gx, 18, none⟩ (.slice (some ⟨g, 0, none⟩) n cap)) (L.own gx) (({ L with fv := .slice (some ⟨g, 0, none⟩) n cap, svs := L.svs.take n } : ML).own gx) := fun W hW => by
    have h1 := hW.takeF g cap n Hfv.out (by have := Hlen.out; show n ≤ M.frames.length; omega)
    refine ⟨h1, ⟨(Kp.refl _ W).setCell (p := ⟨gx, 18, none⟩) (.inl (.inl rfl)) _, fun i hi => .inl ?_⟩⟩
    rcases hi with hi | hi | hi | hi | hi | ⟨s, hs, hi⟩
    · exact .inl hi
    · exact .inr (.inl hi)
    · refine .inr (.inr (.inl ?_)); rw [Hfv.out]; exact hi
    · exact .inr (.inr (.inr (.inl hi)))
    · exact .inr (.inr (.inr (.inr (.inl hi))))
    · exact .inr (.inr (.inr (.inr (.inr ⟨s, List.mem_of_mem_take hs, hi⟩))))
  have Hfin := Lib.hid hfin
  clear hfin
  have Hu0 := Lib.hid (show M.used - fsz ((M.frames.drop n).take 0) = M.used by simp [fsz])
  have hm0 := Lib.hid (show MachAt w gx { M with used := M.used - fsz ((M.frames.drop n).take 0) } L by rw [Hu0.out]; exact Hh.out)
  by_cases hcap : cap = n
  · have hln : len = n := by omega
    subst hcap
    subst hln
    have hall : fsz (M.frames.drop len) = 0 := by rw [List.drop_eq_nil_of_le (by have := Hlen.out; omega)]; rfl
    have hF := Lib.hid (Hfin.out w (by rw [hall, Int.sub_zero]; exact Hh.out))
    have f18 := Hh.out.fz 18
    clear hm0 Hu0 Hfin hall
    go_enter Tryz.func122, Tryz.ntmps122
    go_wp2
    refine wp_loop_rounds 1 ?_
    rw [rounds_succ]
    go_wp2
    go_end0
    exact ⟨rfl, _, hF.out.1, hF.out.2⟩
  · have hne : ¬ n = cap := fun e => hcap e.symm
    go_enter Tryz.func122, Tryz.ntmps122
    go_wp2
    go_loopw [13] (fun t wr => ∃ i : Nat, i ≤ len - n ∧ t = .int .i64 i ∧ MachAt wr gx { M with used := M.used - fsz ((M.frames.drop n).take i) } L ∧ Kp (fun i => i = gx) w wr) (fun t _ => (len - n) - (intOf t).toNat)
    case atStart => exact ⟨0, Nat.zero_le _, rfl, hm0.out, K0.out⟩
    case round =>
      clear hm0 K0 c18
      obtain ⟨i, hi, rfl, hm, hkp⟩ := hrel
      by_cases hlt : i < len - n
      · obtain ⟨f, hf⟩ : ∃ f, M.frames[n + i]? = some f := ⟨_, List.getElem?_eq_getElem (by have := Hlen.out; omega)⟩
        obtain ⟨s, hs⟩ : ∃ s, L.svs[n + i]? = some s := ⟨_, List.getElem?_eq_getElem (by have := Hlen.out; have := hm.slots.len; simp only at this; omega)⟩
        have hsr := hm.slots.get _ _ _ hf hs
        obtain ⟨A, sc, rfl, hsc, hsm⟩ := hsr.len
        have hfr := hm.fr
        rw [Hfv.out] at hfr
        obtain ⟨g', cap', e1, -, -, hcl, -, -⟩ := own_cell hfr (by have := Hlen.out; show 0 < M.frames.length; omega)
        obtain ⟨rfl, rfl⟩ : g' = g ∧ cap' = cap := by injection e1 with e1 _ e2; injection e1 with e1; injection e1 with e1; exact ⟨e1.symm, e2.symm⟩
        obtain ⟨y0, y1, y2⟩ := frCells_get _ _ _ _ _ hf hs
        have z0 := (hcl ((n + i) * 3) (by have := Hlen.out; show _ < M.frames.length * 3; omega)).trans y0
        have z1 := (hcl ((n + i) * 3 + 1) (by have := Hlen.out; show _ < M.frames.length * 3; omega)).trans y1
        have z2 := (hcl ((n + i) * 3 + 2) (by have := Hlen.out; show _ < M.frames.length * 3; omega)).trans y2
        rw [show (n + i) * 3 = n * 3 + i * 3 by omega] at z0 z1 z2
        have c23 := hm.c23
        have hd : (M.frames.drop n)[i]? = some f := by rw [List.getElem?_drop]; exact hf
        have hsuc := fsz_take_succ _ _ _ hd
        have hle := fsz_take_le (M.frames.drop n) (i + 1)
        have hle2 := fsz_drop_le M.frames n
        have hnn := fsz_nn ((M.frames.drop n).take i)
        obtain ⟨u, hu3⟩ : ∃ u, u = M.used - fsz ((M.frames.drop n).take i) := ⟨_, rfl⟩
        have hst : ∀ W, MachAt W gx { M with used := u } L → MachAt (W.setCell ⟨gx, 23, none⟩ (.int .i64 (u - (3 + (f.slots.length : Int))))) gx { M with used := M.used - fsz ((M.frames.drop n).take (i + 1)) } L := fun W hW => by
          have := hW.setUsed (u - (3 + (f.slots.length : Int)))
          rw [hsuc, show M.used - (fsz ((M.frames.drop n).take i) + (3 + (f.slots.length : Int))) = u - (3 + (f.slots.length : Int)) by omega]
          exact this
        have Hst := Lib.hid hst
        have b1 : 0 ≤ u - (3 + (f.slots.length : Int)) := by omega
        have b2 : u ≤ 100000000 := by omega
        simp only [← hu3] at c23 hm
        clear hst hcl e1 hsr hfr y0 y1 y2 hd hsuc hle hle2 hnn hu3 hf hs
        go_wp2
        obtain ⟨w1, hw1⟩ : ∃ w1, w1 = wr.alloc (.cells #[.int .u64 f.code, .int .i64 f.at_, .slice A f.slots.length sc] 97) := ⟨_, rfl⟩
        have k1 : Kp (fun _ => False) wr w1 := by rw [hw1]; exact (Kp.refl _ _).alloc _
        have d1 : w1.heap[wr.heap.size]? = some (.cells #[.int .u64 f.code, .int .i64 f.at_, .slice A f.slots.length sc] 97 (0, 0)) := by rw [hw1]; exact heap_alloc_new _ _
        rw [← hw1]
        clear hw1 c23 z0 z1 z2
        have hm1 := hm.still k1
        have c23 : w1.cell? ⟨gx, 23, none⟩ = some (.int .i64 u) := hm1.c23
        have x2 : w1.cell? ⟨wr.heap.size, 2, none⟩ = some (.slice A f.slots.length sc) := cell_of_row _ _ _ _ _ _ d1
        go_still_tail 11, (by kernel_rfl)
        change wpList _ _ _ _ _ w1.drew
        have hm2 : MachAt w1.drew gx { M with used := u } L := hm1.still ((Kp.refl _ _).drew)
        have k2 : Kp (fun i => i = gx) w w1.drew := (hkp.trans k1 (fun _ h => h.elim)).drew
        have f23 : w1.drew.frozen? ⟨gx, 23, none⟩ = false := hm2.fz 23
        have c23' : w1.drew.cell? ⟨gx, 23, none⟩ = some (.int .i64 u) := hm2.c23
        clear c23 x2 d1 hm1 hm hkp k1
        generalize w1.drew = w2 at *
        go_wp2
        go_roundw
        case rel => exact ⟨i + 1, by omega, by go_num, Hst.out _ hm2, k2.setCell (p := ⟨gx, 23, none⟩) (.inl rfl) _⟩
        case measure => simp [intOf]; omega
      · have hi2 : i = len - n := by omega
        rw [hi2, List.take_of_length_le (by have := Hlen.out; simp; omega)] at hm
        have c18 : wr.cell? ⟨gx, 18, none⟩ = some (.slice (some ⟨g, 0, none⟩) len cap) := by rw [hm.c18, Hfv.out, Hlen.out]
        have f18 := hm.fz 18
        have hF := Lib.hid (Hfin.out wr hm)
        clear Hfin hm
        go_wp2
        go_end0
        refine ⟨rfl, _, hF.out.1, ?_⟩
        exact (Turned.of_kp hkp (fun i hi => .inl (.inl hi))).trans hF.out.2
end Go.Proofs.YtjfcbimbnpfdeaaGreat

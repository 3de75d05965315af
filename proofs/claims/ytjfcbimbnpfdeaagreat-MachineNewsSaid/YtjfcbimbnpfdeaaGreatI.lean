/- Look, Load, Store at an object that is there. -/
import Derived.Test.YtjfcbimbnpfdeaaGreatH
namespace Go.Proofs.YtjfcbimbnpfdeaaGreat
open Go.RowKit

/-- What a half holds, as far as its objects are found. -/
structure MW (first : Int) (ws hs : List Int) : Prop where
  rises : rises hs
  hn : hs.length ≤ 1000000
  wn : ws.length ≤ 1000000
  f1 : 1 ≤ first
  f2 : first ≤ 1000000

/-- The object at first + d, of sz words, tg of them tagged. -/
structure OA (first : Int) (ws hs : List Int) (d : Nat) (kind : Int) (sz tg : Nat) : Prop where
  head : ∃ j, j < hs.length ∧ hs.getD j 0 = first + d
  ok : vh kind sz tg
  len : d + sz + 1 ≤ ws.length
  hd : ws.getD d 0 = hdr kind sz tg

theorem memAt_obj (g o : Nat) (first : Int) (wv hv : Value) (ws hs : List Int) (d : Nat) (kind : Int) (sz tg : Nat) (w : World) (a : Int) (ha : a = first + d)
    (hm : MW first ws hs) (ho : OA first ws hs d kind sz tg)
    (c0 : w.cell? ⟨g, o, none⟩ = some (.int .i64 first)) (c1 : w.cell? ⟨g, o + 1, none⟩ = some wv) (c2 : w.cell? ⟨g, o + 2, none⟩ = some hv)
    (hW : Rw w 51 .u64 wv ws) (hH : Rw w 3 .i64 hv hs) :
    Calls Tryz.prog 67 #[.pointer (some ⟨g, o, none⟩), .int .i64 a] w fun e w' =>
      (∃ gw cap, wv = .slice (some ⟨gw, 0, none⟩) ws.length cap ∧ e = .returned (.slice (some ⟨gw, d, none⟩) (sz + 1) (cap - d))) ∧ ∃ k, w' = w.drewN k := by
  subst ha
  obtain ⟨j, hj, hja⟩ := ho.head
  have h1 := ho.len
  have h2 := hm.wn
  have h3 := hm.f1
  have h4 := hm.f2
  have e : (first + (d : Int) - first).toNat = d := by omega
  refine (memAt_yes g o first (first + d) wv hv ws hs j kind sz tg w hm.rises hj hja hm.hn hm.wn ⟨h3, by omega⟩ (by omega) ho.ok (by omega) (by rw [e]; exact ho.hd) c0 c1 c2 hW hH).mono ?_
  rintro e' w' ⟨⟨gw, cap, h5, h6⟩, h7⟩
  refine ⟨⟨gw, cap, h5, ?_⟩, h7⟩
  rw [h6, e, show ((sz : Int) + 1).toNat = sz + 1 by omega]

theorem drewN_cell (w : World) (k : Nat) (a : Addr) : (w.drewN k).cell? a = w.cell? a := rfl

set_option maxHeartbeats 400000 in
theorem memLook (g : Nat) (size half first f2 : Int) (wv hv ov qv : Value) (mb : Nat) (ws hs : List Int) (d : Nat) (kind : Int) (sz tg : Nat) (w : World) (a : Int) (ha : a = first + d)
    (hm : MW first ws hs) (ho : OA first ws hs d kind sz tg)
    (h0 : w.heap[g]? = some (.cells (memCells size half first wv hv f2 ov qv mb) 129 (0, 0))) (hW : Rw w 51 .u64 wv ws) (hH : Rw w 3 .i64 hv hs) :
    Calls Tryz.prog 53 #[.pointer (some ⟨g, 0, none⟩), .int .i64 a] w fun e w' => e = .returned (.tuple #[.int .i64 kind, .int .i64 sz, .int .i64 tg, .int .i64 0]) ∧ ∃ k, w' = w.drewN k := by
  obtain ⟨gw, cw, hwv, hc1, hc2, hcell, hfr, hlt⟩ := hW.some_ (by have := ho.len; omega)
  have hcd := hcell d (by have := ho.len; omega)
  rw [ho.hd] at hcd
  clear hcell hfr
  have Hwv := Lib.hid hwv
  clear hwv
  have Hha := Lib.hid ha
  clear ha
  go_enter Tryz.func53, Tryz.ntmps53
  go_wp2_with fail
  refine (memAt_obj g 2 first wv hv ws hs d kind sz tg w a Hha.out hm ho (cell_of_row _ _ _ _ _ _ h0) (cell_of_row _ _ _ _ _ _ h0) (cell_of_row _ _ _ _ _ _ h0) hW hH).mono ?_
  rintro e w' ⟨⟨gw', cap', h1, rfl⟩, k, rfl⟩
  obtain ⟨rfl, rfl⟩ : gw' = gw ∧ cap' = cw := by rw [Hwv.out] at h1; injection h1 with h1 _ h2; injection h1 with h1; injection h1 with h1; exact ⟨h1.symm, h2.symm⟩
  clear h1 Hwv
  have hok := ho.ok
  have hneq := fun w a n c n' c' => Lib.run_eql_slice_nil (P := Tryz.prog) w 43 51 a n c n' c' Tryz.underlying43
  go_wp2_with (go_at_call 85; refine (memParts _ _ _ _ hok).mono ?_; rintro e w' ⟨rfl, rfl⟩)
  refine bodyPost_ret (results_tmp4 rfl _ _ _) rfl ?_
  exact ⟨rfl, _, rfl⟩

set_option maxHeartbeats 400000 in
theorem memLoad (g : Nat) (size half first f2 : Int) (wv hv ov qv : Value) (mb : Nat) (ws hs : List Int) (d : Nat) (kind : Int) (sz tg : Nat) (w : World) (a i : Int) (ha : a = first + d)
    (hi : 0 ≤ i ∧ i < sz) (hm : MW first ws hs) (ho : OA first ws hs d kind sz tg)
    (h0 : w.heap[g]? = some (.cells (memCells size half first wv hv f2 ov qv mb) 129 (0, 0))) (hW : Rw w 51 .u64 wv ws) (hH : Rw w 3 .i64 hv hs) :
    Calls Tryz.prog 54 #[.pointer (some ⟨g, 0, none⟩), .int .i64 a, .int .i64 i] w fun e w' => e = .returned (.tuple #[.int .u64 (ws.getD (d + 1 + i.toNat) 0), .int .i64 0]) ∧ ∃ k, w' = w.drewN k := by
  obtain ⟨hi0, hi1⟩ := hi
  obtain ⟨i, rfl⟩ := Int.eq_ofNat_of_zero_le hi0
  rw [Int.toNat_natCast]
  have hol := ho.len
  have hwn := hm.wn
  obtain ⟨gw, cw, hwv, hc1, hc2, hcell, hfr, hlt⟩ := hW.some_ (by omega)
  have hcd := hcell (d + 1 + i) (by omega)
  clear hcell hfr
  have Hwv := Lib.hid hwv
  clear hwv
  have Hha := Lib.hid ha
  clear ha
  go_enter Tryz.func54, Tryz.ntmps54
  go_wp2_with fail
  refine (memAt_obj g 2 first wv hv ws hs d kind sz tg w a Hha.out hm ho (cell_of_row _ _ _ _ _ _ h0) (cell_of_row _ _ _ _ _ _ h0) (cell_of_row _ _ _ _ _ _ h0) hW hH).mono ?_
  rintro e w' ⟨⟨gw', cap', h1, rfl⟩, k, rfl⟩
  obtain ⟨rfl, rfl⟩ : gw' = gw ∧ cap' = cw := by rw [Hwv.out] at h1; injection h1 with h1 _ h2; injection h1 with h1; injection h1 with h1; exact ⟨h1.symm, h2.symm⟩
  clear h1 Hwv
  have hcd' : w.cell? ⟨gw', d + (i + 1), none⟩ = some (.int .u64 (ws.getD (d + 1 + i) 0)) := by rw [show d + (i + 1) = d + 1 + i by omega]; exact hcd
  clear hcd
  go_wp2
  go_ret2
  exact ⟨rfl, _, rfl⟩

set_option maxHeartbeats 400000 in
theorem memStore (g : Nat) (size half first f2 : Int) (wv hv ov qv : Value) (mb : Nat) (ws hs : List Int) (d : Nat) (kind : Int) (sz tg : Nat) (w : World) (a i x : Int) (ha : a = first + d)
    (hi : 0 ≤ i ∧ i < sz) (hm : MW first ws hs) (ho : OA first ws hs d kind sz tg)
    (h0 : w.heap[g]? = some (.cells (memCells size half first wv hv f2 ov qv mb) 129 (0, 0))) (hW : Rw w 51 .u64 wv ws) (hH : Rw w 3 .i64 hv hs) :
    Calls Tryz.prog 36 #[.pointer (some ⟨g, 0, none⟩), .int .i64 a, .int .i64 i, .int .u64 x] w fun e w' => e = .returned (.int .i64 0) ∧
      w'.heap[g]? = some (.cells (memCells size half first wv hv f2 ov qv mb) 129 (0, 0)) ∧ Rw w' 51 .u64 wv (ws.set (d + 1 + i.toNat) x) ∧ Rw w' 3 .i64 hv hs ∧ Kp (fun i => wv.ownBlock = some i) w w' := by
  obtain ⟨hi0, hi1⟩ := hi
  obtain ⟨i, rfl⟩ := Int.eq_ofNat_of_zero_le hi0
  rw [Int.toNat_natCast]
  have hol := ho.len
  have hwn := hm.wn
  obtain ⟨gw, cw, rfl, hc1, hc2, hcell, hfr, hlt⟩ := hW.some_ (by omega)
  have hcd := hcell (d + 1 + i) (by omega)
  have hfd := hfr (d + 1 + i)
  clear hcell hfr
  have Hha := Lib.hid ha
  clear ha
  go_enter Tryz.func36, Tryz.ntmps36
  go_wp2_with fail
  refine (memAt_obj g 2 first _ hv ws hs d kind sz tg w a Hha.out hm ho (cell_of_row _ _ _ _ _ _ h0) (cell_of_row _ _ _ _ _ _ h0) (cell_of_row _ _ _ _ _ _ h0) hW hH).mono ?_
  rintro e w' ⟨⟨gw', cap', h1, rfl⟩, k, rfl⟩
  obtain ⟨rfl, rfl⟩ : gw' = gw ∧ cap' = cw := by injection h1 with h1 _ h2; injection h1 with h1; injection h1 with h1; exact ⟨h1.symm, h2.symm⟩
  clear h1
  have hcd' : w.cell? ⟨gw', d + (i + 1), none⟩ = some (.int .u64 (ws.getD (d + 1 + i) 0)) := by rw [show d + (i + 1) = d + 1 + i by omega]; exact hcd
  have hfd' : w.frozen? ⟨gw', d + (i + 1), none⟩ = false := by rw [show d + (i + 1) = d + 1 + i by omega]; exact hfd
  clear hcd hfd
  have k1 : Kp (fun i => (Value.slice (some ⟨gw', 0, none⟩) ws.length cap').ownBlock = some i) w ((w.drewN k).setCell ⟨gw', d + (i + 1), none⟩ (.int .u64 x)) := ((Kp.refl (fun i => (Value.slice (some ⟨gw', 0, none⟩) ws.length cap').ownBlock = some i) w).drewN k).setCell (p := ⟨gw', d + (i + 1), none⟩) (.inl rfl) _
  have r1 : Rw ((w.drewN k).setCell ⟨gw', d + (i + 1), none⟩ (.int .u64 x)) 51 .u64 (.slice (some ⟨gw', 0, none⟩) ws.length cap') (ws.set (d + 1 + i) x) := by
    rw [show d + (i + 1) = d + 1 + i by omega]
    exact Rw.set (w := w.drewN k) hW _ _
  have r2 := hH.kp k1 (fun b hb hb' => hW.apart hH (by decide) b hb' hb)
  have r3 := k1.at_ h0 (fun h => hW.off h0 (by decide) h)
  have K1 := Lib.hid k1
  clear k1 hW hH h0
  go_wp2
  go_ret
  exact ⟨rfl, r3, r1, r2, K1.out⟩
end Go.Proofs.YtjfcbimbnpfdeaaGreat

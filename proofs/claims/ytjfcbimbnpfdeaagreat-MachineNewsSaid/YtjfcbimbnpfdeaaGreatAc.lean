/- Look, Load, Store, object, field in general. -/
import Derived.Test.YtjfcbimbnpfdeaaGreatAb
namespace Go.Proofs.YtjfcbimbnpfdeaaGreat
open Go.RowKit

set_option maxRecDepth 100000 in
set_option maxHeartbeats 1000000 in
theorem memAt_no (g o : Nat) (a : Int) (hv : Value) (hs : List Int) (w : World)
    (hno : ∀ j, j < hs.length → hs.getD j 0 ≠ a) (hn : hs.length ≤ 1000000)
    (c2 : w.cell? ⟨g, o + 2, none⟩ = some hv)
    (hH : Rw w 3 .i64 hv hs) :
    Calls Tryz.prog 67 #[.pointer (some ⟨g, o, none⟩), .int .i64 a] w fun e w' => e = .returned (.slice none 0 0) ∧ ∃ k, w' = w.drewN k := by
  rcases Nat.eq_zero_or_pos hs.length with hz | hp
  · obtain ⟨A, c, rfl, -⟩ := hH.len
    rw [hz] at c2
    clear hH hno hn
    go_enter Tryz.func67, Tryz.ntmps67
    go_wp2
    go_step3
    go_wp2
    go_quiet (fail)
    go_wp2
    go_step3
    go_wp2
    go_loop [5, 6] (fun l h => l = .int .i64 0 ∧ h = .int .i64 0) (fun _ _ => 0)
    case atStart => exact ⟨rfl, rfl⟩
    case round =>
      obtain ⟨rfl, rfl⟩ := hrel
      go_wp2
      go_ret
      exact ⟨rfl, _, rfl⟩
  obtain ⟨gh, ch, rfl, hd1, hd2, hdell, hdfr, hdlt⟩ := hH.some_ hp
  have Hdell := Lib.hid hdell
  have Hno := Lib.hid hno
  clear hdell hno hdfr
  go_enter Tryz.func67, Tryz.ntmps67
  go_wp2
  go_step3
  go_wp2
  go_quiet (fail)
  go_wp2
  go_step3
  go_wp2
  go_loop [5, 6] (fun l h => ∃ lo hi : Nat, lo ≤ hi ∧ hi ≤ hs.length ∧ l = .int .i64 lo ∧ h = .int .i64 hi) (fun l h => (intOf h).toNat - (intOf l).toNat)
  case atStart => exact ⟨0, hs.length, Nat.zero_le _, Nat.le_refl _, rfl, rfl⟩
  case round =>
    obtain ⟨lo, hi, hl1, hl3, rfl, rfl⟩ := hrel
    by_cases hlt : lo < hi
    · obtain ⟨mid, hmid, hm1, hm2⟩ : ∃ mid : Nat, (((lo : Int) + hi) / 2) = (mid : Int) ∧ lo ≤ mid ∧ mid < hi := ⟨(lo + hi) / 2, by omega, by omega, by omega⟩
      obtain ⟨x, hx⟩ : ∃ x, hs.getD mid 0 = x := ⟨_, rfl⟩
      have hd : w.cell? ⟨gh, mid, none⟩ = some (.int .i64 x) := by rw [← hx]; exact Hdell.out mid (by omega)
      have hne : x ≠ a := by rw [← hx]; exact Hno.out mid (by omega)
      have hb : (x == a) = false := by simp [hne]
      clear hx hne
      have hbd : lo + hi ≤ 2000000 := by omega
      by_cases hlt2 : x < a
      · go_wp2
        go_round
        case rel => exact ⟨mid + 1, hi, by omega, by omega, by go_num, rfl⟩
        case measure => simp [intOf]; omega
      · go_wp2
        go_round
        case rel => exact ⟨lo, mid, by omega, by omega, rfl, by rw [hmid]⟩
        case measure => simp [intOf]; omega
    · go_wp2
      go_ret
      exact ⟨rfl, _, rfl⟩

def MemS.addr (m : MemS) (j : Nat) : Int := m.first + offOf m.objs j
def MemS.no (m : MemS) (a : Int) : Prop := ∀ j, j < m.objs.length → m.addr j ≠ a
theorem MemS.Wf.addr_pos {m : MemS} (h : m.Wf) (j : Nat) : 1 ≤ m.addr j := by have := h.first; unfold MemS.addr; omega
theorem MemS.Wf.addr_le {m : MemS} (h : m.Wf) (j : Nat) : m.addr j ≤ 131073 := by have := h.first; have := offOf_le m.objs j; have := h.fit; have := h.size; unfold MemS.addr; omega
theorem MemS.Wf.no0 {m : MemS} (h : m.Wf) : m.no 0 := fun j _ e => by have := h.addr_pos j; omega
theorem MemS.no_heads {m : MemS} {a : Int} (h : m.no a) : ∀ j, j < (headsOf m.first m.objs).length → (headsOf m.first m.objs).getD j 0 ≠ a := by
  intro j hj
  rw [headsOf_len] at hj
  rw [headsOf_get _ _ _ hj]
  exact h j hj

section
variable {w : World} {m : MemS} {L : MemL} (h : MemAt w m L)
include h

theorem MemAt.look_yes (j : Nat) (o : Ob) (ho : m.objs[j]? = some o) (a : Int) (ha : a = m.addr j) :
    Calls Tryz.prog 53 #[.pointer (some ⟨L.g, 0, none⟩), .int .i64 a] w fun e w' => e = .returned (.tuple #[.int .i64 o.kind, .int .i64 o.fs.length, .int .i64 o.tg, .int .i64 0]) ∧ ∃ k, w' = w.drewN k :=
  memLook L.g m.size m.half m.first m.ofirst L.wv L.hv L.ov L.qv L.mb _ _ (offOf m.objs j) o.kind o.fs.length o.tg w a ha h.wf.mw (oa_of _ _ _ _ ho (h.wf.ok o (List.mem_of_getElem? ho))) h.cells h.ws h.hs
theorem MemAt.load_yes (j : Nat) (o : Ob) (ho : m.objs[j]? = some o) (a i : Int) (ha : a = m.addr j) (hi : 0 ≤ i ∧ i < o.fs.length) :
    Calls Tryz.prog 54 #[.pointer (some ⟨L.g, 0, none⟩), .int .i64 a, .int .i64 i] w fun e w' => e = .returned (.tuple #[.int .u64 (o.fs.getD i.toNat 0), .int .i64 0]) ∧ ∃ k, w' = w.drewN k := by
  have := memLoad L.g m.size m.half m.first m.ofirst L.wv L.hv L.ov L.qv L.mb _ _ (offOf m.objs j) o.kind o.fs.length o.tg w a i ha hi h.wf.mw (oa_of _ _ _ _ ho (h.wf.ok o (List.mem_of_getElem? ho))) h.cells h.ws h.hs
  rw [rowsOf_field _ _ _ ho _ (by omega)] at this
  exact this
end
theorem Ob.set_ok {o : Ob} (h : o.ok) (i : Nat) (x : Int) : (o.set i x).ok := by
  unfold Ob.ok Ob.set at *
  simpa using h
theorem MemS.Wf.set {m : MemS} (h : m.Wf) (j : Nat) (o : Ob) (ho : m.objs[j]? = some o) (i : Nat) (x : Int) (hi : i < o.fs.length) : ({ m with objs := m.objs.set j (o.set i x) } : MemS).Wf := by
  refine ⟨h.size, h.half, fun p hp => ?_, h.ook, ?_, h.ofit⟩
  · rcases List.mem_or_eq_of_mem_set hp with h1 | h1
    · exact h.ok p h1
    · rw [h1]; exact Ob.set_ok (h.ok o (List.mem_of_getElem? ho)) i x
  · show ((rowsOf (m.objs.set j (o.set i x))).length : Int) ≤ m.size
    rw [← rowsOf_set _ _ _ ho _ _ hi, List.length_set]; exact h.fit
theorem MemAt.store_yes {w : World} {m : MemS} {L : MemL} (h : MemAt w m L) (j : Nat) (o : Ob) (ho : m.objs[j]? = some o) (a i x : Int) (ha : a = m.addr j) (hi : 0 ≤ i ∧ i < o.fs.length) :
    Calls Tryz.prog 36 #[.pointer (some ⟨L.g, 0, none⟩), .int .i64 a, .int .i64 i, .int .u64 x] w fun e w' => e = .returned (.int .i64 0) ∧ MemAt w' { m with objs := m.objs.set j (o.set i.toNat x) } L ∧ Kp (fun i => L.wv.ownBlock = some i) w w' := by
  refine (memStore L.g m.size m.half m.first m.ofirst L.wv L.hv L.ov L.qv L.mb _ _ (offOf m.objs j) o.kind o.fs.length o.tg w a i x ha hi h.wf.mw (oa_of _ _ _ _ ho (h.wf.ok o (List.mem_of_getElem? ho))) h.cells h.ws h.hs).mono ?_
  rintro e w' ⟨he, h1, h2, h3, h4⟩
  refine ⟨he, ⟨h1, ?_, ?_, h.ows.kp h4 (fun b hb hb' => h.apw b hb' hb), h.ohs.kp h4 (fun b hb hb' => h.ws.apart h.ohs (by decide) b hb' hb), h.map.kp h4 (fun hb => by obtain ⟨_, cur, hc⟩ := h.ws.lt _ hb; exact h.map.off hc rfl), h.apw, h.aph, h.wf.set j o ho i.toNat x (by omega)⟩, h4⟩
  · rw [← rowsOf_set _ _ _ ho _ _ (by omega)]; exact h2
  · have := headsOf_set m.first m.objs j o (o.set i.toNat x) ho (by simp [Ob.set])
    show Rw w' 3 .i64 L.hv (headsOf m.first (m.objs.set j (o.set i.toNat x)))
    rw [this]; exact h3

set_option maxHeartbeats 400000 in
theorem MemAt.look_no {w : World} {m : MemS} {L : MemL} (h : MemAt w m L) (a : Int) (ha : m.no a) :
    Calls Tryz.prog 53 #[.pointer (some ⟨L.g, 0, none⟩), .int .i64 a] w fun e w' => e = .returned (.tuple #[.int .i64 0, .int .i64 0, .int .i64 0, .int .i64 20]) ∧ ∃ k, w' = w.drewN k := by
  have Ha := Lib.hid (memAt_no L.g 2 a L.hv (headsOf m.first m.objs) w (MemS.no_heads ha) (by have := h.wf.mw.hn; exact this) (cell_of_row _ _ _ _ _ _ h.cells) h.hs)
  clear h ha
  have hneq := fun w a n c n' c' => Lib.run_eql_slice_nil (P := Tryz.prog) w 43 51 a n c n' c' Tryz.underlying43
  go_enter Tryz.func53, Tryz.ntmps53
  go_wp2_with fail
  refine Ha.out.mono ?_
  rintro e w' ⟨rfl, k, rfl⟩
  go_wp2
  refine bodyPost_ret (results_tmp4 rfl _ _ _) rfl ?_
  exact ⟨rfl, _, rfl⟩
end Go.Proofs.YtjfcbimbnpfdeaaGreat

/- The object at an address: at. -/
import Derived.Test.YtjfcbimbnpfdeaaGreatG
import Derived.Outline
import Derived.Deep.LoopGhost
namespace Go.Proofs.YtjfcbimbnpfdeaaGreat
open Go.RowKit

def rises (hs : List Int) : Prop := ∀ i j, i < j → j < hs.length → hs.getD i 0 < hs.getD j 0

set_option maxRecDepth 100000 in
set_option maxHeartbeats 1000000 in
theorem memAt_yes (g o : Nat) (first a : Int) (wv hv : Value) (ws hs : List Int) (j : Nat) (kind size tagged : Int) (w : World)
    (hr : rises hs) (hj : j < hs.length) (ha : hs.getD j 0 = a) (hn : hs.length ≤ 1000000) (hwn : ws.length ≤ 1000000)
    (h1 : 1 ≤ first ∧ first ≤ a) (h2 : a ≤ 10000000) (hv1 : vh kind size tagged) (hlen : a - first + size + 1 ≤ ws.length) (hh : ws.getD (a - first).toNat 0 = hdr kind size tagged)
    (c0 : w.cell? ⟨g, o, none⟩ = some (.int .i64 first)) (c1 : w.cell? ⟨g, o + 1, none⟩ = some wv) (c2 : w.cell? ⟨g, o + 2, none⟩ = some hv)
    (hW : Rw w 51 .u64 wv ws) (hH : Rw w 3 .i64 hv hs) :
    Calls Tryz.prog 67 #[.pointer (some ⟨g, o, none⟩), .int .i64 a] w fun e w' =>
      (∃ gw cap, wv = .slice (some ⟨gw, 0, none⟩) ws.length cap ∧ e = .returned (.slice (some ⟨gw, (a - first).toNat, none⟩) (size + 1).toNat (cap - (a - first).toNat))) ∧ ∃ k, w' = w.drewN k := by
  have hs0 := hv1.1.1
  have hs1 := hv1.1.2.1
  obtain ⟨gw, cw, rfl, hc1, hc2, hcell, hfr, hlt⟩ := hW.some_ (by omega)
  obtain ⟨gh, ch, rfl, hd1, hd2, hdell, hdfr, hdlt⟩ := hH.some_ (by omega)
  have Hcell := Lib.hid hcell
  have Hdell := Lib.hid hdell
  have Hfr := Lib.hid hfr
  have Hdfr := Lib.hid hdfr
  clear hcell hdell hfr hdfr
  have Ha := Lib.hid ha
  have Hh := Lib.hid hh
  have Hr := Lib.hid hr
  clear ha hh hr
  go_enter Tryz.func67, Tryz.ntmps67
  go_wp2
  go_step3
  go_wp2
  go_quiet (fail)
  go_wp2
  go_step3
  go_wp2
  go_loop [5, 6] (fun l h => ∃ lo hi : Nat, lo ≤ j ∧ j < hi ∧ hi ≤ hs.length ∧ l = .int .i64 lo ∧ h = .int .i64 hi) (fun l h => (intOf h).toNat - (intOf l).toNat)
  case atStart => exact ⟨0, hs.length, Nat.zero_le _, hj, Nat.le_refl _, rfl, rfl⟩
  case round =>
    obtain ⟨lo, hi, hl1, hl2, hl3, rfl, rfl⟩ := hrel
    obtain ⟨mid, hmid, hm1, hm2⟩ : ∃ mid : Nat, (((lo : Int) + hi) / 2) = (mid : Int) ∧ lo ≤ mid ∧ mid < hi := ⟨(lo + hi) / 2, by omega, by omega, by omega⟩
    obtain ⟨x, hx⟩ : ∃ x, hs.getD mid 0 = x := ⟨_, rfl⟩
    have hd : w.cell? ⟨gh, mid, none⟩ = some (.int .i64 x) := by rw [← hx]; exact Hdell.out mid (by omega)
    have Hx := Lib.hid hx
    clear hx
    have hbd : lo + hi ≤ 2000000 := by omega
    by_cases he : x = a
    · have hb : (x == a) = true := by simp [he]
      clear he
      obtain ⟨d, hd'⟩ : ∃ d : Nat, a - first = (d : Int) := ⟨(a - first).toNat, by omega⟩
      have hdl : d + 1 ≤ ws.length := by omega
      have Hd := Lib.hid hd'
      have hw0 : w.cell? ⟨gw, d, none⟩ = some (.int .u64 (hdr kind size tagged)) := by rw [← Hh.out, hd']; exact Hcell.out d (by omega)
      have hne : ¬ cw = d := by omega
      have hlen2 : (d : Int) + size + 1 ≤ ws.length := by omega
      have hcap : size + 1 ≤ ((cw - d : Nat) : Int) := by omega
      have hcap2 : ((cw - d : Nat) : Int) ≤ 9223372036854775807 := by omega
      have hcap3 : ws.length - d ≤ cw - d := by omega
      clear hlen
      go_wp2
      go_quiet (fail)
      go_wp2_with (go_at_call 85; refine (memParts _ _ _ _ hv1).mono ?_; rintro e w' ⟨rfl, rfl⟩)
      rw [Exit.noGoto_ret]
      go_ret
      refine ⟨⟨gw, cw, rfl, ?_⟩, _, rfl⟩
      rw [Hd.out]
      rfl
    · have hb : (x == a) = false := by simp [he]
      have Hx2 := Hx.out
      have Ha2 := Ha.out
      by_cases hlt2 : x < a
      · have hmj : mid < j := by
          rcases Nat.lt_or_ge mid j with h | h
          · exact h
          · exfalso
            rcases Nat.lt_or_eq_of_le h with h | h
            · have := Hr.out j mid h (by omega); omega
            · subst h; omega
        clear he Hx2 Ha2 hlen
        go_wp2
        go_round
        case rel => exact ⟨mid + 1, hi, by omega, by omega, by omega, by go_num, rfl⟩
        case measure => simp [intOf]; omega
      · have hmj : j < mid := by
          rcases Nat.lt_or_ge j mid with h | h
          · exact h
          · exfalso
            rcases Nat.lt_or_eq_of_le h with h | h
            · have := Hr.out mid j h (by omega); omega
            · subst h; omega
        clear he Hx2 Ha2 hlen
        go_wp2
        go_round
        case rel => exact ⟨lo, mid, by omega, by omega, by omega, rfl, by rw [hmid]⟩
        case measure => simp [intOf]; omega
end Go.Proofs.YtjfcbimbnpfdeaaGreat

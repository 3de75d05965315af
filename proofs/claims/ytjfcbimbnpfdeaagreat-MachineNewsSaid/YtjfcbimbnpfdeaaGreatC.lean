/- isa.Check, Encode, Decode for any instruction. -/
import Derived.Test.YtjfcbimbnpfdeaaGreatB
import Derived.Outline
namespace Go.Proofs.YtjfcbimbnpfdeaaGreat
open Go.RowKit

def okReg (f : Bool) (r : Int) : Bool := !f || (decide (0 ≤ r) && decide (r < 16))
def badReg (f : Bool) (r : Int) : Bool := !f && !(r == 0)
def badImm (f : Bool) (n : Int) : Bool := (f && (decide (n < -2147483648) || decide (2147483647 < n))) || (!f && !(n == 0))
def chkForm (fa fb fc fn : Bool) (a b c n : Int) : Int :=
  if okReg fa a && (okReg fb b && okReg fc c) then (if badReg fa a || badReg fb b || badReg fc c || badImm fn n then 1 else 0) else 31
def chk (op a b c n : Int) : Int :=
  if 1 ≤ op ∧ op ≤ 36 then chkForm (hasB (formOf op).data.toList 97) (hasB (formOf op).data.toList 98) (hasB (formOf op).data.toList 99) (hasB (formOf op).data.toList 110) a b c n else 30

def errB (b : Bool) : Value := .int .i64 (if b then 1 else 0)

theorem formOf_size (op : Int) : (formOf op).size ≤ 1000 := by
  unfold formOf
  repeat' split
  all_goals decide +kernel

def errK (fa fb fc : Bool) (a b c : Int) : Nat → Bool
  | 0 => false
  | 1 => badReg fa a
  | 2 => badReg fa a || badReg fb b
  | _ => badReg fa a || badReg fb b || badReg fc c
def okK (fa fb fc : Bool) (a b c : Int) : Nat → Bool
  | 0 => true
  | 1 => okReg fa a
  | 2 => okReg fa a && okReg fb b
  | _ => okReg fa a && okReg fb b && okReg fc c
theorem errB_eq {a b : Bool} (h : a = b) : errB a = errB b := by rw [h]
theorem chkForm_31 {fa fb fc fn : Bool} {a b c n : Int} (h : okK fa fb fc a b c 3 = false) : chkForm fa fb fc fn a b c n = 31 := by
  unfold chkForm
  simp only [okK] at h
  rw [if_neg]
  intro hh
  simp only [Bool.and_eq_true] at hh
  simp [hh] at h
theorem okK_mono {fa fb fc : Bool} {a b c : Int} {k : Nat} (hk : k ≤ 3) (h : okK fa fb fc a b c k = false) : okK fa fb fc a b c 3 = false := by
  have : k = 0 ∨ k = 1 ∨ k = 2 ∨ k = 3 := by omega
  rcases this with rfl | rfl | rfl | rfl <;> simp_all [okK]
theorem chkForm_ok {fa fb fc fn : Bool} {a b c n : Int} (h : okK fa fb fc a b c 3 = true) : chkForm fa fb fc fn a b c n = if (errK fa fb fc a b c 3 || badImm fn n) = true then 1 else 0 := by
  unfold chkForm
  simp only [okK, Bool.and_eq_true] at h
  rw [if_pos (by simp [h])]
  simp only [errK]
theorem finC {E : Bool} {n : Int} (hz : (n != 0) = false) : (if E = true then (1 : Int) else 0) = if (E || badImm false n) = true then 1 else 0 := by
  have hz' : n = 0 := by simpa using hz
  subst hz'
  cases E <;> simp [badImm]
theorem finD {E : Bool} {n : Int} (g1 : ¬ n < -2147483648) (g2 : ¬ 2147483647 < n) : (if E = true then (1 : Int) else 0) = if (E || badImm true n) = true then 1 else 0 := by
  cases E <;> simp [badImm, g1, g2]
theorem idx0 (a b c : Value) (w : World) : (Instr.index 184 (.agg #[a, b, c]) (.int .i64 0)).run Tryz.prog w = .ok a w := by kernel_rfl
theorem idx1 (a b c : Value) (w : World) : (Instr.index 184 (.agg #[a, b, c]) (.int .i64 1)).run Tryz.prog w = .ok b w := by kernel_rfl
theorem idx2 (a b c : Value) (w : World) : (Instr.index 184 (.agg #[a, b, c]) (.int .i64 2)).run Tryz.prog w = .ok c w := by kernel_rfl

set_option maxRecDepth 100000 in
set_option maxHeartbeats 1000000 in
theorem isaCheck_in (op a b c n : Int) (w : World) (hop : 1 ≤ op ∧ op ≤ 36) :
    Calls Tryz.prog 83 #[.agg #[.int .i64 op, .int .i64 a, .int .i64 b, .int .i64 c, .int .i64 n]] w fun e w' => e = .returned (.int .i64 (chk op a b c n)) ∧ Below w.heap.size w w' := by
  obtain ⟨nm, hnm, hne⟩ := nameTab_some op hop
  have hfs := formOf_size op
  have hchk := Lib.hid (show chk op a b c n = chkForm (hasB (formOf op).data.toList 97) (hasB (formOf op).data.toList 98) (hasB (formOf op).data.toList 99) (hasB (formOf op).data.toList 110) a b c n by unfold chk; rw [if_pos hop])
  obtain ⟨fa, hfa⟩ : ∃ f, hasB (formOf op).data.toList 97 = f := ⟨_, rfl⟩
  obtain ⟨fb, hfb⟩ : ∃ f, hasB (formOf op).data.toList 98 = f := ⟨_, rfl⟩
  obtain ⟨fc, hfc⟩ : ∃ f, hasB (formOf op).data.toList 99 = f := ⟨_, rfl⟩
  obtain ⟨fn, hfn⟩ : ∃ f, hasB (formOf op).data.toList 110 = f := ⟨_, rfl⟩
  have Hfa := Lib.hid hfa
  have Hfb := Lib.hid hfb
  have Hfc := Lib.hid hfc
  have Hfn := Lib.hid hfn
  have Hnm := Lib.hid hnm
  clear hfa hfb hfc hfn hnm
  obtain ⟨s, hs⟩ : ∃ s, s = formOf op := ⟨_, rfl⟩
  have i0 := idx0 (.int .i64 a) (.int .i64 b) (.int .i64 c)
  have i1 := idx1 (.int .i64 a) (.int .i64 b) (.int .i64 c)
  have i2 := idx2 (.int .i64 a) (.int .i64 b) (.int .i64 c)
  go_enter Tryz.func83, Tryz.ntmps83
  go_wp2_with fail
  refine (isaName_any op nm _ hop Hnm.out).mono ?_
  rintro e w1 ⟨rfl, hb1⟩
  obtain ⟨hc, hf⟩ : (∀ o, w1.cell? ⟨w.heap.size, o, none⟩ = (w.alloc (.cells #[.int .i64 op, .int .i64 a, .int .i64 b, .int .i64 c, .int .i64 n] 62)).cell? ⟨w.heap.size, o, none⟩) ∧ True :=
    ⟨fun o => hb1.cell (p := ⟨w.heap.size, o, none⟩) (by simp), trivial⟩
  have c0 : w1.cell? ⟨w.heap.size, 0, none⟩ = some (.int .i64 op) := by rw [hc]; exact cell_of_row _ _ _ _ _ _ (heap_alloc_new w _)
  have c1 : w1.cell? ⟨w.heap.size, 1, none⟩ = some (.int .i64 a) := by rw [hc]; exact cell_of_row _ _ _ _ _ _ (heap_alloc_new w _)
  have c2 : w1.cell? ⟨w.heap.size, 2, none⟩ = some (.int .i64 b) := by rw [hc]; exact cell_of_row _ _ _ _ _ _ (heap_alloc_new w _)
  have c3 : w1.cell? ⟨w.heap.size, 3, none⟩ = some (.int .i64 c) := by rw [hc]; exact cell_of_row _ _ _ _ _ _ (heap_alloc_new w _)
  have c4 : w1.cell? ⟨w.heap.size, 4, none⟩ = some (.int .i64 n) := by rw [hc]; exact cell_of_row _ _ _ _ _ _ (heap_alloc_new w _)
  clear hc
  have hB1 : Below w.heap.size w w1 := (Below.refl _ _).alloc (Nat.le_refl _) _ |>.trans (hb1.mono (by simp))
  have hlt : w.heap.size < w1.heap.size := by have := hb1.size; simp at this; omega
  go_wp2_with fail
  refine (isaForm op hop _).mono ?_
  rintro e w2 ⟨rfl, hb2⟩
  have hB2 : Below w.heap.size w w2 := hB1.trans (hb2.mono (by omega))
  have d1 := (hb2.cell (p := ⟨w.heap.size, 1, none⟩) hlt).trans c1
  have d2 := (hb2.cell (p := ⟨w.heap.size, 2, none⟩) hlt).trans c2
  have d3 := (hb2.cell (p := ⟨w.heap.size, 3, none⟩) hlt).trans c3
  have d4 := (hb2.cell (p := ⟨w.heap.size, 4, none⟩) hlt).trans c4
  clear c0 c1 c2 c3 c4 hb1 hb2 hB1 hlt hf
  go_wp2_with fail
  go_loop [4, 21] (fun e i => ∃ k : Nat, k ≤ 3 ∧ i = .int .i64 k ∧ e = errB (errK fa fb fc a b c k) ∧ okK fa fb fc a b c k = true) (fun _ i => 3 - (intOf i).toNat)
  case atStart => exact ⟨0, by omega, rfl, rfl, rfl⟩
  case round =>
    obtain ⟨k, hk, rfl, rfl, hok⟩ := hrel
    have Hok := Lib.hid hok
    clear hok
    have hk4 : k = 0 ∨ k = 1 ∨ k = 2 ∨ k = 3 := by omega
    rcases hk4 with rfl | rfl | rfl | rfl
    · cases fa
      · by_cases hz : (a == 0) = true
        · go_wp2_with (go_at_call 125; refine (isaNames _ 97 _ hfs).mono ?_; rintro e w' ⟨rfl, rfl⟩; rw [Hfa.out])
          go_round
          case rel => exact ⟨1, by omega, by go_num, errB_eq (by have hz' := hz; simp at hz'; simp [errK, badReg, hz']), (by have := Hok.out; revert this; simp [okK, okReg])⟩
          case measure => simp [intOf]
        · have hz : (a == 0) = false := by simpa using hz
          go_wp2_with (go_at_call 125; refine (isaNames _ 97 _ hfs).mono ?_; rintro e w' ⟨rfl, rfl⟩; rw [Hfa.out])
          go_round
          case rel => exact ⟨1, by omega, by go_num, (show errB true = _ from errB_eq (by have hz' := hz; simp at hz'; simp [errK, badReg, hz'])), (by have := Hok.out; revert this; simp [okK, okReg])⟩
          case measure => simp [intOf]
      · by_cases h1 : a < 0
        · have Hno := Lib.hid (chkForm_31 (fn := fn) (n := n) (okK_mono (k := 1) (by omega) (show okK true fb fc a b c 1 = false by have h1' : ¬ 0 ≤ a := (by omega); simp [okK, okReg, h1'])))
          go_wp2_with (go_at_call 125; refine (isaNames _ 97 _ hfs).mono ?_; rintro e w' ⟨rfl, rfl⟩; rw [Hfa.out])
          go_ret
          exact ⟨ret_i64 (by rw [hchk.out, Hfa.out, Hfb.out, Hfc.out, Hfn.out, Hno.out]), hB2⟩
        · by_cases h2 : a < 16
          · go_wp2_with (go_at_call 125; refine (isaNames _ 97 _ hfs).mono ?_; rintro e w' ⟨rfl, rfl⟩; rw [Hfa.out])
            go_round
            case rel => exact ⟨1, by omega, by go_num, errB_eq (by simp [errK, badReg]), (by have := Hok.out; have h1' : 0 ≤ a := (by omega); revert this; simp [okK, okReg, h1', h2])⟩
            case measure => simp [intOf]
          · have Hno := Lib.hid (chkForm_31 (fn := fn) (n := n) (okK_mono (k := 1) (by omega) (show okK true fb fc a b c 1 = false by simp [okK, okReg, h2])))
            go_wp2_with (go_at_call 125; refine (isaNames _ 97 _ hfs).mono ?_; rintro e w' ⟨rfl, rfl⟩; rw [Hfa.out])
            go_ret
            exact ⟨ret_i64 (by rw [hchk.out, Hfa.out, Hfb.out, Hfc.out, Hfn.out, Hno.out]), hB2⟩
    · cases fb
      · by_cases hz : (b == 0) = true
        · go_wp2_with (go_at_call 125; refine (isaNames _ 98 _ hfs).mono ?_; rintro e w' ⟨rfl, rfl⟩; rw [Hfb.out])
          go_round
          case rel => exact ⟨2, by omega, by go_num, errB_eq (by have hz' := hz; simp at hz'; simp [errK, badReg, hz']), (by have := Hok.out; revert this; simp [okK, okReg])⟩
          case measure => simp [intOf]
        · have hz : (b == 0) = false := by simpa using hz
          go_wp2_with (go_at_call 125; refine (isaNames _ 98 _ hfs).mono ?_; rintro e w' ⟨rfl, rfl⟩; rw [Hfb.out])
          go_round
          case rel => exact ⟨2, by omega, by go_num, (show errB true = _ from errB_eq (by have hz' := hz; simp at hz'; simp [errK, badReg, hz'])), (by have := Hok.out; revert this; simp [okK, okReg])⟩
          case measure => simp [intOf]
      · by_cases h1 : b < 0
        · have Hno := Lib.hid (chkForm_31 (fn := fn) (n := n) (okK_mono (k := 2) (by omega) (show okK fa true fc a b c 2 = false by have h1' : ¬ 0 ≤ b := (by omega); simp [okK, okReg, h1'])))
          go_wp2_with (go_at_call 125; refine (isaNames _ 98 _ hfs).mono ?_; rintro e w' ⟨rfl, rfl⟩; rw [Hfb.out])
          go_ret
          exact ⟨ret_i64 (by rw [hchk.out, Hfa.out, Hfb.out, Hfc.out, Hfn.out, Hno.out]), hB2⟩
        · by_cases h2 : b < 16
          · go_wp2_with (go_at_call 125; refine (isaNames _ 98 _ hfs).mono ?_; rintro e w' ⟨rfl, rfl⟩; rw [Hfb.out])
            go_round
            case rel => exact ⟨2, by omega, by go_num, errB_eq (by simp [errK, badReg]), (by have := Hok.out; have h1' : 0 ≤ b := (by omega); revert this; simp [okK, okReg, h1', h2])⟩
            case measure => simp [intOf]
          · have Hno := Lib.hid (chkForm_31 (fn := fn) (n := n) (okK_mono (k := 2) (by omega) (show okK fa true fc a b c 2 = false by simp [okK, okReg, h2])))
            go_wp2_with (go_at_call 125; refine (isaNames _ 98 _ hfs).mono ?_; rintro e w' ⟨rfl, rfl⟩; rw [Hfb.out])
            go_ret
            exact ⟨ret_i64 (by rw [hchk.out, Hfa.out, Hfb.out, Hfc.out, Hfn.out, Hno.out]), hB2⟩
    · cases fc
      · by_cases hz : (c == 0) = true
        · go_wp2_with (go_at_call 125; refine (isaNames _ 99 _ hfs).mono ?_; rintro e w' ⟨rfl, rfl⟩; rw [Hfc.out])
          go_round
          case rel => exact ⟨3, by omega, by go_num, errB_eq (by have hz' := hz; simp at hz'; simp [errK, badReg, hz']), (by have := Hok.out; revert this; simp [okK, okReg])⟩
          case measure => simp [intOf]
        · have hz : (c == 0) = false := by simpa using hz
          go_wp2_with (go_at_call 125; refine (isaNames _ 99 _ hfs).mono ?_; rintro e w' ⟨rfl, rfl⟩; rw [Hfc.out])
          go_round
          case rel => exact ⟨3, by omega, by go_num, (show errB true = _ from errB_eq (by have hz' := hz; simp at hz'; simp [errK, badReg, hz'])), (by have := Hok.out; revert this; simp [okK, okReg])⟩
          case measure => simp [intOf]
      · by_cases h1 : c < 0
        · have Hno := Lib.hid (chkForm_31 (fn := fn) (n := n) (okK_mono (k := 3) (by omega) (show okK fa fb true a b c 3 = false by have h1' : ¬ 0 ≤ c := (by omega); simp [okK, okReg, h1'])))
          go_wp2_with (go_at_call 125; refine (isaNames _ 99 _ hfs).mono ?_; rintro e w' ⟨rfl, rfl⟩; rw [Hfc.out])
          go_ret
          exact ⟨ret_i64 (by rw [hchk.out, Hfa.out, Hfb.out, Hfc.out, Hfn.out, Hno.out]), hB2⟩
        · by_cases h2 : c < 16
          · go_wp2_with (go_at_call 125; refine (isaNames _ 99 _ hfs).mono ?_; rintro e w' ⟨rfl, rfl⟩; rw [Hfc.out])
            go_round
            case rel => exact ⟨3, by omega, by go_num, errB_eq (by simp [errK, badReg]), (by have := Hok.out; have h1' : 0 ≤ c := (by omega); revert this; simp [okK, okReg, h1', h2])⟩
            case measure => simp [intOf]
          · have Hno := Lib.hid (chkForm_31 (fn := fn) (n := n) (okK_mono (k := 3) (by omega) (show okK fa fb true a b c 3 = false by simp [okK, okReg, h2])))
            go_wp2_with (go_at_call 125; refine (isaNames _ 99 _ hfs).mono ?_; rintro e w' ⟨rfl, rfl⟩; rw [Hfc.out])
            go_ret
            exact ⟨ret_i64 (by rw [hchk.out, Hfa.out, Hfb.out, Hfc.out, Hfn.out, Hno.out]), hB2⟩
    · have Hfin := Lib.hid (chkForm_ok (fn := fn) (n := n) Hok.out)
      have e4 : errB (errK fa fb fc a b c 3) = .int .i64 (if errK fa fb fc a b c 3 then 1 else 0) := rfl
      obtain ⟨E, hE⟩ : ∃ E, errK fa fb fc a b c 3 = E := ⟨_, rfl⟩
      rw [hE] at e4 Hfin
      obtain ⟨x, hx⟩ : ∃ x : Int, (if E = true then (1 : Int) else 0) = x := ⟨_, rfl⟩
      rw [hx] at e4
      have Hx := Lib.hid hx
      clear hx
      rw [hE, e4]
      clear hE e4 Hok
      have fin : ∀ r : Int, r = (if (E || badImm fn n) = true then 1 else 0) → r = chk op a b c n := by
        intro r hr; rw [hchk.out, Hfa.out, Hfb.out, Hfc.out, Hfn.out, Hfin.out, hr]
      have Fin := Lib.hid fin
      clear fin
      cases fn
      · by_cases hz : (n != 0) = true
        · go_wp2_with (go_at_call 125; refine (isaNames _ 110 _ hfs).mono ?_; rintro e w' ⟨rfl, rfl⟩; rw [Hfn.out])
          go_ret
          exact ⟨ret_i64 (Fin.out _ (by have hz' := hz; simp at hz'; simp [badImm, hz'])), hB2⟩
        · have hz : (n != 0) = false := by simpa using hz
          go_wp2_with (go_at_call 125; refine (isaNames _ 110 _ hfs).mono ?_; rintro e w' ⟨rfl, rfl⟩; rw [Hfn.out])
          go_ret
          exact ⟨ret_i64 (Fin.out _ ((Hx.out.symm.trans (finC hz)))), hB2⟩
      · by_cases h1 : n < -2147483648
        · go_wp2_with (go_at_call 125; refine (isaNames _ 110 _ hfs).mono ?_; rintro e w' ⟨rfl, rfl⟩; rw [Hfn.out])
          go_ret
          exact ⟨ret_i64 (Fin.out _ (by simp [badImm, h1])), hB2⟩
        · by_cases h2 : 2147483647 < n
          · go_wp2_with (go_at_call 125; refine (isaNames _ 110 _ hfs).mono ?_; rintro e w' ⟨rfl, rfl⟩; rw [Hfn.out])
            go_ret
            exact ⟨ret_i64 (Fin.out _ (by simp [badImm, h2])), hB2⟩
          · go_wp2_with (go_at_call 125; refine (isaNames _ 110 _ hfs).mono ?_; rintro e w' ⟨rfl, rfl⟩; rw [Hfn.out])
            go_ret
            exact ⟨ret_i64 (Fin.out _ ((Hx.out.symm.trans (finD (by omega) (by omega))))), hB2⟩

theorem chk_no {op a b c n : Int} (hop : op < 1 ∨ 36 < op) : chk op a b c n = 30 := by
  unfold chk; rw [if_neg (by omega)]
set_option maxRecDepth 100000 in
set_option maxHeartbeats 400000 in
theorem isaName_no (op : Int) (w : World) (hop : op < 1 ∨ 36 < op) :
    Calls Tryz.prog 123 #[.int .i64 op] w fun e w' => e = .returned (.string ⟨#[]⟩) ∧ Below w.heap.size w w' := by
  go_enter Tryz.func123, Tryz.ntmps123
  go_upto_region 1 with (fail)
  refine wp_region_lit ?_
  refine wpList_plain (by rfl) (fun K hK => ?_)
  go_simp
  refine hK _ _ ?_
  refine wpList_plain (by rfl) (fun K2 hK2 => ?_)
  go_simp
  refine hK2 _ _ ?_
  clear hK hK2 K K2
  refine wpList_store_mid (by rfl) 209 _ _ (by rfl) w.heap.size 0 nameTab (by rfl) (by rfl) (there_new w nameZ 209 37 (by rfl)) (by kernel_rfl) (by decide +kernel) ?_
  rename_i K3 Q3 hgo
  refine wpList_nil ?_
  refine hgo _ _ ?_
  change Code.wp _ _ _ { tmps := #[.int .i64 op, undef, .string ⟨#[]⟩, .pointer (some ⟨w.heap.size, 0, none⟩), .agg nameTab, undef, undef, undef, undef, undef, undef, undef, undef, undef], defers := [] } ((w.alloc (.cells nameZ 209)).setCells w.heap.size 0 nameTab.toList)
  rw [setCells_tab w nameZ nameTab 209 (by rfl)]
  clear hgo
  rcases hop with hop | hop
  · go_wp2
    go_ret
    exact ⟨rfl, (Below.refl _ _).alloc (Nat.le_refl _) _⟩
  · have h1 : ¬ op < 1 := by omega
    go_wp2
    go_ret
    exact ⟨rfl, (Below.refl _ _).alloc (Nat.le_refl _) _⟩

set_option maxHeartbeats 400000 in
theorem isaCheck (op a b c n : Int) (w : World) :
    Calls Tryz.prog 83 #[.agg #[.int .i64 op, .int .i64 a, .int .i64 b, .int .i64 c, .int .i64 n]] w fun e w' => e = .returned (.int .i64 (chk op a b c n)) ∧ Below w.heap.size w w' := by
  by_cases hop : 1 ≤ op ∧ op ≤ 36
  · exact isaCheck_in op a b c n w hop
  · have hno : op < 1 ∨ 36 < op := by omega
    have hc := Lib.hid (chk_no (a := a) (b := b) (c := c) (n := n) hno)
    clear hop
    go_enter Tryz.func83, Tryz.ntmps83
    go_wp2_with fail
    refine (isaName_no op _ hno).mono ?_
    rintro e w1 ⟨rfl, hb1⟩
    go_wp2
    go_ret
    exact ⟨ret_i64 (by rw [hc.out]), ((Below.refl _ _).alloc (Nat.le_refl _) _).trans (hb1.mono (by simp))⟩
end Go.Proofs.YtjfcbimbnpfdeaaGreat

/- Objects behind one another as words: offsets, heads, reading and writing a field. -/
import Derived.Test.YtjfcbimbnpfdeaaGreatZa
namespace Go.Proofs.YtjfcbimbnpfdeaaGreat
open Go.RowKit

/-- An object: its kind, how many of its fields are words, its fields. -/
structure Ob where
  kind : Int
  tg : Nat
  fs : List Int
def Ob.row (o : Ob) : List Int := hdr o.kind o.fs.length o.tg :: o.fs
def Ob.ok (o : Ob) : Prop := vh o.kind o.fs.length o.tg
def Ob.set (o : Ob) (i : Nat) (x : Int) : Ob := ⟨o.kind, o.tg, o.fs.set i x⟩
def rowsOf (l : List Ob) : List Int := l.flatMap Ob.row
def headsOf : Int → List Ob → List Int
  | _, [] => []
  | a, o :: l => a :: headsOf (a + 1 + o.fs.length) l
def offOf (l : List Ob) (j : Nat) : Nat := (rowsOf (l.take j)).length

theorem Ob.row_len (o : Ob) : o.row.length = o.fs.length + 1 := by simp [Ob.row]
theorem rowsOf_nil : rowsOf [] = [] := rfl
theorem rowsOf_cons (o : Ob) (l : List Ob) : rowsOf (o :: l) = o.row ++ rowsOf l := rfl
theorem rowsOf_app (l k : List Ob) : rowsOf (l ++ k) = rowsOf l ++ rowsOf k := by simp [rowsOf]
theorem rowsOf_one (o : Ob) : rowsOf [o] = o.row := by simp [rowsOf]
theorem headsOf_len : ∀ (a : Int) (l : List Ob), (headsOf a l).length = l.length
  | _, [] => rfl
  | a, o :: l => by simp [headsOf, headsOf_len]
theorem offOf_zero (l : List Ob) : offOf l 0 = 0 := by simp [offOf, rowsOf]
theorem offOf_succ (o : Ob) (l : List Ob) (j : Nat) : offOf (o :: l) (j + 1) = o.fs.length + 1 + offOf l j := by
  simp [offOf, rowsOf_cons, Ob.row_len]
theorem headsOf_get : ∀ (a : Int) (l : List Ob) (j : Nat), j < l.length → (headsOf a l).getD j 0 = a + offOf l j
  | _, [], j, h => by simp at h
  | a, o :: l, 0, _ => by simp [headsOf, offOf_zero]
  | a, o :: l, j + 1, h => by
    have := headsOf_get (a + 1 + o.fs.length) l j (by simpa using h)
    rw [offOf_succ, headsOf, List.getD_cons_succ, this]
    omega
theorem offOf_next : ∀ (l : List Ob) (j : Nat) (o : Ob), l[j]? = some o → offOf l (j + 1) = offOf l j + o.fs.length + 1
  | [], j, o, h => by simp at h
  | p :: l, 0, o, h => by
    simp at h
    subst h
    rw [offOf_succ, offOf_zero, offOf_zero]; omega
  | p :: l, j + 1, o, h => by
    rw [offOf_succ, offOf_succ, offOf_next l j o (by simpa using h)]; omega
theorem offOf_le (l : List Ob) (j : Nat) : offOf l j ≤ (rowsOf l).length := by
  have h : rowsOf l = rowsOf (l.take j) ++ rowsOf (l.drop j) := by rw [← rowsOf_app, List.take_append_drop]
  rw [h, offOf]; simp
theorem offOf_end (l : List Ob) (j : Nat) (o : Ob) (h : l[j]? = some o) : offOf l j + o.fs.length + 1 ≤ (rowsOf l).length := by
  have := offOf_le l (j + 1)
  rw [offOf_next l j o h] at this
  exact this
theorem offOf_lt : ∀ (l : List Ob) (i j : Nat), i < j → j ≤ l.length → offOf l i < offOf l j := by
  intro l i j
  induction j with
  | zero => intro h; omega
  | succ j ih =>
    intro h1 h2
    obtain ⟨o, ho⟩ : ∃ o, l[j]? = some o := ⟨l[j], List.getElem?_eq_getElem _⟩
    rw [offOf_next l j o ho]
    rcases Nat.lt_or_eq_of_le (Nat.lt_succ_iff.1 h1) with h | h
    · have := ih h (by omega); omega
    · subst h; omega
theorem offOf_inj (l : List Ob) (i j : Nat) (hi : i ≤ l.length) (hj : j ≤ l.length) (h : offOf l i = offOf l j) : i = j := by
  rcases Nat.lt_trichotomy i j with h1 | h1 | h1
  · have := offOf_lt l i j h1 hj; omega
  · exact h1
  · have := offOf_lt l j i h1 hi; omega
theorem headsOf_rises (a : Int) (l : List Ob) : rises (headsOf a l) := by
  intro i j hij hj
  rw [headsOf_len] at hj
  rw [headsOf_get a l i (by omega), headsOf_get a l j hj]
  have := offOf_lt l i j hij (by omega)
  omega
theorem rowsOf_split (l : List Ob) (j : Nat) (o : Ob) (h : l[j]? = some o) : rowsOf l = rowsOf (l.take j) ++ (o.row ++ rowsOf (l.drop (j + 1))) := by
  have hj : j < l.length := (List.getElem?_eq_some_iff.1 h).1
  have he : l[j] = o := (List.getElem?_eq_some_iff.1 h).2
  have h1 : l = l.take j ++ (o :: l.drop (j + 1)) := by
    rw [← he, ← List.drop_eq_getElem_cons hj, List.take_append_drop]
  conv => lhs; rw [h1]
  rw [rowsOf_app, rowsOf_cons]
theorem rowsOf_head (l : List Ob) (j : Nat) (o : Ob) (h : l[j]? = some o) : (rowsOf l).getD (offOf l j) 0 = hdr o.kind o.fs.length o.tg := by
  rw [rowsOf_split l j o h, List.getD, List.getElem?_append_right (by simp [offOf])]
  simp [offOf, Ob.row]
theorem rowsOf_field (l : List Ob) (j : Nat) (o : Ob) (h : l[j]? = some o) (i : Nat) (hi : i < o.fs.length) : (rowsOf l).getD (offOf l j + 1 + i) 0 = o.fs.getD i 0 := by
  rw [rowsOf_split l j o h, List.getD, List.getElem?_append_right (by simp [offOf]; omega), List.getElem?_append_left (by simp [offOf, Ob.row]; omega)]
  simp only [offOf, Ob.row]
  rw [show (rowsOf (l.take j)).length + 1 + i - (rowsOf (l.take j)).length = i + 1 by omega, List.getElem?_cons_succ]
  rfl
theorem rowsOf_set (l : List Ob) (j : Nat) (o : Ob) (h : l[j]? = some o) (i : Nat) (x : Int) (hi : i < o.fs.length) : (rowsOf l).set (offOf l j + 1 + i) x = rowsOf (l.set j (o.set i x)) := by
  have hj : j < l.length := (List.getElem?_eq_some_iff.1 h).1
  have h2 : (l.set j (o.set i x))[j]? = some (o.set i x) := by simp [hj]
  rw [rowsOf_split _ j _ h2, rowsOf_split l j o h, List.take_set_of_le (Nat.le_refl _), List.drop_set_of_lt (by omega)]
  rw [List.set_append_right _ _ (by simp [offOf]; omega), List.set_append_left _ _ (by simp [offOf, Ob.row]; omega)]
  simp only [offOf, Ob.row, Ob.set, List.length_set]
  rw [show (rowsOf (l.take j)).length + 1 + i - (rowsOf (l.take j)).length = i + 1 by omega, List.set_cons_succ]
theorem headsOf_set : ∀ (a : Int) (l : List Ob) (j : Nat) (o p : Ob), l[j]? = some o → p.fs.length = o.fs.length → headsOf a (l.set j p) = headsOf a l
  | _, [], j, o, p, h, _ => by simp at h
  | a, q :: l, 0, o, p, h, hl => by
    simp at h
    subst h
    simp [headsOf, hl]
  | a, q :: l, j + 1, o, p, h, hl => by
    simp only [List.set_cons_succ, headsOf]
    rw [headsOf_set _ l j o p (by simpa using h) hl]
theorem headsOf_app : ∀ (a : Int) (l k : List Ob), headsOf a (l ++ k) = headsOf a l ++ headsOf (a + (rowsOf l).length) k
  | a, [], k => by simp [headsOf, rowsOf]
  | a, o :: l, k => by
    simp only [List.cons_append, headsOf]
    rw [headsOf_app (a + 1 + o.fs.length) l k, rowsOf_cons]
    simp only [List.length_append, Ob.row_len]
    congr 2
    congr 1
    omega
theorem headsOf_snoc (a : Int) (l : List Ob) (o : Ob) : headsOf a (l ++ [o]) = headsOf a l ++ [a + (rowsOf l).length] := by
  rw [headsOf_app]; rfl
theorem len_rows (l : List Ob) : l.length ≤ (rowsOf l).length := by
  induction l with
  | nil => simp
  | cons o l ih => rw [rowsOf_cons]; simp only [List.length_cons, List.length_append, Ob.row_len]; omega
theorem offOf_set (l : List Ob) (j i : Nat) (o p : Ob) (h : l[j]? = some o) (hl : p.fs.length = o.fs.length) (hi : i ≤ l.length) : offOf (l.set j p) i = offOf l i := by
  rcases Nat.lt_or_ge i l.length with h1 | h1
  · have a := headsOf_get 0 (l.set j p) i (by simpa using h1)
    have b := headsOf_get 0 l i h1
    rw [headsOf_set 0 l j o p h hl] at a
    omega
  · have e : i = l.length := by omega
    subst e
    have a := headsOf_snoc 0 (l.set j p) p
    have b := headsOf_snoc 0 l p
    have c : headsOf 0 (l.set j p ++ [p]) = headsOf 0 (l ++ [p]) := by
      have hj : j < l.length := (List.getElem?_eq_some_iff.1 h).1
      have := headsOf_set 0 (l ++ [p]) j o p (by rw [List.getElem?_append_left hj]; exact h) hl
      rw [List.set_append_left _ _ hj] at this
      exact this
    rw [a, b, headsOf_set 0 l j o p h hl] at c
    have d := List.append_cancel_left c
    simp at d
    simp only [offOf]
    rw [List.take_of_length_le (by simp), List.take_of_length_le (Nat.le_refl _)]
    omega

theorem mw_of (first : Int) (l : List Ob) (h1 : 1 ≤ first) (h2 : first ≤ 1000000) (hn : (rowsOf l).length ≤ 1000000) : MW first (rowsOf l) (headsOf first l) :=
  ⟨headsOf_rises _ _, by rw [headsOf_len]; have := len_rows l; omega, hn, h1, h2⟩
theorem oa_of (first : Int) (l : List Ob) (j : Nat) (o : Ob) (h : l[j]? = some o) (ho : o.ok) : OA first (rowsOf l) (headsOf first l) (offOf l j) o.kind o.fs.length o.tg :=
  ⟨⟨j, by rw [headsOf_len]; exact (List.getElem?_eq_some_iff.1 h).1, headsOf_get _ _ _ (List.getElem?_eq_some_iff.1 h).1⟩, ho, offOf_end l j o h, rowsOf_head l j o h⟩
end Go.Proofs.YtjfcbimbnpfdeaaGreat

/- A region whose head only reads and whose tail is forced, inside a fence or a round. -/
import Derived.Test.YtjfcbimbnpfdeaaGreatM
import Derived.StillTail
namespace Go.Proofs.YtjfcbimbnpfdeaaGreat
open Go.RowKit

/-- It makes no call, and what it yields is a value or nothing. -/
structure Calm (P : Program) (o : Oper) : Prop where
  nod : ∀ c, o.op ≠ .defer c
  about : ∀ ρ w, o.about P w ρ = none
  gives : ∀ ρ w r w', (execOp ρ o).run P w = .ok r w' → (∃ v, r = .value v) ∨ r = .skip

theorem run_value {P : Program} {s : Sem Value} {w : World} {r : Next} {w' : World} (h : (do pure (Next.value (← s)) : Sem Next).run P w = .ok r w') : (∃ v, r = .value v) ∨ r = .skip := by
  simp only [Sem.run_bind] at h
  cases hs : s.run P w with
  | ok v w1 => rw [hs] at h; simp only [Result.andThen_ok, Sem.run_pure] at h; injection h with h1 h2; exact .inl ⟨v, h1.symm⟩
  | halt x w1 => rw [hs] at h; cases h
theorem run_skip {P : Program} {s : Sem Unit} {w : World} {r : Next} {w' : World} (h : (do s; pure Next.skip : Sem Next).run P w = .ok r w') : (∃ v, r = .value v) ∨ r = .skip := by
  simp only [Sem.run_bind] at h
  cases hs : s.run P w with
  | ok v w1 => rw [hs] at h; simp only [Result.andThen_ok, Sem.run_pure] at h; injection h with h1 h2; exact .inr h1.symm
  | halt x w1 => rw [hs] at h; cases h

theorem and_value {X : Result Value} {r : Next} {w' : World} (h : (X.andThen fun a w' => Result.ok (Next.value a) w') = .ok r w') : (∃ v, r = .value v) ∨ r = .skip := by
  cases X with
  | ok v w1 => simp only [Result.andThen_ok] at h; injection h with h1 h2; exact .inl ⟨v, h1.symm⟩
  | halt x w1 => cases h

theorem calm_move {P : Program} {o : Oper} {x : Operand} (h : o.op = .move x) : Calm P o := by
  refine ⟨(fun c e => by rw [h] at e; cases e), (fun ρ w => by unfold Oper.about; rw [h]), fun ρ w r w' hr => ?_⟩
  unfold execOp at hr; simp only [h, Sem.run_pure] at hr
  injection hr with h1 h2; exact .inl ⟨_, h1.symm⟩
theorem calm_load {P : Program} {o : Oper} {t : TypeId} {x : Operand} (h : o.op = .load t x) : Calm P o := by
  refine ⟨(fun c e => by rw [h] at e; cases e), (fun ρ w => by unfold Oper.about; rw [h]), fun ρ w r w' hr => ?_⟩
  unfold execOp at hr; simp only [h] at hr
  exact run_value hr
theorem calm_buildSlice {P : Program} {o : Oper} {t : TypeId} {n : Nat} {x : Array (Nat × Operand)} (h : o.op = .buildSlice t n x) : Calm P o := by
  refine ⟨(fun c e => by rw [h] at e; cases e), (fun ρ w => by unfold Oper.about; rw [h]), fun ρ w r w' hr => ?_⟩
  unfold execOp at hr; simp only [h] at hr
  exact run_value hr
theorem calm_store {P : Program} {o : Oper} {t : TypeId} {x y : Operand} (h : o.op = .store t x y) : Calm P o := by
  refine ⟨(fun c e => by rw [h] at e; cases e), (fun ρ w => by unfold Oper.about; rw [h]), fun ρ w r w' hr => ?_⟩
  unfold execOp at hr; simp only [h] at hr
  exact run_skip hr
theorem calm_nilCheck {P : Program} {o : Oper} {x : Operand} (h : o.op = .nilCheck x) : Calm P o := by
  refine ⟨(fun c e => by rw [h] at e; cases e), (fun ρ w => by unfold Oper.about; rw [h]), fun ρ w r w' hr => ?_⟩
  unfold execOp at hr; simp only [h] at hr
  split at hr
  · simp [runtimePanic] at hr
  · simp [runtimePanic] at hr
  · simp [runtimePanic] at hr
  · split at hr
    · simp [runtimePanic] at hr
    · rename_i t0 w0 _
      simp only [Sem.run_bind] at hr
      cases hp : (program : Sem Program).run P w with
      | halt x w1 => rw [hp] at hr; cases hr
      | ok p0 w1 =>
        rw [hp] at hr
        simp only [Result.andThen_ok] at hr
        generalize hna : (nilAhead _ _ _ _).run P w1 = R at hr
        cases R with
        | halt x w2 => cases hr
        | ok b w2 =>
          simp only [Result.andThen_ok] at hr
          split at hr
          · simp [unsupported] at hr
          · simp only [Sem.run_pure] at hr
            injection hr with h1 h2; exact .inl ⟨_, h1.symm⟩
    · simp only [Sem.run_pure] at hr
      injection hr with h1 h2; exact .inl ⟨_, h1.symm⟩
  · simp only [Sem.run_pure] at hr
    injection hr with h1 h2; exact .inl ⟨_, h1.symm⟩
theorem calm_append {P : Program} {o : Oper} {x y : Operand} {t : TypeId} (h : o.op = .call { callee := .builtin .append, args := #[x, y], argTypes := #[t, t] }) : Calm P o := by
  refine ⟨(fun c e => by rw [h] at e; cases e), fun ρ w => ?_, fun ρ w r w' hr => ?_⟩
  · unfold Oper.about; rw [h]
    simp [resolve, Target.leads]
  · unfold execOp at hr; simp only [h, resolve, invoke, builtin, Sem.run_bind, Sem.run_pure, Result.andThen_ok] at hr
    exact and_value hr

section
variable {F : Fence} {n : Nat} {P : Program} {md : Region.Mode} {ops : Array Oper} {Q : Exit → Act → World → Prop}
theorem Calm.wpIn {o : Oper} (hc : Calm P o) (hno : ¬ LetsOut Q) {a : Act} {w : World} {K K' : Act → World → Prop} (hK : ∀ a w, K a w → K' a w) (h : o.wp P a w K Q ∨ (o.asks P a w ∧ LetsOut Q)) : o.wpIn F n P a w K' Q := by
  rcases h with h | h
  · refine ⟨(fun f hf => by rw [hc.about] at hf; cases hf), ?_⟩
    rw [Oper.semAt_eq _ _ _ hc.nod]
    unfold Oper.wp at h
    cases hr : (execOp a.eval o).run P w with
    | halt x w' =>
      rw [hr] at h
      cases x <;> first | exact h | exact h.elim
    | ok r w' =>
      rw [hr] at h
      rcases hc.gives _ _ _ _ hr with ⟨v, rfl⟩ | rfl
      · exact hK _ _ h
      · exact hK _ _ h
  · exact (hno h.2).elim

theorem wpAny_in (hcalm : ∀ (i : Nat) (o : Oper), ops[i]? = some o → Calm P o) (hno : ¬ LetsOut Q) : ∀ (fuel : Nat) (listed : Array Bool) (a : Act) (w : World), wpAny P md ops Q fuel listed a w → wpAnyIn F n P md ops Q fuel listed a w
  | 0, _, _, _, h => h
  | fuel + 1, listed, a, w, h => by
    refine ⟨h.1, fun i hi => ?_⟩
    have h1 := h.2 i hi
    unfold wpOp at h1
    unfold wpOpIn
    cases ho : ops[i]? with
    | none => rw [ho] at h1; exact wpAny_in hcalm hno fuel _ _ _ h1
    | some o =>
      rw [ho] at h1
      simp only at h1 ⊢
      split
      · rename_i hw
        rw [if_pos hw] at h1
        exact (hcalm i o ho).wpIn hno (fun a w hh => wpAny_in hcalm hno fuel _ _ _ hh) h1
      · rename_i hw
        rw [if_neg hw] at h1
        exact ⟨(fun f hf => by rw [(hcalm i o ho).about] at hf; cases hf), wpAny_in hcalm hno fuel _ _ _ h1⟩

/-- wp_region_still_tail, inside a fence or a round: for operations that make no call. -/
theorem wpIn_region_still_tail {id : Nat} {a : Act} {w : World} {l : List Oper} (m : Nat) (hm : P.follows .mixedOrders = true) (hB : Region.lexTailB .any l.toArray m = true)
    (hcalm : ∀ (i : Nat) (o : Oper), l.toArray[i]? = some o → Calm P o) (hno : ¬ LetsOut Q)
    (h : wpStill P l.toArray { w with drawn := w.drawn + 1 } (fun a' => wpList P l.toArray Q (l.drop m) a' { w with drawn := w.drawn + 1 }) (l.take m) a) : (Code.region id l.toArray true).wpIn F n P Q a w := by
  simp only [Region.lexTailB, Bool.and_eq_true, decide_eq_true_eq] at hB
  obtain ⟨⟨⟨⟨hsel, hn⟩, hs⟩, hc⟩, hlex⟩ := hB
  have hn' : m < l.length := by simpa using hn
  have htl : (l.take m).length = m := by simp; omega
  have hdl : (l.drop m).length = l.toArray.size - m := by simp
  have inv0 : HeadInv .any l.toArray m (Array.replicate l.toArray.size false) :=
    ⟨by simp, fun j oj _ hl => (by rw [getD_replicate_false] at hl; cases hl), fun t _ ht => getD_in (by simpa using ht) (getD_replicate_false _ _)⟩
  have H := wpAnyL_lex (md := .any) (g := l.toArray.size - m) hsel hs hc hn (l.take m) 0 _ a (fun j hj => by
    have hj' : j < m := by rw [htl] at hj; exact hj
    simp [hj']) (by simpa using htl) inv0 (by rw [htl]; exact hlex) h
  refine wpIn_region_any hm (wpAny_in hcalm hno _ _ _ _ ?_)
  have := wpAny_of_head (Q' := Q) (g := l.toArray.size - m) (fun listed a' hL => by
    have := wpAny_of_seq (md := .any) (Q' := Q) (l.drop m) m listed a' { w with drawn := w.drawn + 1 } (fun j => by simp [List.getElem?_drop]) (by rw [hdl]; exact hL.1) hL.2
    rwa [hdl] at this) _ _ _ H
  rw [htl, show m + (l.toArray.size - m) = l.toArray.size by omega] at this
  exact this
theorem wpAny_some {rs : List Nat} {fuel : Nat} {listed : Array Bool} {a : Act} {w : World} (hr : Region.ready md ops listed = rs) (hne : rs ≠ [])
    (h : ∀ i ∈ rs, wpOp P ops Q i (wpAny P md ops Q fuel (listed.setIfInBounds i true)) a w) : wpAny P md ops Q (fuel + 1) listed a w :=
  ⟨fun h0 => absurd (hr ▸ h0) hne, hr ▸ h⟩
theorem wpOp_yields {i : Nat} {o : Oper} {v : Value} {a : Act} {w : World} {K : Act → World → Prop} (ho : ops[i]? = some o) (hw : Region.wanted o (yielded ops a.tmps) = true)
    (hr : (execOp a.eval o).run P w = .ok (.value v) w) (h : K (a.put o.dst v) w) : wpOp P ops Q i K a w := by
  unfold wpOp; rw [ho]; simp only [hw, if_true]
  left
  unfold Oper.wp; rw [hr]; exact h
theorem wpOp_makes {i : Nat} {o : Oper} {v : Value} {a : Act} {w w' : World} {K : Act → World → Prop} (ho : ops[i]? = some o) (hw : Region.wanted o (yielded ops a.tmps) = true)
    (hr : (execOp a.eval o).run P w = .ok (.value v) w') (h : K (a.put o.dst v) w') : wpOp P ops Q i K a w := by
  unfold wpOp; rw [ho]; simp only [hw, if_true]
  left
  unfold Oper.wp; rw [hr]; exact h
theorem wpAny_tail {l : List Oper} (k fuel : Nat) {listed : Array Bool} {a : Act} {w : World} (hf : fuel = (l.drop k).length) (hB : Region.seqB md l.toArray (l.drop k).length k listed = true)
    (h : wpList P l.toArray Q (l.drop k) a w) : wpAny P md l.toArray Q fuel listed a w := by
  subst hf
  exact wpAny_of_seq (md := md) (l.drop k) k listed a w (fun j => by simp [List.getElem?_drop]) hB h
end
end Go.Proofs.YtjfcbimbnpfdeaaGreat

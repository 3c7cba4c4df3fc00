
/-
  A drawn region of which the last operation may spoil what its loads have read: behind that one the condition need not hold.
-/
import Derived.Test.YtdfkednggjelcaaTake
namespace Go.Proofs.Ytdfkednggjelcaa
open Go.RowKit
set_option linter.unusedVariables false
section
variable {P : Program} {ops : Array Oper} {Q : Exit → Act → World → Prop} {md : Region.Mode} {S : World → Prop} {z : Nat}
/-- What has come up has come behind all that it waits for. -/
def Down (md : Region.Mode) (ops : Array Oper) (done : Array Bool) : Prop := ∀ (k : Nat) (o : Oper), ops[k]? = some o → done.getD k false = true → ∀ e ∈ o.after, Region.binds md e = true → done.getD e.on false = true
def downB (md : Region.Mode) (ops : Array Oper) (done : Array Bool) : Bool := (List.range ops.size).all fun k => !(done.getD k false) || (match ops[k]? with | none => true | some o => o.after.all fun e => !(Region.binds md e) || done.getD e.on false)
theorem Down.of {done : Array Bool} (h : downB md ops done = true) : Down md ops done := fun k o ho hk e he hb => by
  have hlt : k < ops.size := (Array.getElem?_eq_some_iff.1 ho).1
  have h1 := (List.all_eq_true.1 h) k (List.mem_range.2 hlt)
  rw [ho, hk] at h1
  simp only [Bool.not_true, Bool.false_or] at h1
  have h2 := (Array.all_eq_true_iff_forall_mem.1 h1) e he
  rw [hb] at h2
  simpa using h2
theorem Down.next {done : Array Bool} {j : Nat} (h : Down md ops done) (hj : j ∈ Region.ready md ops done) : Down md ops (done.setIfInBounds j true) := fun k o ho hk e he hb => by
  by_cases hjk : j = k
  · subst hjk
    obtain ⟨_, o2, ho2, hall⟩ := mem_ready.1 hj
    rw [ho] at ho2
    injection ho2 with ho2
    subst ho2
    exact getD_set_true (hall e he hb)
  · rw [getD_set_ne false hjk] at hk
    exact getD_set_true (h k o ho hk e he hb)
/-- Does one wait for number i, at once or through others? -/
def waits (md : Region.Mode) (ops : Array Oper) (i : Nat) : Nat → Nat → Bool
  | 0, _ => false
  | n + 1, k => match ops[k]? with
    | none => false
    | some o => o.after.any fun e => Region.binds md e && (e.on == i || waits md ops i n e.on)
theorem waits_down {done : Array Bool} {i : Nat} (h : Down md ops done) : ∀ (n k : Nat) (o : Oper), ops[k]? = some o → (∀ e ∈ o.after, Region.binds md e = true → done.getD e.on false = true) → waits md ops i n k = true → done.getD i false = true
  | 0, _, _, _, _, hw => by cases hw
  | n + 1, k, o, ho, hall, hw => by
    unfold waits at hw
    rw [ho] at hw
    simp only at hw
    rw [← Array.any_toList, List.any_eq_true] at hw
    obtain ⟨e, he, h2⟩ := hw
    have he := Array.mem_toList_iff.1 he
    simp only [Bool.and_eq_true, Bool.or_eq_true, beq_iff_eq] at h2
    obtain ⟨hb, h3⟩ := h2
    have h4 := hall e he hb
    rcases h3 with h3 | h3
    · rw [← h3]; exact h4
    · cases n with
      | zero => cases h3
      | succ n =>
        cases h5 : ops[e.on]? with
        | none => unfold waits at h3; rw [h5] at h3; cases h3
        | some o2 => exact waits_down h (n + 1) e.on o2 h5 (h e.on o2 h5 h4) h3
/-- Whatever order is picked; S holds behind each operation but number z. -/
def wpE (P : Program) (md : Region.Mode) (ops : Array Oper) (Q : Exit → Act → World → Prop) (S : World → Prop) (z : Nat) : Nat → Array Bool → Act → World → Prop
  | 0, done, a, w => Region.ready md ops done = [] ∧ Q .normal a w
  | n + 1, done, a, w => (Region.ready md ops done = [] → Q .normal a w) ∧ ∀ i ∈ Region.ready md ops done, wpOp P ops Q i (fun a2 w2 => (i = z ∨ S w2) ∧ wpE P md ops Q S z n (done.setIfInBounds i true) a2 w2) a w
theorem wpAny_of_E : ∀ (n : Nat) (done : Array Bool) (a : Act) (w : World), wpE P md ops Q S z n done a w → wpAny P md ops Q n done a w
  | 0, _, _, _, h => h
  | n + 1, _, _, _, h => ⟨h.1, fun i hi => wpOp_mono (fun a2 w2 h2 => wpAny_of_E n _ a2 w2 h2.2) (h.2 i hi)⟩
theorem wpE_first {i : Nat} {oi : Oper} {v : Value} (hi : ops[i]? = some oi) (hsel : ∀ (j : Nat) (o : Oper) cs b, ops[j]? = some o → o.op ≠ .select cs b)
    (hQ : ∀ c a w, Q (.panic c) (a.put oi.dst v) w → Q (.panic c) a w) (hz : waits md ops i ops.size z = true) :
    ∀ (n : Nat) (done : Array Bool) (a : Act) (w : World), Down md ops done →
      (∀ j oj, ops[j]? = some oj → j ≠ i → done.getD j true = false → (∀ e ∈ oj.after, Region.binds md e = true → e.on ≠ i) → oi.apart ops oj = true) →
      i ∈ Region.ready md ops done → YieldsIf P ops S oi v a → S w →
      wpE P md ops Q S z n (done.setIfInBounds i true) (a.put oi.dst v) w → wpE P md ops Q S z (n + 1) done a w
  | 0, done, a, w, _, _, hr, hy, hS, H => by
    refine ⟨fun h => (by rw [h] at hr; cases hr), fun j hj => ?_⟩
    by_cases e : j = i
    · subst e; exact hy.wpOp hi hS ⟨.inr hS, H⟩
    · have h1 := ready_mono hj e
      rw [H.1] at h1
      cases h1
  | n + 1, done, a, w, hd, hfree, hr, hy, hS, H => by
    refine ⟨fun h => (by rw [h] at hr; cases hr), fun j hj => ?_⟩
    by_cases e : j = i
    · subst e; exact hy.wpOp hi hS ⟨.inr hS, H⟩
    · have h1 := H.2 j (ready_mono hj e)
      obtain ⟨hjun, oj, hoj, hall⟩ := mem_ready.1 hj
      have hun : ¬ done.getD i false = true := fun h0 => by
        have h2 := (mem_ready.1 hr).1
        rcases Nat.lt_or_ge i done.size with h4 | h4
        · simp [h4] at h0 h2; rw [h2] at h0; cases h0
        · simp [Array.getElem?_eq_none h4] at h0
      have hnot : ∀ x ∈ oj.after, Region.binds md x = true → x.on ≠ i := fun x hx hb heq => hun (by rw [← heq]; exact hall x hx hb)
      have hjz : j ≠ z := fun ez => by
        subst ez
        exact hun (waits_down hd _ _ _ hoj hall hz)
      have h2 := wpOp_putIf hoj (hfree j oj hoj e hjun hnot) (fun cs b => hsel i oi cs b hi) (fun cs b => hsel j oj cs b hoj) hQ hy h1
      have hfree2 : ∀ k ok, ops[k]? = some ok → k ≠ i → (done.setIfInBounds j true).getD k true = false →
          (∀ x ∈ ok.after, Region.binds md x = true → x.on ≠ i) → oi.apart ops ok = true := fun k ok hk hki hku hno => by
        refine hfree k ok hk hki ?_ hno
        by_cases hjk : j = k
        · subst hjk; exact hjun
        · rw [getD_set_ne true hjk] at hku; exact hku
      have hri : i ∈ Region.ready md ops (done.setIfInBounds j true) := ready_mono hr (Ne.symm e)
      refine wpOp_mono (fun a2 w2 h3 => ?_) h2
      obtain ⟨hy2, hSE, hE⟩ := h3
      have hS2 : S w2 := hSE.resolve_left hjz
      rw [Array.setIfInBounds_comm _ _ (Ne.symm e)] at hE
      exact ⟨.inr hS2, wpE_first hi hsel hQ hz n (done.setIfInBounds j true) a2 w2 (hd.next hj) hfree2 hri hy2 hS2 hE⟩
theorem wpE_take {i : Nat} {oi : Oper} {v : Value} {fuel : Nat} {done : Array Bool} {a : Act} {w : World} (hi : ops[i]? = some oi) (hz : waits md ops i ops.size z = true) (hd : downB md ops done = true)
    (hs : Region.noSelect ops = true) (hf : Region.free md ops done i = true) (hr : (Region.ready md ops done).contains i = true)
    (hQ : ∀ c a w, Q (.panic c) (a.put oi.dst v) w → Q (.panic c) a w) (hy : YieldsIf P ops S oi v a) (hS : S w)
    (h : wpE P md ops Q S z fuel (done.setIfInBounds i true) (a.put oi.dst v) w) : wpE P md ops Q S z (fuel + 1) done a w :=
  wpE_first hi (Region.noSelect_spec hs) hQ hz fuel done a w (.of hd) (Region.free_spec hi hf) (by simpa using hr) hy hS h
/-- An operation that its guard leaves out. -/
theorem takeUE {i : Nat} {oi : Oper} {d : Option Tmp} {fuel : Nat} {done : Array Bool} {a : Act} {w : World} (hi : ops[i]? = some oi) (hd : oi.dst = d) (hz : waits md ops i ops.size z = true) (hdn : downB md ops done = true)
    (hs : Region.noSelect ops = true) (hf : Region.free md ops done i = true) (hr : (Region.ready md ops done).contains i = true)
    (hQ : ∀ c a w, Q (.panic c) (a.put d undef) w → Q (.panic c) a w) (hy : Region.wanted oi (yielded ops a.tmps) = false) (hS : S w)
    (h : wpE P md ops Q S z fuel (done.setIfInBounds i true) (a.put d undef) w) : wpE P md ops Q S z (fuel + 1) done a w := by
  subst hd
  exact wpE_take hi hz hdn hs hf hr hQ (Or.inr ⟨hy, rfl⟩) hS h
theorem takeWE {i : Nat} {oi : Oper} {d : Option Tmp} {v : Value} {fuel : Nat} {done : Array Bool} {a : Act} {w : World} (hi : ops[i]? = some oi) (hd : oi.dst = d) (hz : waits md ops i ops.size z = true) (hdn : downB md ops done = true)
    (hs : Region.noSelect ops = true) (hf : Region.free md ops done i = true) (hr : (Region.ready md ops done).contains i = true)
    (hQ : ∀ c a w, Q (.panic c) (a.put d v) w → Q (.panic c) a w) (hw : Region.wanted oi (yielded ops a.tmps) = true) (hy : ∀ w, S w → (execOp a.eval oi).run P w = .ok (.value v) w) (hS : S w)
    (h : wpE P md ops Q S z fuel (done.setIfInBounds i true) (a.put d v) w) : wpE P md ops Q S z (fuel + 1) done a w := by
  subst hd
  exact wpE_take hi hz hdn hs hf hr hQ (Or.inl ⟨hw, hy⟩) hS h
def AllE (P : Program) (md : Region.Mode) (ops : Array Oper) (Q : Exit → Act → World → Prop) (S : World → Prop) (z fuel : Nat) (done : Array Bool) (a : Act) (w : World) (rs : List Nat) : Prop :=
  ∀ i ∈ rs, wpOp P ops Q i (fun a2 w2 => (i = z ∨ S w2) ∧ wpE P md ops Q S z fuel (done.setIfInBounds i true) a2 w2) a w
theorem AllE.nil {fuel : Nat} {done : Array Bool} {a : Act} {w : World} : AllE P md ops Q S z fuel done a w [] := fun _ h => by cases h
theorem AllE.cons {fuel : Nat} {done : Array Bool} {a : Act} {w : World} {i : Nat} {o : Oper} {rs : List Nat} (ho : ops[i]? = some o)
    (h : ∀ K' : Act → World → Prop, Shut (∀ a w, S w → (S w → wpE P md ops Q S z fuel (done.setIfInBounds i true) a w) → K' a w) → if Region.wanted o (yielded ops a.tmps) = true then Oper.wp P o a w K' Q else K' (a.put o.dst undef) w)
    (hs : AllE P md ops Q S z fuel done a w rs) : AllE P md ops Q S z fuel done a w (i :: rs) := fun j hj => by
  rcases List.mem_cons.1 hj with rfl | hj
  · exact wpOp_step ho (fun K' hK => h K' (fun a w hS hW => hK a w ⟨.inr hS, hW hS⟩))
  · exact hs j hj
/-- The last one. -/
theorem AllE.last {fuel : Nat} {done : Array Bool} {a : Act} {w : World} {o : Oper} (ho : ops[z]? = some o) (hr : Region.ready md ops (done.setIfInBounds z true) = [])
    (h : ∀ K' : Act → World → Prop, Shut (∀ a w, Q .normal a w → K' a w) → if Region.wanted o (yielded ops a.tmps) = true then Oper.wp P o a w K' Q else K' (a.put o.dst undef) w) : AllE P md ops Q S z fuel done a w [z] := fun j hj => by
  obtain rfl := List.mem_singleton.1 hj
  exact wpOp_step ho (fun K' hK => h K' (fun a w hQ => hK a w ⟨.inl rfl, by
    cases fuel with
    | zero => exact ⟨hr, hQ⟩
    | succ n => exact ⟨fun _ => hQ, by rw [hr]; simp⟩⟩))
theorem wpE_ready {rs : List Nat} {fuel : Nat} {done : Array Bool} {a : Act} {w : World} (hr : Region.ready md ops done = rs) (hne : rs ≠ [])
    (h : AllE P md ops Q S z fuel done a w rs) : wpE P md ops Q S z (fuel + 1) done a w := ⟨fun h0 => absurd (hr ▸ h0) hne, hr ▸ h⟩
theorem wp_regionE {id : Nat} {a : Act} {w : World} (z : Nat) (S : World → Prop) (hm : P.follows .mixedOrders = true) (hS : S w.drew)
    (h : S w.drew → wpE P .any ops Q S z ops.size (Array.replicate ops.size false) a w.drew) : (Code.region id ops true).wp P Q a w :=
  wp_region_any hm (wpAny_of_E _ _ _ _ (h hS))
end
end Go.Proofs.Ytdfkednggjelcaa

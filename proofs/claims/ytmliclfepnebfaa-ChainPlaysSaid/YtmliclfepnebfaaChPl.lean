
/-
  chain: plain laws of chains: Of, order of laying, Trim.
-/
import Derived.Test.YtmliclfepnebfaaChX
import Derived.Test.YtmliclfepnebfaaChY
namespace Go.Proofs.Ytmliclfepnebfaa
open Go.RowKit
set_option linter.unusedVariables false
theorem insV_perm (l : List VV) (v : VV) : (insV l v).Perm (v :: l) := by
  unfold insV
  have h := List.perm_middle (a := v) (l₁ := l.take (posV l v)) (l₂ := l.drop (posV l v))
  rwa [List.take_append_drop] at h
theorem hasV_ins (l : List VV) (v x : VV) : hasV (insV l v) x = (hasV l x || cmpV v x == 0) := by
  rw [Bool.eq_iff_iff]
  unfold hasV
  rw [Bool.or_eq_true, List.any_eq_true, List.any_eq_true]
  constructor
  · rintro ⟨y, hy, h⟩
    rcases insV_mem.1 hy with rfl | hy
    · exact .inr h
    · exact .inl ⟨y, hy, h⟩
  · rintro (⟨y, hy, h⟩ | h)
    · exact ⟨y, insV_mem.2 (.inr hy), h⟩
    · exact ⟨v, insV_mem.2 (.inl rfl), h⟩
theorem cmpV_ne_symm {a b : VV} (h : cmpV a b ≠ 0) : cmpV b a ≠ 0 := fun h2 => h (by rw [cmpV_eq] at *; omega)
/-- When all are laid. -/
theorem ofR_iff : ∀ (l acc : List VV), (ofR acc l).1 = 0 ↔ (∀ v ∈ l, isVV v = true) ∧ (∀ v ∈ l, hasV acc v = false) ∧ l.Pairwise (fun a b => cmpV a b ≠ 0)
  | [], acc => by simp [ofR]
  | v :: l, acc => by
    rw [ofR]
    by_cases h : putE acc v = 0
    · rw [if_pos h]
      obtain ⟨h1, h2⟩ := putE_zero.1 h
      have e : putL acc v = insV acc v := by unfold putL; rw [if_pos h]
      rw [ofR_iff l, e, List.pairwise_cons]
      constructor
      · rintro ⟨a1, a2, a3⟩
        have a4 := fun x hx => Bool.or_eq_false_iff.1 ((hasV_ins acc v x).symm.trans (a2 x hx))
        refine ⟨fun x hx => ?_, fun x hx => ?_, fun x hx h0 => ?_, a3⟩
        · rcases List.mem_cons.1 hx with rfl | hx
          · exact h1
          · exact a1 x hx
        · rcases List.mem_cons.1 hx with rfl | hx
          · exact h2
          · exact (a4 x hx).1
        · have := (a4 x hx).2
          rw [h0] at this
          cases this
      · rintro ⟨a1, a2, a3, a4⟩
        refine ⟨fun x hx => a1 x (List.mem_cons_of_mem _ hx), fun x hx => ?_, a4⟩
        rw [hasV_ins, a2 x (List.mem_cons_of_mem _ hx), Bool.false_or, beq_eq_false_iff_ne]
        exact a3 x hx
    · rw [if_neg h]
      refine ⟨fun h0 => absurd h0 h, fun h0 => absurd (putE_zero.2 ⟨h0.1 v List.mem_cons_self, h0.2.1 v List.mem_cons_self⟩) h⟩
theorem ofR_perm : ∀ (l acc : List VV), (ofR acc l).1 = 0 → (ofR acc l).2.Perm (l ++ acc)
  | [], acc => fun _ => List.Perm.refl _
  | v :: l, acc => fun h => by
    by_cases h0 : putE acc v = 0
    · have e : putL acc v = insV acc v := by unfold putL; rw [if_pos h0]
      have e2 : ofR acc (v :: l) = ofR (insV acc v) l := by rw [ofR, if_pos h0, e]
      rw [e2] at h ⊢
      have p1 := ofR_perm l _ h
      have p2 := (insV_perm acc v).append_left l
      exact (p1.trans p2).trans List.perm_middle
    · have e2 : ofR acc (v :: l) = (putE acc v, acc) := by rw [ofR, if_neg h0]
      rw [e2] at h
      exact absurd h h0
theorem ofR_good : ∀ (l acc : List VV), Good acc → Good (ofR acc l).2
  | [], acc => fun h => h
  | v :: l, acc => fun h => by
    rw [ofR]
    split
    · exact ofR_good l _ (h.put v)
    · exact h
theorem ofR_len {l : List VV} (h : (ofR [] l).1 = 0) : (ofR [] l).2.length = l.length := by
  have := (ofR_perm l [] h).length_eq
  rwa [List.append_nil] at this
theorem ofR_mem {l : List VV} (h : (ofR [] l).1 = 0) {v : VV} : v ∈ (ofR [] l).2 ↔ v ∈ l := by
  have := (ofR_perm l [] h).mem_iff (a := v)
  rwa [List.append_nil] at this
theorem rise_eq {a b : List VV} (ha : Rise a) (hb : Rise b) (h : a.Perm b) : a = b :=
  List.Perm.eq_of_pairwise (fun x y _ _ h1 h2 => by rw [cmpV_lt] at *; omega) ha hb h
/-- In whatever order they are laid. -/
theorem ofR_turn {l l' : List VV} (h : l.Perm l') : ((ofR [] l).1 = 0 ↔ (ofR [] l').1 = 0) ∧ ((ofR [] l).1 = 0 → (ofR [] l).2 = (ofR [] l').2) := by
  have h1 : (ofR [] l).1 = 0 ↔ (ofR [] l').1 = 0 := by
    rw [ofR_iff, ofR_iff]
    have hp := h.pairwise_iff (R := fun a b => cmpV a b ≠ 0) (fun hxy => cmpV_ne_symm hxy)
    constructor
    · rintro ⟨a1, a2, a3⟩; exact ⟨fun v hv => a1 v (h.mem_iff.2 hv), fun v hv => a2 v (h.mem_iff.2 hv), hp.1 a3⟩
    · rintro ⟨a1, a2, a3⟩; exact ⟨fun v hv => a1 v (h.mem_iff.1 hv), fun v hv => a2 v (h.mem_iff.1 hv), hp.2 a3⟩
  refine ⟨h1, fun h0 => rise_eq (ofR_good _ _ Good.nil).rise (ofR_good _ _ Good.nil).rise ?_⟩
  have p1 := ofR_perm l [] h0
  have p2 := ofR_perm l' [] (h1.1 h0)
  rw [List.append_nil] at p1 p2
  exact p1.trans (h.trans p2.symm)
/-- One that is there is there, whatever it holds. -/
theorem has_twice {l : List VV} (h : (ofR [] l).1 = 0) {v : VV} (hv : v ∈ l) {d : List UInt8} (hd : d.length ≤ 1024) : putE (ofR [] l).2 ⟨v.m, v.c, v.o, d, false, v.t⟩ = 8 := by
  have hm := (ofR_mem h).2 hv
  have hi := isVV_iff.1 ((ofR_good l [] Good.nil).valid v hm)
  have h1 : isVV ⟨v.m, v.c, v.o, d, false, v.t⟩ = true := isVV_iff.2 ⟨hi.s, hi.o0, hi.o5, hd, hi.t0, hi.t1, fun hg => by cases hg⟩
  have h2 : hasV (ofR [] l).2 ⟨v.m, v.c, v.o, d, false, v.t⟩ = true := List.any_eq_true.2 ⟨v, hm, by rw [beq_iff_eq, cmpV_eq]; exact ⟨rfl, rfl, rfl⟩⟩
  unfold putE
  rw [if_neg (by rw [h1]; decide), if_pos h2]
theorem putL_twice {l : List VV} {v : VV} (h : putE l v = 8) : putL l v = l := by unfold putL; rw [if_neg (by rw [h]; decide)]
theorem uptoV_all {l : List VV} {s : St} (h : ∀ v ∈ l, cmpS v.st s ≤ 0) : uptoV l s = l.length :=
  takeWhile_len _ (Nat.le_refl _) (fun j hj _ => decide_eq_true (h _ (List.getElem_mem hj))) (fun h => absurd h (Nat.lt_irrefl _))
theorem uptoV_none {l : List VV} {s : St} (h : ∀ v ∈ l, ¬ cmpS v.st s ≤ 0) : uptoV l s = 0 :=
  takeWhile_len _ (Nat.zero_le _) (fun j hj h => by omega) (fun h0 => decide_eq_false (h _ (List.getElem_mem h0)))
/-- The newest one, and none. -/
theorem at_newest {l : List VV} (h : Valid l) (h0 : l ≠ []) : atB l ⟨281474976710655, 65535⟩ = true ∧ ∃ hl : l.length - 1 < l.length, atX l ⟨281474976710655, 65535⟩ = l[l.length - 1] := by
  have hlen : 0 < l.length := List.length_pos_iff.2 h0
  have hu : uptoV l ⟨281474976710655, 65535⟩ = l.length := uptoV_all (fun v hv => by
    have := isS_iff.1 (isVV_iff.1 (h v hv)).s
    rw [cmpS_le]; simp only [VV.st]; omega)
  refine ⟨by unfold atB; rw [hu]; exact decide_eq_true hlen, by omega, ?_⟩
  unfold atX atV
  rw [hu, if_neg (by omega)]
  rw [List.getD_eq_getElem?_getD, List.getElem?_eq_getElem (by omega)]; rfl
theorem at_none {l : List VV} (h : Valid l) : atB l ⟨-1, 0⟩ = false := by
  have hu : uptoV l ⟨-1, 0⟩ = 0 := uptoV_none (fun v hv => by
    have := isS_iff.1 (isVV_iff.1 (h v hv)).s
    rw [cmpS_le]; simp only [VV.st]; omega)
  unfold atB; rw [hu]; rfl
theorem uptoV_drop {l : List VV} (h : Rise l) (s : St) {n : Nat} (hn : n ≤ uptoV l s) : uptoV (l.drop n) s = uptoV l s - n := by
  have hle := uptoV_le l s
  refine takeWhile_len _ (by rw [List.length_drop]; omega) (fun j hj h1 => decide_eq_true ?_) (fun hj => decide_eq_false ?_)
  · rw [List.length_drop] at hj
    rw [List.getElem_drop]
    exact (uptoV_iff h s (by omega)).2 (by omega)
  · rw [List.length_drop] at hj
    rw [List.getElem_drop]
    intro h2
    have := (uptoV_iff h s (by omega)).1 h2
    omega
theorem uptoV_mono {l : List VV} (h : Rise l) {s t : St} (hst : cmpS s t ≤ 0) : uptoV l s ≤ uptoV l t := by
  refine Nat.le_of_not_lt (fun hlt => ?_)
  have hle := uptoV_le l s
  have h1 := (uptoV_iff h s (i := uptoV l t) (by omega)).2 hlt
  have h2 : ¬ cmpS (l[uptoV l t]'(by omega)).st t ≤ 0 := fun h3 => by
    have := (uptoV_iff h t (i := uptoV l t) (by omega)).1 h3
    omega
  rw [cmpS_le] at h1 h2 hst
  omega
theorem atX_drop {l : List VV} (h : Rise l) (s : St) {n : Nat} (hn : n < uptoV l s) : atX (l.drop n) s = atX l s ∧ atB (l.drop n) s = true ∧ atB l s = true := by
  have hu := uptoV_drop h s (Nat.le_of_lt hn)
  refine ⟨?_, by unfold atB; rw [hu]; exact decide_eq_true (by omega), by unfold atB; exact decide_eq_true (by omega)⟩
  unfold atX atV
  rw [hu, if_neg (by omega), if_neg (by omega), List.getD_eq_getElem?_getD, List.getD_eq_getElem?_getD, List.getElem?_drop]
  have e : n + (uptoV l s - n - 1) = uptoV l s - 1 := by omega
  rw [e]
theorem trimN_le (l : List VV) (s : St) : trimN l s ≤ uptoV l s := by unfold trimN; split <;> omega
theorem seenV_mono {v : VV} {s t : St} (hst : cmpS s t ≤ 0) (hv : cmpS v.st s ≤ 0) (h : seenV v s = false) : seenV v t = false := by
  rw [Bool.eq_false_iff] at *
  intro h2
  refine h ?_
  unfold seenV at *
  rw [Bool.and_eq_true, Bool.and_eq_true, Bool.or_eq_true, decide_eq_true_eq, decide_eq_true_eq] at *
  refine ⟨hv, h2.2.1, h2.2.2.imp id (fun h3 => ?_)⟩
  rw [cmpS_le] at hst
  omega
/-- Behind a Trim all is as it was from that stamp on. -/
theorem trim_get {l : List VV} (h : Rise l) {s t : St} (hst : cmpS s t ≤ 0) : getB (l.drop (trimN l s)) t = getB l t ∧ getD (l.drop (trimN l s)) t = getD l t := by
  have hm := uptoV_mono h hst
  have hn := trimN_le l s
  have hle := uptoV_le l s
  have key : getB (l.drop (trimN l s)) t = getB l t ∧ (getB l t = true → atX (l.drop (trimN l s)) t = atX l t) := by
    by_cases hlt : trimN l s < uptoV l t
    · obtain ⟨h1, h2, h3⟩ := atX_drop h t hlt
      exact ⟨by unfold getB; rw [h1, h2, h3], fun _ => h1⟩
    · have hu := uptoV_drop h t (n := trimN l s) (by omega)
      have h1 : getB (l.drop (trimN l s)) t = false := by
        unfold getB atB; rw [hu, decide_eq_false (by omega), Bool.false_and]
      have h2 : getB l t = false := by
        have e1 : trimN l s = uptoV l s := by omega
        have e2 : uptoV l t = uptoV l s := by omega
        by_cases h0 : uptoV l s = 0
        · unfold getB atB; rw [e2, h0]; rfl
        · have h3 : getB l s = false := by
            cases hb : getB l s
            · rfl
            · exfalso
              unfold trimN at e1
              rw [if_pos hb] at e1
              omega
          have e3 : atX l t = atX l s := by unfold atX atV; rw [e2]
          have h4 : atB l s = true := by unfold atB; exact decide_eq_true (by omega)
          have h5 : seenV (atX l s) s = false := by
            unfold getB at h3
            rw [h4, Bool.true_and] at h3
            exact h3
          have h6 : cmpS (atX l s).st s ≤ 0 := by
            unfold atX atV
            rw [if_neg h0, List.getD_eq_getElem?_getD, List.getElem?_eq_getElem (by omega)]
            exact (uptoV_iff h s (by omega)).2 (by omega)
          unfold getB
          rw [e3, seenV_mono hst h6 h5, Bool.and_false]
      exact ⟨by rw [h1, h2], fun h3 => by rw [h2] at h3; cases h3⟩
  refine ⟨key.1, ?_⟩
  unfold getD
  rw [key.1]
  cases hb : getB l t
  · rfl
  · rw [if_pos rfl, if_pos rfl, key.2 hb]
theorem cmpS_self (s : St) : cmpS s s ≤ 0 := by rw [cmpS_le]; omega
/-- What is left ahead of the stamp behind a Trim. -/
theorem trim_left {l : List VV} (h : Rise l) (s : St) : uptoV (l.drop (trimN l s)) s = (if getB (l.drop (trimN l s)) s then 1 else 0) ∧ trimN (l.drop (trimN l s)) s = 0 := by
  have h1 := (trim_get h (cmpS_self s)).1
  have hu := uptoV_drop h s (trimN_le l s)
  have key : uptoV (l.drop (trimN l s)) s = if getB (l.drop (trimN l s)) s then 1 else 0 := by
    rw [hu, h1]
    cases hb : getB l s
    · unfold trimN; rw [hb]; simp
    · have h2 : atB l s = true := by unfold getB at hb; exact (Bool.and_eq_true_iff.1 hb).1
      have h3 : 0 < uptoV l s := of_decide_eq_true h2
      unfold trimN; rw [hb]; simp; omega
  refine ⟨key, ?_⟩
  generalize l.drop (trimN l s) = r at *
  unfold trimN
  split
  · rw [key, if_pos (by assumption)]
  · rw [key, if_neg (by assumption)]
end Go.Proofs.Ytmliclfepnebfaa

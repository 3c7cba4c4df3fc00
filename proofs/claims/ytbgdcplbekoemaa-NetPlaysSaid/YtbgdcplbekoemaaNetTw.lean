
/-
  net: the code's Net and the reference's, among other things.
-/
import Derived.Test.YtbgdcplbekoemaaRefNF
namespace Go.Proofs.Ytbgdcplbekoemaa
open Go.RowKit
set_option linter.unusedVariables false
/-- Both Nets, with these messages, among other things. -/
def Tw (w0 w : World) (gn gx : Nat) (l l2 : List MV) (rs : List Res) : Prop := ∃ A c ms A' c' ms', ms.map UdV.val = l ∧ ms'.map UdV.val = l2 ∧ All w0 w (rNet gn A c ms :: rRef gx A' c' ms' :: rs)
section
variable {w0 w w' : World} {gn gx : Nat} {l l' l2 l2' : List MV} {rs rs' : List Res}
theorem Tw.net (h : Tw w0 w gn gx l l2 rs) : ∃ A c ms, ms.map UdV.val = l2 ∧ NetA w0 w gn l (rRef gx A c ms :: rs) := by
  obtain ⟨A, c, ms, A', c', ms', e, e2, H⟩ := h
  exact ⟨A', c', ms', e2, A, c, ms, e, H⟩
theorem Tw.ofN {A : Option Addr} {c : Nat} {ms : List UdV} (e : ms.map UdV.val = l2) (h : NetA w0 w gn l (rRef gx A c ms :: rs)) : Tw w0 w gn gx l l2 rs := by
  obtain ⟨A', c', ms', e2, H⟩ := h
  exact ⟨A', c', ms', A, c, ms, e2, e, H⟩
theorem Tw.ref (h : Tw w0 w gn gx l l2 rs) : ∃ A c ms, ms.map UdV.val = l ∧ RefA w0 w gx l2 (rNet gn A c ms :: rs) := by
  obtain ⟨A, c, ms, A', c', ms', e, e2, H⟩ := h
  exact ⟨A, c, ms, e, A', c', ms', e2, H.perm (List.Perm.swap _ _ _)⟩
theorem Tw.ofR {A : Option Addr} {c : Nat} {ms : List UdV} (e : ms.map UdV.val = l) (h : RefA w0 w gx l2 (rNet gn A c ms :: rs)) : Tw w0 w gn gx l l2 rs := by
  obtain ⟨A', c', ms', e2, H⟩ := h
  exact ⟨A, c, ms, A', c', ms', e, e2, H.perm (List.Perm.swap _ _ _)⟩
theorem Tw.code {f : Nat} {args : Array Value} {v : Value} (h : Tw w0 w gn gx l l2 rs) (C : ∀ rs, NetA w0 w gn l rs → Calls Try.prog f args w fun e w' => e = .returned v ∧ NetA w0 w' gn l' rs ∧ w.heap.size ≤ w'.heap.size) : Calls Try.prog f args w fun e w' => e = .returned v ∧ Tw w0 w' gn gx l' l2 rs ∧ w.heap.size ≤ w'.heap.size := by
  obtain ⟨A, c, ms, e, H⟩ := h.net
  refine (C _ H).mono ?_
  rintro e1 w1 ⟨rfl, h1, h2⟩
  exact ⟨rfl, .ofN e h1, h2⟩
theorem Tw.refc {f : Nat} {args : Array Value} {v : Value} (h : Tw w0 w gn gx l l2 rs) (C : ∀ rs, RefA w0 w gx l2 rs → Calls Try.prog f args w fun e w' => e = .returned v ∧ RefA w0 w' gx l2' rs ∧ w.heap.size ≤ w'.heap.size) : Calls Try.prog f args w fun e w' => e = .returned v ∧ Tw w0 w' gn gx l l2' rs ∧ w.heap.size ≤ w'.heap.size := by
  obtain ⟨A, c, ms, e, H⟩ := h.ref
  refine (C _ H).mono ?_
  rintro e1 w1 ⟨rfl, h1, h2⟩
  exact ⟨rfl, .ofR e h1, h2⟩
theorem Tw.quiet (h : Tw w0 w gn gx l l2 rs) (hc : Chg [] w w') : Tw w0 w' gn gx l l2 rs := by
  obtain ⟨A, c, ms, A', c', ms', e, e2, H⟩ := h
  exact ⟨A, c, ms, A', c', ms', e, e2, H.quiet hc⟩
theorem Tw.chg (h : Tw w0 w gn gx l l2 rs) : Chg [] w0 w := by
  obtain ⟨A, c, ms, A', c', ms', e, e2, H⟩ := h
  exact H.chg
theorem Tw.get (h : Tw w0 w gn gx l l2 rs) (i : Nat) {r : Res} (hi : rs[i]? = some r) : r.P w := by
  obtain ⟨A, c, ms, A', c', ms', e, e2, H⟩ := h
  exact H.get (i + 2) (by simpa using hi)
theorem Tw.beside (h : Tw w0 w gn gx l l2 rs) (f : ∀ ts, All w0 w (rs ++ ts) → All w0 w' (rs' ++ ts)) : Tw w0 w' gn gx l l2 rs' := by
  obtain ⟨A, c, ms, A', c', ms', e, e2, H⟩ := h
  have hp : ∀ q : List Res, (rNet gn A c ms :: rRef gx A' c' ms' :: q).Perm (q ++ [rNet gn A c ms, rRef gx A' c' ms']) := fun q => (List.perm_append_comm (l₁ := [rNet gn A c ms, rRef gx A' c' ms']) (l₂ := q))
  exact ⟨A, c, ms, A', c', ms', e, e2, (f _ (H.perm (hp rs))).perm (hp rs').symm⟩
theorem Tw.newAt (h : Tw w0 w gn gx l l2 rs) (t : TypeId) (cs : Array Value) {g : Nat} (hg : g = w.heap.size) : Tw w0 (w.alloc (.cells cs t)) gn gx l l2 (rAt g t cs :: rs) := h.beside fun ts H => H.newAt t cs hg
theorem Tw.ruin {r : Res} (h : Tw w0 w gn gx l l2 (r :: rs)) (hc : Chg r.F w w') : Tw w0 w' gn gx l l2 rs := h.beside fun ts H => H.ruin hc
theorem Tw.tail {r : Res} (h : Tw w0 w gn gx l l2 (r :: rs)) : Tw w0 w gn gx l l2 rs := h.ruin (Chg.refl _ _)
theorem Tw.swap {a b : Res} (h : Tw w0 w gn gx l l2 (a :: b :: rs)) : Tw w0 w gn gx l l2 (b :: a :: rs) := h.beside fun ts H => H.perm (List.Perm.swap _ _ _)
theorem Tw.row (h : Tw w0 w gn gx l l2 rs) (hc : Chg [] w w') {e : TypeId} {A : Option Addr} {n c : Nat} {xs : List Value} (ho : w'.ownsRow w.heap.size e 1 (.slice A n c) n xs) : Tw w0 w' gn gx l l2 (rRow 0 e A n c xs :: rs) := h.beside fun ts H => H.row hc ho
theorem Tw.give (h : Tw w0 w gn gx l l2 rs) (hl : l.length ≤ 1024) (hp : 0 < l.length) (p : Int) {m : MV} (hm : l[pickN p l.length]? = some m) :
    Calls Try.prog 13 #[.pointer (some ⟨gn, 0, none⟩), .int .i64 p] w fun e w' => ∃ B c2, e = .returned (.tuple #[.agg #[.int .i64 m.f, .int .i64 m.t, .slice B m.d.length c2], .bool true]) ∧ Tw w0 w' gn gx (l.eraseIdx (pickN p l.length)) l2 (rRow 0 5 B m.d.length c2 (cB m.d) :: rs) ∧ w.heap.size ≤ w'.heap.size := by
  obtain ⟨A, c, ms, e, H⟩ := h.net
  refine (give_all H hl hp p _ rfl m hm).mono ?_
  rintro e1 w1 ⟨B, c2, rfl, h1, h2⟩
  exact ⟨B, c2, rfl, .ofN e h1.swap, h2⟩
theorem Tw.rgive (h : Tw w0 w gn gx l l2 rs) (hl : l2.length ≤ 1024) (hp : 0 < l2.length) (p : Int) {m : MV} (hm : l2[pickN p l2.length]? = some m) :
    Calls Try.prog 30 #[.pointer (some ⟨gx, 0, none⟩), .int .i64 p] w fun e w' => ∃ B c2, e = .returned (.tuple #[.agg #[.int .i64 m.f, .int .i64 m.t, .slice B m.d.length c2], .bool true]) ∧ Tw w0 w' gn gx l (l2.eraseIdx (pickN p l2.length)) (rRow 0 5 B m.d.length c2 (cB m.d) :: rs) ∧ w.heap.size ≤ w'.heap.size := by
  obtain ⟨A, c, ms, e, H⟩ := h.ref
  refine (rgive_all H hl hp p _ rfl m hm).mono ?_
  rintro e1 w1 ⟨B, c2, rfl, h1, h2⟩
  exact ⟨B, c2, rfl, .ofR e h1.swap, h2⟩
end
/-- What is always so of a Net's messages. -/
structure NInv (l : List MV) : Prop where
  len : l.length ≤ 1024
  d : ∀ m ∈ l, m.d.length ≤ 8000
theorem NInv.nil : NInv [] := ⟨by simp, by simp⟩
theorem NInv.big {l : List MV} (h : NInv l) : ∀ m ∈ l, m.d.length ≤ 1099511627776 := fun m hm => Nat.le_trans (h.d m hm) (by omega)
theorem NInv.erase {l : List MV} (h : NInv l) (i : Nat) : NInv (l.eraseIdx i) := ⟨Nat.le_trans (List.eraseIdx_sublist _ _).length_le h.len, fun m hm => h.d m ((List.eraseIdx_sublist _ _).subset hm)⟩
theorem NInv.drop {l : List MV} (h : NInv l) (ids : List Int) : NInv (dropL l ids) := ⟨Nat.le_trans (List.length_filter_le _ _) h.len, fun m hm => h.d m (List.mem_filter.1 hm).1⟩
theorem NInv.twice {l : List MV} (h : NInv l) (p : Int) : NInv (twiceL l p) := by
  unfold twiceL
  by_cases hl : l.length < 1024
  · rw [if_pos hl]
    cases hm : l[pickN p l.length]? with
    | none => simpa using h
    | some m =>
      refine ⟨by simp; omega, fun x hx => ?_⟩
      rcases List.mem_append.1 hx with hx | hx
      · exact h.d x hx
      · simp at hx; subst hx; exact h.d _ (List.mem_of_getElem? hm)
  · rw [if_neg hl]; exact h
theorem NInv.late {l : List MV} (h : NInv l) (p : Int) : NInv (lateL l p) := by
  unfold lateL
  cases hm : l[pickN p l.length]? with
  | none => simpa using h.erase _
  | some m =>
    have hi := (List.getElem?_eq_some_iff.1 hm).1
    refine ⟨?_, fun x hx => ?_⟩
    · rw [List.length_append, List.length_eraseIdx, if_pos hi]
      have := h.len
      simp; omega
    · rcases List.mem_append.1 hx with hx | hx
      · exact (h.erase _).d x hx
      · simp at hx; subst hx; exact h.d _ (List.mem_of_getElem? hm)
theorem NInv.spoil {l : List MV} (h : NInv l) (p a : Int) (b : UInt8) : NInv (spoilLs l p a b) := by
  unfold spoilLs
  cases hm : l[pickN p l.length]? with
  | none => exact h
  | some m =>
    simp only
    split
    · refine ⟨by rw [List.length_set]; exact h.len, fun x hx => ?_⟩
      rcases List.mem_or_eq_of_mem_set hx with hx | rfl
      · exact h.d x hx
      · have := h.d m (List.mem_of_getElem? hm)
        simpa [spoilM] using this
    · exact h
theorem NInv.send {l : List MV} (h : NInv l) {ms : List MsgV} (hd : ∀ x ∈ ms, x.d.length ≤ 8000) : NInv (sendL l ms ms.length) := by
  refine ⟨by rw [sendL_len (Nat.le_refl _)]; have := h.len; omega, fun x hx => ?_⟩
  unfold sendL at hx
  rcases List.mem_append.1 hx with hx | hx
  · exact h.d x hx
  · obtain ⟨y, hy, rfl⟩ := List.mem_map.1 (List.mem_of_mem_take hx)
    exact hd y hy
end Go.Proofs.Ytbgdcplbekoemaa

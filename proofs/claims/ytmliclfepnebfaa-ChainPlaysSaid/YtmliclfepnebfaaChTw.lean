
/-
  chain: the code's chain and the reference's, among other things; answers that are spoilt one by one.
-/
import Derived.Test.YtmliclfepnebfaaChRef
namespace Go.Proofs.Ytmliclfepnebfaa
open Go.RowKit
set_option linter.unusedVariables false
/-- Both chains, with these versions, among other things. -/
def Pl (w0 w : World) (gc gr : Nat) (l l2 : List VV) (rs : List Res) : Prop := ∃ A c ms A' c' ms', ms.map VrV.v = l ∧ ms'.map VrV.v = l2 ∧ All w0 w (rCh 65 gc A c ms :: rCh 55 gr A' c' ms' :: rs)
/-- A row of versions of which the bytes from number k on are still owned. -/
structure VsQ (A : Option Addr) (c : Nat) (ms : List VrV) (k : Nat) (w : World) : Prop where
  row : w.ownsRow 0 28 6 (.slice A ms.length c) ms.length (cVr ms)
  dat : ∀ j (h : j < ms.length), k ≤ j → w.ownsRow 0 5 1 (.slice ms[j].A ms[j].val.length ms[j].cp) ms[j].val.length (cB ms[j].val)
def rVq (A : Option Addr) (c : Nat) (ms : List VrV) (k : Nat) : Res := ⟨vsF A ms, VsQ A c ms k⟩
theorem rVq_stable (w0 : World) (A : Option Addr) (c : Nat) (ms : List VrV) (k : Nat) : Stable w0 (rVq A c ms k) := fun w w' h hs hk =>
  ⟨own_stable h.row (fun b hb hm => hk b hb (.inl (List.mem_append_left _ hm))), fun j hj hkj => own_stable (h.dat j hj hkj) (fun b hb hm => hk b hb (.inl (List.mem_append_right _ (mem_datV (List.getElem_mem hj) hm))))⟩
theorem datV_apart : ∀ {xs : List VrV}, (datV xs).Nodup → ∀ {j k : Nat} (hj : j < xs.length) (hk : k < xs.length), j ≠ k → ∀ b ∈ blk xs[j].A, b ∉ blk xs[k].A
  | a :: xs, hn, 0, 0, _, _, h => absurd rfl h
  | a :: xs, hn, 0, k + 1, _, hk, _ => fun b hb hb2 => by
    have hn' : (blk a.A ++ datV xs).Nodup := hn
    exact (List.nodup_append.1 hn').2.2 b hb b (mem_datV (List.getElem_mem (by simpa using hk)) hb2) rfl
  | a :: xs, hn, j + 1, 0, hj, _, _ => fun b hb hb2 => by
    have hn' : (blk a.A ++ datV xs).Nodup := hn
    exact (List.nodup_append.1 hn').2.2 b hb2 b (mem_datV (List.getElem_mem (by simpa using hj)) hb) rfl
  | a :: xs, hn, j + 1, k + 1, hj, hk, h => by
    have hn' : (blk a.A ++ datV xs).Nodup := hn
    exact datV_apart (List.nodup_append.1 hn').2.1 (by simpa using hj) (by simpa using hk) (by omega)
section
variable {w0 w w' : World} {gc gr : Nat} {l l' l2 l2' : List VV} {rs rs' : List Res} {A : Option Addr} {c : Nat} {ms : List VrV}
theorem Pl.c_ (h : Pl w0 w gc gr l l2 rs) : ∃ A c ms, ms.map VrV.v = l2 ∧ ChA 65 w0 w gc l (rCh 55 gr A c ms :: rs) := by
  obtain ⟨A, c, ms, A', c', ms', e, e2, H⟩ := h
  exact ⟨A', c', ms', e2, A, c, ms, e, H⟩
theorem Pl.ofC (e : ms.map VrV.v = l2) (h : ChA 65 w0 w gc l (rCh 55 gr A c ms :: rs)) : Pl w0 w gc gr l l2 rs := by
  obtain ⟨A', c', ms', e2, H⟩ := h
  exact ⟨A', c', ms', A, c, ms, e2, e, H⟩
theorem Pl.r_ (h : Pl w0 w gc gr l l2 rs) : ∃ A c ms, ms.map VrV.v = l ∧ ChA 55 w0 w gr l2 (rCh 65 gc A c ms :: rs) := by
  obtain ⟨A, c, ms, A', c', ms', e, e2, H⟩ := h
  exact ⟨A, c, ms, e, A', c', ms', e2, H.perm (List.Perm.swap _ _ _)⟩
theorem Pl.ofR (e : ms.map VrV.v = l) (h : ChA 55 w0 w gr l2 (rCh 65 gc A c ms :: rs)) : Pl w0 w gc gr l l2 rs := by
  obtain ⟨A', c', ms', e2, H⟩ := h
  exact ⟨A, c, ms, A', c', ms', e, e2, H.perm (List.Perm.swap _ _ _)⟩
theorem Pl.code {f : Nat} {args : Array Value} {v : Value} (h : Pl w0 w gc gr l l2 rs) (C : ∀ rs, ChA 65 w0 w gc l rs → Calls Try.prog f args w fun e w' => e = .returned v ∧ ChA 65 w0 w' gc l' rs) : Calls Try.prog f args w fun e w' => e = .returned v ∧ Pl w0 w' gc gr l' l2 rs := by
  obtain ⟨A, c, ms, e, H⟩ := h.c_
  refine (C _ H).mono ?_
  rintro e1 w1 ⟨rfl, h1⟩
  exact ⟨rfl, .ofC e h1⟩
theorem Pl.refc {f : Nat} {args : Array Value} {v : Value} (h : Pl w0 w gc gr l l2 rs) (C : ∀ rs, ChA 55 w0 w gr l2 rs → Calls Try.prog f args w fun e w' => e = .returned v ∧ ChA 55 w0 w' gr l2' rs) : Calls Try.prog f args w fun e w' => e = .returned v ∧ Pl w0 w' gc gr l l2' rs := by
  obtain ⟨A, c, ms, e, H⟩ := h.r_
  refine (C _ H).mono ?_
  rintro e1 w1 ⟨rfl, h1⟩
  exact ⟨rfl, .ofR e h1⟩
theorem Pl.quiet (h : Pl w0 w gc gr l l2 rs) (hc : Chg [] w w') : Pl w0 w' gc gr l l2 rs := by
  obtain ⟨A, c, ms, A', c', ms', e, e2, H⟩ := h
  exact ⟨A, c, ms, A', c', ms', e, e2, H.quiet hc⟩
theorem Pl.chg (h : Pl w0 w gc gr l l2 rs) : Chg [] w0 w := by
  obtain ⟨A, c, ms, A', c', ms', e, e2, H⟩ := h
  exact H.chg
theorem Pl.get (h : Pl w0 w gc gr l l2 rs) (i : Nat) {r : Res} (hi : rs[i]? = some r) : r.P w := by
  obtain ⟨A, c, ms, A', c', ms', e, e2, H⟩ := h
  exact H.get (i + 2) (by simpa using hi)
/-- The reference's chain, to be read. -/
theorem Pl.rd (h : Pl w0 w gc gr l l2 rs) : ∃ A c ms, ms.map VrV.v = l2 ∧ ChP 55 gr A c ms w := by
  obtain ⟨A, c, ms, A', c', ms', e, e2, H⟩ := h
  exact ⟨A', c', ms', e2, H.get 1 rfl⟩
theorem Pl.beside (h : Pl w0 w gc gr l l2 rs) (f : ∀ ts, All w0 w (rs ++ ts) → All w0 w' (rs' ++ ts)) : Pl w0 w' gc gr l l2 rs' := by
  obtain ⟨A, c, ms, A', c', ms', e, e2, H⟩ := h
  have hp : ∀ q : List Res, (rCh 65 gc A c ms :: rCh 55 gr A' c' ms' :: q).Perm (q ++ [rCh 65 gc A c ms, rCh 55 gr A' c' ms']) := fun q => (List.perm_append_comm (l₁ := [rCh 65 gc A c ms, rCh 55 gr A' c' ms']) (l₂ := q))
  exact ⟨A, c, ms, A', c', ms', e, e2, (f _ (H.perm (hp rs))).perm (hp rs').symm⟩
theorem Pl.newAt (h : Pl w0 w gc gr l l2 rs) (t : TypeId) (cs : Array Value) {g : Nat} (hg : g = w.heap.size) : Pl w0 (w.alloc (.cells cs t)) gc gr l l2 (rAt g t cs :: rs) := h.beside fun ts H => H.newAt t cs hg
theorem Pl.ruin {r : Res} (h : Pl w0 w gc gr l l2 (r :: rs)) (hc : Chg r.F w w') : Pl w0 w' gc gr l l2 rs := h.beside fun ts H => H.ruin hc
theorem Pl.tail {r : Res} (h : Pl w0 w gc gr l l2 (r :: rs)) : Pl w0 w gc gr l l2 rs := h.ruin (Chg.refl _ _)
theorem Pl.swap {a b : Res} (h : Pl w0 w gc gr l l2 (a :: b :: rs)) : Pl w0 w gc gr l l2 (b :: a :: rs) := h.beside fun ts H => H.perm (List.Perm.swap _ _ _)
theorem Pl.row (h : Pl w0 w gc gr l l2 rs) (hc : Chg [] w w') {e : TypeId} {A : Option Addr} {n c : Nat} {xs : List Value} (ho : w'.ownsRow w.heap.size e 1 (.slice A n c) n xs) : Pl w0 w' gc gr l l2 (rRow 0 e A n c xs :: rs) := h.beside fun ts H => H.row hc ho
theorem Pl.vers (h : Pl w0 w gc gr l l2 rs) (k : All w w' [rVs A c ms]) : Pl w0 w' gc gr l l2 (rVq A c ms 0 :: rs) := h.beside fun ts H => by
  have h1 := k.get 0 rfl
  refine H.new k.chg (rVq A c ms 0) (fun b hb => ⟨(k.rng 0 rfl b hb).1, (k.rng 0 rfl b hb).2⟩) ?_ ⟨h1.row, fun j hj _ => h1.dat _ (List.getElem_mem hj)⟩ (rVq_stable _ _ _ _ _)
  have h3 : (rVs A c ms).F.Nodup := by have := k.nodup; simpa using this
  exact h3
theorem Pl.spoilt {q : Nat} (h : Pl w0 w gc gr l l2 (rVq A c ms q :: rs)) (hq : q < ms.length) (hc : Chg (blk ms[q].A) w w') : Pl w0 w' gc gr l l2 (rVq A c ms (q + 1) :: rs) := by
  refine h.beside fun ts H => ?_
  have hP := H.get 0 rfl
  have hn := H.nodup
  simp only [List.cons_append, List.map_cons, List.flatten_cons, List.nodup_append] at hn
  have hdn := (List.nodup_append.1 (show (blk A ++ datV ms).Nodup from hn.1)).2.1
  refine H.same (hc.mono (fun j hj => .inl (List.mem_append_right _ (mem_datV (List.getElem_mem hq) hj)))) (P' := VsQ A c ms (q + 1)) ⟨own_keep hP.row hc (fun b hb hm => own_ne1 hP.row (hP.dat q hq (Nat.le_refl _)) (by decide) b hb (ob _ _ _ _ hm)), fun j hj hkj => ?_⟩ (rVq_stable _ _ _ _ _)
  refine own_keep (hP.dat j hj (by omega)) hc (fun b hb hm => ?_)
  have hb2 := bo _ _ _ _ hb
  exact datV_apart hdn hj hq (by omega) b hb2 hm
/-- Both chains stand side by side. -/
theorem Pl.start (h : ChA 65 w0 w gc l []) (k : ChA 55 w w' gr l2 []) : Pl w0 w' gc gr l l2 [] := by
  obtain ⟨A, c, ms, e, H⟩ := k
  exact Pl.ofC e (h.one H (rCh_stable _ _ _ _ _ _))
end
end Go.Proofs.Ytmliclfepnebfaa

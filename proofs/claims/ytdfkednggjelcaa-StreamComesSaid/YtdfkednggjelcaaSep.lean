
/-
  GROUND: things in memory, each with its blocks, no block twice: what happens to one leaves the others as they are ('All').
-/
import Derived.Test.YtdfkednggjelcaaMBase
namespace Go.Proofs.Ytdfkednggjelcaa
open Go.RowKit

/-- A thing: its blocks, and what holds of it. -/
structure Res where
  F : List Nat
  P : World → Prop

/-- It hangs on its own blocks alone, and on those that were there at w0. -/
def Stable (w0 : World) (r : Res) : Prop := ∀ w w', r.P w → w.heap.size ≤ w'.heap.size → (∀ b, b < w.heap.size → b ∈ r.F ∨ b < w0.heap.size → w'.heap[b]? = w.heap[b]?) → r.P w'

structure All (w0 w : World) (rs : List Res) : Prop where
  chg : Chg [] w0 w
  nodup : (rs.map Res.F).flatten.Nodup
  range : ∀ r ∈ rs, ∀ b ∈ r.F, w0.heap.size ≤ b ∧ b < w.heap.size
  holds : ∀ r ∈ rs, r.P w ∧ Stable w0 r

theorem All.start (w : World) : All w w [] := ⟨Chg.refl _ _, by simp, by simp, by simp⟩

section
variable {w0 w w' : World} {rs : List Res}
theorem All.get (h : All w0 w rs) (i : Nat) {r : Res} (hi : rs[i]? = some r) : r.P w := (h.holds r (List.mem_of_getElem? hi)).1
theorem All.rng (h : All w0 w rs) (i : Nat) {r : Res} (hi : rs[i]? = some r) : ∀ b ∈ r.F, w0.heap.size ≤ b ∧ b < w.heap.size := h.range r (List.mem_of_getElem? hi)
theorem All.quiet (h : All w0 w rs) (hc : Chg [] w w') : All w0 w' rs :=
  ⟨h.chg.trans hc (by simp), h.nodup, fun r hr b hb => ⟨(h.range r hr b hb).1, Nat.lt_of_lt_of_le (h.range r hr b hb).2 hc.size⟩, fun r hr => by
    obtain ⟨h1, h2⟩ := h.holds r hr
    exact ⟨h2 w w' h1 hc.size (fun b hb _ => hc.block b hb (by simp)), h2⟩⟩
theorem All.new (h : All w0 w rs) (hc : Chg [] w w') (r : Res) (hF : ∀ b ∈ r.F, w.heap.size ≤ b ∧ b < w'.heap.size) (hn : r.F.Nodup) (hP : r.P w') (hS : Stable w0 r) : All w0 w' (r :: rs) := by
  have hq := h.quiet hc
  refine ⟨hq.chg, ?_, ?_, ?_⟩
  · simp only [List.map_cons, List.flatten_cons, List.nodup_append]
    refine ⟨hn, h.nodup, fun a ha b hb => ?_⟩
    obtain ⟨l, hl, hbl⟩ := List.mem_flatten.1 hb
    obtain ⟨q, hq, rfl⟩ := List.mem_map.1 hl
    have h1 := (hF a ha).1
    have h2 := (h.range q hq b hbl).2
    omega
  · intro q hm b hb
    rcases List.mem_cons.1 hm with rfl | hm
    · exact ⟨Nat.le_trans h.chg.size (hF b hb).1, (hF b hb).2⟩
    · exact hq.range q hm b hb
  · intro q hm
    rcases List.mem_cons.1 hm with rfl | hm
    · exact ⟨hP, hS⟩
    · exact hq.holds q hm
/-- One thing more, above all that are there. -/
theorem All.insert (h : All w0 w rs) (M : Nat) (hM : w0.heap.size ≤ M) (hlow : ∀ r ∈ rs, ∀ b ∈ r.F, b < M) (q : Res) (hF : ∀ b ∈ q.F, M ≤ b ∧ b < w.heap.size) (hn : q.F.Nodup) (hP : q.P w) (hS : Stable w0 q) : All w0 w (q :: rs) := by
  refine ⟨h.chg, ?_, ?_, ?_⟩
  · simp only [List.map_cons, List.flatten_cons, List.nodup_append]
    refine ⟨hn, h.nodup, fun a ha b hb => ?_⟩
    obtain ⟨l, hl, hbl⟩ := List.mem_flatten.1 hb
    obtain ⟨r, hr, rfl⟩ := List.mem_map.1 hl
    have h1 := (hF a ha).1
    have h2 := hlow r hr b hbl
    omega
  · intro r hm b hb
    rcases List.mem_cons.1 hm with rfl | hm
    · exact ⟨Nat.le_trans hM (hF b hb).1, (hF b hb).2⟩
    · exact h.range r hm b hb
  · intro r hm
    rcases List.mem_cons.1 hm with rfl | hm
    · exact ⟨hP, hS⟩
    · exact h.holds r hm
theorem All.perm (h : All w0 w rs) {ts : List Res} (hp : rs.Perm ts) : All w0 w ts :=
  ⟨h.chg, ((hp.map Res.F).flatten.nodup_iff).1 h.nodup, fun r hr => h.range r (hp.mem_iff.2 hr), fun r hr => h.holds r (hp.mem_iff.2 hr)⟩
theorem All.apart {r : Res} (h : All w0 w (r :: rs)) (i : Nat) {q : Res} (hi : rs[i]? = some q) : ∀ x ∈ q.F, x ∉ r.F := by
  have hnd := h.nodup
  simp only [List.map_cons, List.flatten_cons, List.nodup_append] at hnd
  exact fun b hb hm => hnd.2.2 b hm b (List.mem_flatten.2 ⟨q.F, List.mem_map.2 ⟨q, List.mem_of_getElem? hi, rfl⟩, hb⟩) rfl
/-- What happens to the first. -/
theorem All.head {r : Res} (h : All w0 w (r :: rs)) (hc : Chg r.F w w') (r' : Res) (hF : ∀ b ∈ r'.F, (b ∈ r.F ∨ w.heap.size ≤ b) ∧ b < w'.heap.size) (hn : r'.F.Nodup) (hP : r'.P w') (hS : Stable w0 r') : All w0 w' (r' :: rs) := by
  have hnd := h.nodup
  simp only [List.map_cons, List.flatten_cons, List.nodup_append] at hnd
  obtain ⟨_, hn2, hdis⟩ := hnd
  have hdis' : ∀ q ∈ rs, ∀ b ∈ q.F, b ∉ r.F := fun q hq b hb hm => hdis b hm b (List.mem_flatten.2 ⟨q.F, List.mem_map.2 ⟨q, hq, rfl⟩, hb⟩) rfl
  have hr0 := h.range r (by simp)
  refine ⟨h.chg.trans hc (fun x hx => .inr (hr0 x hx).1), ?_, ?_, ?_⟩
  · simp only [List.map_cons, List.flatten_cons, List.nodup_append]
    refine ⟨hn, hn2, fun a ha b hb hab => ?_⟩
    subst hab
    obtain ⟨l, hl, hbl⟩ := List.mem_flatten.1 hb
    obtain ⟨q, hq, rfl⟩ := List.mem_map.1 hl
    rcases (hF a ha).1 with h1 | h1
    · exact hdis' q hq a hbl h1
    · have := (h.range q (List.mem_cons_of_mem _ hq) a hbl).2; omega
  · intro q hm b hb
    rcases List.mem_cons.1 hm with rfl | hm
    · refine ⟨?_, (hF b hb).2⟩
      rcases (hF b hb).1 with h1 | h1
      · exact (hr0 b h1).1
      · exact Nat.le_trans h.chg.size h1
    · have := h.range q (List.mem_cons_of_mem _ hm) b hb
      exact ⟨this.1, Nat.lt_of_lt_of_le this.2 hc.size⟩
  · intro q hm
    rcases List.mem_cons.1 hm with rfl | hm
    · exact ⟨hP, hS⟩
    · obtain ⟨h1, h2⟩ := h.holds q (List.mem_cons_of_mem _ hm)
      refine ⟨h2 w w' h1 hc.size (fun b hb hbo => hc.block b hb (fun hx => ?_)), h2⟩
      rcases hbo with hbo | hbo
      · exact hdis' q hm b hbo hx
      · have := (hr0 b hx).1; omega
/-- The first is done with, whatever has become of it. -/
theorem All.ruin {r : Res} (h : All w0 w (r :: rs)) (hc : Chg r.F w w') : All w0 w' rs := by
  have h1 := h.head hc ⟨[], fun _ => True⟩ (by simp) (by simp) trivial (fun _ _ _ _ _ => trivial)
  exact ⟨h1.chg, by simpa using h1.nodup, fun q hq => h1.range q (List.mem_cons_of_mem _ hq), fun q hq => h1.holds q (List.mem_cons_of_mem _ hq)⟩
theorem All.tail {r : Res} (h : All w0 w (r :: rs)) : All w0 w rs := h.ruin (Chg.refl _ _)
/-- Two things as one. -/
theorem All.merge {r q : Res} (h : All w0 w (r :: q :: rs)) : All w0 w (⟨r.F ++ q.F, fun w => r.P w ∧ q.P w⟩ :: rs) := by
  obtain ⟨h1, h2⟩ := h.holds r (by simp)
  obtain ⟨h3, h4⟩ := h.holds q (by simp)
  refine ⟨h.chg, by simpa using h.nodup, ?_, ?_⟩
  · intro x hx b hb
    rcases List.mem_cons.1 hx with rfl | hx
    · rcases List.mem_append.1 hb with hb | hb
      · exact h.range r (by simp) b hb
      · exact h.range q (by simp) b hb
    · exact h.range x (List.mem_cons_of_mem _ (List.mem_cons_of_mem _ hx)) b hb
  · intro x hx
    rcases List.mem_cons.1 hx with rfl | hx
    · exact ⟨⟨h1, h3⟩, fun w w' hp hs hk => ⟨h2 w w' hp.1 hs (fun b hb ho => hk b hb (ho.imp (fun h => List.mem_append_left _ h) id)), h4 w w' hp.2 hs (fun b hb ho => hk b hb (ho.imp (fun h => List.mem_append_right _ h) id))⟩⟩
    · exact h.holds x (List.mem_cons_of_mem _ (List.mem_cons_of_mem _ hx))
/-- And as two again. -/
theorem All.split {F1 F2 : List Nat} {P1 P2 : World → Prop} (h : All w0 w (⟨F1 ++ F2, fun w => P1 w ∧ P2 w⟩ :: rs)) (s1 : Stable w0 ⟨F1, P1⟩) (s2 : Stable w0 ⟨F2, P2⟩) : All w0 w (⟨F1, P1⟩ :: ⟨F2, P2⟩ :: rs) := by
  obtain ⟨h1, _⟩ := h.holds _ (List.mem_cons_self)
  refine ⟨h.chg, by simpa using h.nodup, ?_, ?_⟩
  · intro x hx b hb
    rcases List.mem_cons.1 hx with rfl | hx
    · exact h.range _ List.mem_cons_self b (List.mem_append_left _ hb)
    · rcases List.mem_cons.1 hx with rfl | hx
      · exact h.range _ List.mem_cons_self b (List.mem_append_right _ hb)
      · exact h.range x (List.mem_cons_of_mem _ hx) b hb
  · intro x hx
    rcases List.mem_cons.1 hx with rfl | hx
    · exact ⟨h1.1, s1⟩
    · rcases List.mem_cons.1 hx with rfl | hx
      · exact ⟨h1.2, s2⟩
      · exact h.holds x (List.mem_cons_of_mem _ hx)
theorem stable_and {F1 F2 : List Nat} {P1 P2 : World → Prop} (s1 : Stable w0 ⟨F1, P1⟩) (s2 : Stable w0 ⟨F2, P2⟩) : Stable w0 ⟨F1 ++ F2, fun w => P1 w ∧ P2 w⟩ := fun w w' hp hs hk =>
  ⟨s1 w w' hp.1 hs (fun b hb ho => hk b hb (ho.imp (fun h => List.mem_append_left _ h) id)), s2 w w' hp.2 hs (fun b hb ho => hk b hb (ho.imp (fun h => List.mem_append_right _ h) id))⟩
/-- The first has changed within its own blocks. -/
theorem All.same {F : List Nat} {P P' : World → Prop} (h : All w0 w (⟨F, P⟩ :: rs)) (hc : Chg F w w') (hP : P' w') (hS : Stable w0 ⟨F, P'⟩) : All w0 w' (⟨F, P'⟩ :: rs) := by
  have hn := h.nodup
  simp only [List.map_cons, List.flatten_cons, List.nodup_append] at hn
  exact h.head hc ⟨F, P'⟩ (fun b hb => ⟨.inl hb, Nat.lt_of_lt_of_le (h.rng 0 rfl b hb).2 hc.size⟩) hn.1 hP hS
theorem perm_front {α : Type} (l : List α) (i : Nat) (x : α) (h : l[i]? = some x) : l.Perm (x :: l.eraseIdx i) := by
  obtain ⟨hi, rfl⟩ := List.getElem?_eq_some_iff.1 h
  rw [List.eraseIdx_eq_take_drop_succ]
  have e : l = l.take i ++ l[i] :: l.drop (i + 1) := by rw [← List.drop_eq_getElem_cons hi, List.take_append_drop]
  conv => lhs; rw [e]
  exact List.perm_middle
/-- A thing is brought to the front. -/
theorem All.front (h : All w0 w rs) (i : Nat) {r : Res} (hi : rs[i]? = some r) : All w0 w (r :: rs.eraseIdx i) := h.perm (perm_front rs i r hi)
/-- And laid back. -/
theorem All.back {r : Res} {ts : List Res} (i : Nat) (h : All w0 w (r :: ts)) (hi : i ≤ ts.length) : All w0 w (ts.insertIdx i r) := h.perm (List.perm_insertIdx r ts hi).symm
end

/-! ### Calls that only read, in a region that draws its order -/

theorem quiet_left {P : Program} {f : FuncId} {args : Array Value} {w : World} {n : Nat} {v : Value} (h : Calls P f args (w.drewN n) fun e w' => e = .returned v ∧ w.drewN n = w') :
    Calls P f args (w.drewN n) fun e w'' => e = .returned v ∧ ∃ m, w'' = w.drewN m := h.mono fun _ _ ⟨he, hm⟩ => ⟨he, n, hm.symm⟩
theorem quiet_left2 {P : Program} {f : FuncId} {args : Array Value} {w : World} {a n : Nat} {v : Value} (h : Calls P f args (w.drewN (a + n)) fun e w' => e = .returned v ∧ w.drewN (a + n) = w') :
    Calls P f args (w.drewN (a + n)) fun e w'' => e = .returned v ∧ ∃ m, w'' = w.drewN (a + m) := h.mono fun _ _ ⟨he, hm⟩ => ⟨he, n, hm.symm⟩
theorem All.drewN {w0 w : World} {rs : List Res} (h : All w0 w rs) (n : Nat) : All w0 (w.drewN n) rs := h.quiet ((Chg.refl _ _).drewN n)

/-! ### Rows -/

def rRow (base : Nat) (e : TypeId) (A : Option Addr) (n c : Nat) (xs : List Value) : Res := ⟨blk A, fun w => w.ownsRow base e 1 (.slice A n c) n xs⟩
theorem bo (A : Option Addr) (n c x : Nat) (h : (Value.slice A n c).ownBlock = some x) : x ∈ blk A := by rw [← own_blk A n c, h]; simp
theorem ob (A : Option Addr) (n c x : Nat) (hx : x ∈ blk A) : (Value.slice A n c).ownBlock = some x := by
  cases A with
  | none => simp [blk] at hx
  | some a => simp [blk] at hx; simp [Value.ownBlock, hx]
theorem blk_nodup (A : Option Addr) : (blk A).Nodup := by cases A <;> simp [blk]
theorem own_stable {w w' : World} {base : Nat} {e : TypeId} {size : Nat} {A : Option Addr} {n c : Nat} {xs : List Value} (h : w.ownsRow base e size (.slice A n c) n xs) (hk : ∀ b, b < w.heap.size → b ∈ blk A → w'.heap[b]? = w.heap[b]?) : w'.ownsRow base e size (.slice A n c) n xs := by
  refine ⟨h.1, ?_⟩
  rcases h.2 with h1 | ⟨g, cap, cur, h0, h2, h3, h4⟩
  · exact .inl h1
  · refine .inr ⟨g, cap, cur, h0, h2, (hk g (At.lt (t := e) h3) ?_).trans h3, h4⟩
    injection h0 with h0
    rw [h0]; simp [blk]
theorem rRow_stable (w0 : World) (base : Nat) (e : TypeId) (A : Option Addr) (n c : Nat) (xs : List Value) : Stable w0 (rRow base e A n c xs) :=
  fun _ _ h _ hk => own_stable h (fun b hb hm => hk b hb (.inl hm))
/-- A new row. -/
theorem All.row {w0 w w' : World} {rs : List Res} (h : All w0 w rs) (hc : Chg [] w w') {e : TypeId} {A : Option Addr} {n c : Nat} {xs : List Value} (ho : w'.ownsRow w.heap.size e 1 (.slice A n c) n xs) : All w0 w' (rRow 0 e A n c xs :: rs) :=
  h.new hc _ (fun b hb => own_in ho b hb) (blk_nodup A) (own_base ho (fun _ _ => Nat.zero_le _)) (rRow_stable _ _ _ _ _ _ _)
theorem At.stable {w w' : World} {g : Nat} {t : TypeId} {cs : Array Value} (h : At w g t cs) (hk : w'.heap[g]? = w.heap[g]?) : At w' g t cs := hk.trans h
def rAt (g : Nat) (t : TypeId) (cs : Array Value) : Res := ⟨[g], fun w => At w g t cs⟩
theorem rAt_stable (w0 : World) (g : Nat) (t : TypeId) (cs : Array Value) : Stable w0 (rAt g t cs) := fun _ _ h _ hk => At.stable h (hk g (At.lt h) (.inl (by simp [rAt])))
/-- A new block. -/
theorem All.newAt {w0 w : World} {rs : List Res} (h : All w0 w rs) (t : TypeId) (cs : Array Value) {g : Nat} (hg : g = w.heap.size) : All w0 (w.alloc (.cells cs t)) (rAt g t cs :: rs) := by
  subst hg
  exact h.new ((Chg.refl _ _).alloc _) _ (fun b hb => by simp [rAt] at hb; subst hb; simp) (by simp [rAt]) (At.new _ _ _) (rAt_stable _ _ _ _)
theorem Rd.stable {w w' : World} {size n : Nat} {A : Option Addr} {xs : List Value} (h : Rd w size A n xs) (hs : w.heap.size ≤ w'.heap.size) (hk : ∀ b, b < w.heap.size → b ∈ blk A → w'.heap[b]? = w.heap[b]?) : Rd w' size A n xs :=
  ⟨h.len, fun hn => by
    obtain ⟨ad, rfl, hb, hcell⟩ := h.at_ hn
    exact ⟨ad, rfl, Nat.lt_of_lt_of_le hb hs, fun j u hu => (World.cell?_of_block (w := w) (by rw [add_block]; exact hk _ hb (by simp [blk]))).trans (hcell j u hu)⟩⟩
theorem Rd.stable' {w w' : World} {size n : Nat} {A : Option Addr} {xs : List Value} (h : Rd w size A n xs) (hs : w.heap.size ≤ w'.heap.size) (hk : 0 < n → ∀ b, b < w.heap.size → b ∈ blk A → w'.heap[b]? = w.heap[b]?) : Rd w' size A n xs :=
  ⟨h.len, fun hn => (h.stable hs (hk hn)).at_ hn⟩
end Go.Proofs.Ytdfkednggjelcaa

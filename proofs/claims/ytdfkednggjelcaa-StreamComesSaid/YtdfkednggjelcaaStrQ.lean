
/-
  A queue: a row that is owned, of which the slice begins inside its block: cut from the front, appended to at the end.
-/
import Derived.Test.YtdfkednggjelcaaMBase
import Derived.ArgAppend
namespace Go.Proofs.Ytdfkednggjelcaa
open Go.RowKit
set_option linter.unusedVariables false
/-- A slice of an owned row, from some element on. -/
def Qu (w : World) (base : Nat) (e : TypeId) (size : Nat) (A : Option Addr) (n c : Nat) (xs : List Value) : Prop :=
  (n = 0 ∧ c = 0 ∧ xs = []) ∨ ∃ g k pre, A = some ⟨g, k * size, none⟩ ∧ pre.length = k * size ∧ xs.length = n * size ∧ w.ownsRow base e size (.slice (some ⟨g, 0, none⟩) (k + n) (k + c)) (k + n) (pre ++ xs)
section
variable {w w' : World} {base : Nat} {e : TypeId} {size n c : Nat} {A : Option Addr} {xs : List Value}
theorem Qu.nil (w : World) (base : Nat) (e : TypeId) (size : Nat) (A : Option Addr) : Qu w base e size A 0 0 [] := .inl ⟨rfl, rfl, rfl⟩
theorem Qu.of_own (h : w.ownsRow base e size (.slice A n c) n xs) : Qu w base e size A n c xs := by
  rcases h.2 with ⟨h1, h2⟩ | ⟨g, cap, cur, h1, _⟩
  · injection h1 with a1 a2 a3
    subst a1 a2 a3
    exact .inl ⟨rfl, rfl, List.eq_nil_of_length_eq_zero (by rw [h.1, Nat.zero_mul])⟩
  · injection h1 with a1 a2 a3
    subst a1
    exact .inr ⟨g, 0, [], by rw [Nat.zero_mul], by simp, h.1, by rw [Nat.zero_add, Nat.zero_add]; exact h⟩
theorem Qu.len (h : Qu w base e size A n c xs) : xs.length = n * size := by
  rcases h with ⟨rfl, _, rfl⟩ | ⟨g, k, pre, _, _, h, _⟩
  · simp
  · exact h
theorem Qu.cap (h : Qu w base e size A n c xs) : n ≤ c := by
  rcases h with ⟨rfl, rfl, rfl⟩ | ⟨g, k, pre, _, _, _, h⟩
  · exact Nat.le_refl _
  · have := own_cap h; omega
theorem Qu.keep (h : Qu w base e size A n c xs) {S : List Nat} (hc : Chg S w w') (hS : ∀ k ∈ blk A, k ∉ S) : Qu w' base e size A n c xs := by
  rcases h with h | ⟨g, k, pre, rfl, h1, h2, h3⟩
  · exact .inl h
  · exact .inr ⟨g, k, pre, rfl, h1, h2, own_keep h3 hc (fun j hj hm => hS j (by simpa [blk] using (show j = g by simpa [Value.ownBlock] using hj.symm)) hm)⟩
theorem Qu.rd (h : Qu w base e size A n c xs) : Rd w size A n xs := by
  rcases h with ⟨rfl, _, rfl⟩ | ⟨g, k, pre, rfl, h1, h2, h3⟩
  · exact Rd.nil _ _ _
  · refine ⟨h2, fun _ => ⟨_, rfl, (own_in h3 g (by simp [blk])).2, fun j u hu => ?_⟩⟩
    have h4 := h3.cells (g := g) rfl (k * size + j) u (by rw [List.getElem?_append_right (by omega), h1, Nat.add_sub_cancel_left]; exact hu)
    rw [Addr.add_lit] at h4 ⊢
    rw [Nat.zero_add] at h4
    exact h4
theorem Qu.lt (h : Qu w base e size A n c xs) (hn : 0 < c) : ∀ k ∈ blk A, base ≤ k ∧ k < w.heap.size := by
  rcases h with ⟨rfl, rfl, rfl⟩ | ⟨g, k, pre, rfl, h1, h2, h3⟩
  · omega
  · intro j hj
    exact own_in h3 j (by simpa [blk] using hj)
theorem Qu.form (h : Qu w base e size A n c xs) (hn : 0 < n) : ∃ g k, A = some ⟨g, k * size, none⟩ := by
  rcases h with ⟨h, _⟩ | ⟨g, k, pre, h1, _⟩
  · omega
  · exact ⟨g, k, h1⟩
/-- The first one is taken out. -/
theorem Qu.tail {x : List Value} (h : Qu w base e size A (n + 1) c (x ++ xs)) (hx : x.length = size) (hsz : 0 < size) : Qu w base e size (cutA A c 1 size) n (c - 1) xs := by
  have hc := h.cap
  have hl := h.len
  rw [List.length_append, hx, Nat.succ_mul] at hl
  rcases h with ⟨h, _⟩ | ⟨g, k, pre, rfl, h1, h2, h3⟩
  · omega
  · by_cases hc1 : c = 1
    · subst hc1
      obtain rfl : n = 0 := by omega
      exact .inl ⟨rfl, rfl, List.eq_nil_of_length_eq_zero (by omega)⟩
    · right
      refine ⟨g, k + 1, pre ++ x, ?_, by rw [List.length_append, h1, hx, Nat.succ_mul], by omega, ?_⟩
      · unfold cutA
        have e : k * size + 1 * size = (k + 1) * size := by rw [Nat.add_mul]
        rw [if_neg hc1, Option.map_some, Addr.add_lit, e]
      · have e1 : k + 1 + n = k + (n + 1) := by omega
        have e2 : k + 1 + (c - 1) = k + c := by omega
        rw [e1, e2, List.append_assoc]
        exact h3
end
section
variable {P : Program} (w : World)
theorem run_append_qu (base : Nat) (t ty e : TypeId) (i : TypeInfo) (z : Value) (size bytes : Nat) (ht : P.underlying t = some (.slice e)) (hi : P.info? e = some i) (hz : i.zero = some z)
    (hsize : i.size = size) (hby : i.bytes = bytes) (hzs : z.cells.size = size) (hsz : 0 < size)
    (A : Option Addr) (n c : Nat) (xs : List Value) (hq : Qu w base e size A n c xs)
    (B : Option Addr) (m c2 : Nat) (news : List Value) (hm : 0 < m) (hr : Rd w size B m news) (h1 : ∀ u ∈ news, u.oneCell' = true)
    (h63 : n + m ≤ maxLen) (hbytes : (n + m) * bytes ≤ 140737488355328) (hbase : base ≤ w.heap.size) :
    ∃ A' c' w', (Builtin.append_ #[t, t] ty #[.slice A n c, .slice B m c2]).run P w = .ok (.slice A' (n + m) c') w' ∧ Qu w' base e size A' (n + m) c' (xs ++ news) ∧ w.grownBy w' (if c = 0 then none else (Value.slice A n c).ownBlock) ∧
      (∀ j ∈ blk A', (j ∈ blk A ∧ 0 < c) ∨ w.heap.size ≤ j) ∧ (0 < c → ∀ g k j, A = some ⟨g, k, none⟩ → j < k + n * size → w'.cell? ⟨g, j, none⟩ = w.cell? ⟨g, j, none⟩) := by
  obtain ⟨ad, rfl, hab, hcells⟩ := hr.at_ hm
  have hl := hr.len
  have newOne : ∀ (v' : Value) (w' : World), w'.ownsRow w.heap.size e size v' (n + m) (xs ++ news) → w.grownBy w' none → ∃ A' c', v' = .slice A' (n + m) c' ∧ Qu w' base e size A' (n + m) c' (xs ++ news) ∧ w.grownBy w' (if c = 0 then none else (Value.slice A n c).ownBlock) ∧ (∀ j ∈ blk A', (j ∈ blk A ∧ 0 < c) ∨ w.heap.size ≤ j) ∧ (0 < c → ∀ g k j, A = some ⟨g, k, none⟩ → j < k + n * size → w'.cell? ⟨g, j, none⟩ = w.cell? ⟨g, j, none⟩) := fun v' w' r1 r2 => by
    obtain ⟨A', c', rfl⟩ := own_form r1
    exact ⟨A', c', rfl, Qu.of_own (own_base r1 (fun k hk => Nat.le_trans hbase (r1.lt k hk).1)), ⟨r2.os, r2.tape, r2.output, r2.size, fun k hk _ => r2.block k hk (by simp)⟩, fun j hj => .inr (own_in r1 j hj).1, fun h0 g k j e _ => World.cell?_of_block (r2.block g ((hq.lt h0 g (by rw [e]; simp [blk])).2) (by simp))⟩
  have hq' := hq
  rcases hq with ⟨rfl, rfl, rfl⟩ | ⟨g, k, pre, rfl, hp, hx, hown⟩
  · cases A with
    | none =>
      obtain ⟨v', w', hrun, r1, r2, _⟩ := run_append_own (P := P) w w.heap.size t ty e i z size bytes ht hi hz hsize hby hzs hsz (.slice none 0 0) 0 [] (World.ownsRow_nil w _ e size) ad m c2 news hl hcells h1 h63 hbytes (Nat.le_refl _)
      obtain ⟨A', c', rfl, q1, q2, q3⟩ := newOne v' w' r1 r2
      exact ⟨A', c', w', hrun, q1, q2, q3⟩
    | some b =>
      obtain ⟨v', w', hrun, r1, r2⟩ := run_append_arg_grows (P := P) w t ty e i z size bytes ht hi hz hsize hby hzs hsz b 0 0 [] (by simp) (fun j u hj => by simp at hj) ad m c2 news hl hcells (by omega) h63 hbytes
      obtain ⟨A', c', rfl, q1, q2, q3⟩ := newOne v' w' r1 r2
      exact ⟨A', c', w', hrun, q1, q2, q3⟩
  · have hnc := own_cap hown
    rcases Nat.lt_or_ge c (n + m) with hlt | hge
    · have holds : ∀ j u, xs[j]? = some u → w.cell? ((⟨g, k * size, none⟩ : Addr).add j) = some u := fun j u hu => by
        have h4 := hown.cells (g := g) rfl (k * size + j) u (by rw [List.getElem?_append_right (by omega), hp, Nat.add_sub_cancel_left]; exact hu)
        rw [Addr.add_lit] at h4 ⊢
        rw [Nat.zero_add] at h4
        exact h4
      obtain ⟨v', w', hrun, r1, r2⟩ := run_append_arg_grows (P := P) w t ty e i z size bytes ht hi hz hsize hby hzs hsz ⟨g, k * size, none⟩ n c xs hx holds ad m c2 news hl hcells hlt h63 hbytes
      obtain ⟨A', c', rfl, q1, q2, q3⟩ := newOne v' w' r1 r2
      exact ⟨A', c', w', hrun, q1, q2, q3⟩
    · subst hsize
      have hc0 : ¬ c = 0 := by omega
      rcases hown.2 with ⟨h0, _⟩ | ⟨g', cap, cur, hv, hbg, hg, hnc2, hcm, hcs, htake⟩
      · cases h0
      injection hv with e1 e2 e3
      injection e1 with e1
      injection e1 with e1 _ _
      subst e1 e3
      have hlen : (pre ++ xs ++ news).length = (k + n + m) * i.size := by rw [List.length_append, List.length_append, hp, hx, hl, Nat.add_mul, Nat.add_mul]
      have hfit : (k + n) * i.size + news.length ≤ cur.size := by rw [hl, hcs, ← Nat.add_mul]; exact Nat.mul_le_mul_right _ (by omega)
      have hf := run_firstCells_some (P := P) w i.size m ad m c2 news hl hcells
      have hst := run_storeCells_at P g (k * i.size + n * i.size) e news 0 cur w hg (by rw [Nat.add_zero, ← Nat.add_mul]; exact hfit) h1
      simp only [Nat.add_zero] at hst
      have hrun : (Builtin.append_ #[t, t] ty #[.slice (some ⟨g, k * i.size, none⟩) n c, .slice (some ad) m c2]).run P w = .ok (.slice (some ⟨g, k * i.size, none⟩) (n + m) c) (w.setRow g (cur.toList.take (k * i.size + n * i.size) ++ news ++ cur.toList.drop (k * i.size + n * i.size + news.length)).toArray) := by
        simp [Builtin.append_, run_underlying ht, sizeOf, typeInfo, hi, Builtin.lenOf, hge, hf, Addr.add_lit, hst]
      refine ⟨_, _, _, hrun, .inr ⟨g, k, pre, rfl, hp, by rw [List.length_append, hx, hl, Nat.add_mul], ⟨by rw [← List.append_assoc, hlen, Nat.add_assoc], .inr ⟨g, _, _, rfl, hbg, setRow_heap w g cur _ e _ hg, by omega, hcm, ?_, ?_⟩⟩⟩, ⟨rfl, rfl, rfl, by simp, fun j _ hj => setRow_other w g j _ (fun e => hj (by rw [if_neg hc0]; simp [Value.ownBlock, e]))⟩, fun j hj => .inl ⟨hj, by omega⟩, fun _ g2 k2 j eA hj => ?_⟩
      rotate_left 2
      · injection eA with eA
        injection eA with e1 e2 _
        subst e1 e2
        rw [cell_of_row w g j cur e (0, 0) hg, cell_of_row (w.setRow g _) g j _ e (0, 0) (setRow_heap w g cur _ e _ hg)]
        rw [List.getElem?_toArray, List.append_assoc, List.getElem?_append_left (by rw [List.length_take, Array.length_toList]; rw [← Nat.add_mul] at hj ⊢; omega), List.getElem?_take, if_pos hj, Array.getElem?_toList]
      · simp only [List.size_toArray, List.length_append, List.length_take, List.length_drop, Array.length_toList]
        rw [← Nat.add_mul]
        omega
      · have e5 : cur.toList.take (k * i.size + n * i.size) = pre ++ xs := by rw [← Nat.add_mul]; exact htake
        show List.take _ (cur.toList.take (k * i.size + n * i.size) ++ news ++ _) = _
        rw [e5, ← List.append_assoc]
        have e6 : (k + (n + m)) * i.size = (pre ++ xs ++ news).length := by rw [hlen, Nat.add_assoc]
        rw [e6]
        exact List.take_left
theorem wp_append_qu {o : Oper} {a : Act} {K : Act → World → Prop} {Q : Exit → Act → World → Prop} (s x : Operand) (t : TypeId)
    (ho : o.op = .call { callee := .builtin .append, args := #[s, x], argTypes := #[t, t] })
    (base : Nat) (e : TypeId) (i : TypeInfo) (z : Value) (size bytes : Nat) (ht : P.underlying t = some (.slice e)) (hi : P.info? e = some i) (hz : i.zero = some z)
    (hsize : i.size = size) (hby : i.bytes = bytes) (hzs : z.cells.size = size) (hsz : 0 < size)
    (A : Option Addr) (n c : Nat) (xs : List Value) (hs : a.eval s = .slice A n c) (hq : Qu w base e size A n c xs)
    (B : Option Addr) (m c2 : Nat) (news : List Value) (hm : 0 < m) (hx : a.eval x = .slice B m c2) (hr : Rd w size B m news) (h1 : ∀ u ∈ news, u.oneCell' = true)
    (h63 : n + m ≤ maxLen) (hbytes : (n + m) * bytes ≤ 140737488355328) (hbase : base ≤ w.heap.size)
    (h : ∀ A' c' w', Qu w' base e size A' (n + m) c' (xs ++ news) → Chg (if c = 0 then [] else blk A) w w' → (∀ j ∈ blk A', (j ∈ blk A ∧ 0 < c) ∨ w.heap.size ≤ j) → (0 < c → ∀ g k j, A = some ⟨g, k, none⟩ → j < k + n * size → w'.cell? ⟨g, j, none⟩ = w.cell? ⟨g, j, none⟩) → K (a.put o.dst (.slice A' (n + m) c')) w') : o.wp P a w K Q := by
  obtain ⟨A', c', w', hrun, h2, h3, h4, h6⟩ := run_append_qu (P := P) w base t o.type e i z size bytes ht hi hz hsize hby hzs hsz A n c xs hq B m c2 news hm hr h1 h63 hbytes hbase
  unfold Oper.wp execOp
  simp only [ho, resolve, invoke, builtin, Sem.run_bind, Sem.run_pure, Result.andThen_ok, List.map_toArray, List.map_cons, List.map_nil, hs, hx, hrun]
  refine h A' c' w' h2 ?_ h4 h6
  have h5 := Chg.of_grown h3
  split at h5
  · rename_i h0; rw [if_pos h0]; exact h5
  · rename_i h0; rw [if_neg h0]; rw [own_blk] at h5; exact h5
theorem wpList_append_qu {ops : Array Oper} {rest : List Oper} {o : Oper} {a : Act} {Q : Exit → Act → World → Prop} (hgd : o.guard = none) (s x : Operand) (t : TypeId)
    (ho : o.op = .call { callee := .builtin .append, args := #[s, x], argTypes := #[t, t] })
    (base : Nat) (e : TypeId) (i : TypeInfo) (z : Value) (size bytes : Nat) (ht : P.underlying t = some (.slice e)) (hi : P.info? e = some i) (hz : i.zero = some z)
    (hsize : i.size = size) (hby : i.bytes = bytes) (hzs : z.cells.size = size) (hsz : 0 < size)
    (A : Option Addr) (n c : Nat) (xs : List Value) (hs : a.eval s = .slice A n c) (hq : Qu w base e size A n c xs)
    (B : Option Addr) (m c2 : Nat) (news : List Value) (hm : 0 < m) (hx : a.eval x = .slice B m c2) (hr : Rd w size B m news) (h1 : ∀ u ∈ news, u.oneCell' = true)
    (h63 : n + m ≤ maxLen) (hbytes : (n + m) * bytes ≤ 140737488355328) (hbase : base ≤ w.heap.size)
    (h : ∀ A' c' w', Qu w' base e size A' (n + m) c' (xs ++ news) → Chg (if c = 0 then [] else blk A) w w' → (∀ j ∈ blk A', (j ∈ blk A ∧ 0 < c) ∨ w.heap.size ≤ j) → (0 < c → ∀ g k j, A = some ⟨g, k, none⟩ → j < k + n * size → w'.cell? ⟨g, j, none⟩ = w.cell? ⟨g, j, none⟩) → wpList P ops Q rest (a.put o.dst (.slice A' (n + m) c')) w') : wpList P ops Q (o :: rest) a w :=
  wpList_plain hgd fun _ hK => wp_append_qu w s x t ho base e i z size bytes ht hi hz hsize hby hzs hsz A n c xs hs hq B m c2 news hm hx hr h1 h63 hbytes hbase fun A' c' w' h2 h3 h4 h6 => hK _ _ (h A' c' w' h2 h3 h4 h6)
end
/-- What was taken out at the front stands, whatever comes to the end. -/
theorem head_keep {w w' : World} {ad : Addr} {g k b n size : Nat} (had : ad = ⟨g, k, none⟩) (hb : 0 < b) (hlt : ad.block < w.heap.size) (hch : Chg (if b - 1 = 0 then [] else blk (cutA (some ad) b 1 size)) w w')
    (hB : 0 < b - 1 → ∀ g k j, cutA (some ad) b 1 size = some ⟨g, k, none⟩ → j < k + n * size → w'.cell? ⟨g, j, none⟩ = w.cell? ⟨g, j, none⟩) (j : Nat) (hj : j < size) : w'.cell? ⟨ad.block, ad.off + j, none⟩ = w.cell? ⟨ad.block, ad.off + j, none⟩ := by
  subst had
  by_cases h0 : b - 1 = 0
  · rw [if_pos h0] at hch
    exact hch.cell (p := ⟨g, k + j, none⟩) hlt (by simp)
  · refine hB (by omega) g (k + 1 * size) (k + j) ?_ (by rw [Nat.one_mul]; omega)
    unfold cutA
    rw [if_neg (by omega), Option.map_some, Addr.add_lit]
end Go.Proofs.Ytdfkednggjelcaa

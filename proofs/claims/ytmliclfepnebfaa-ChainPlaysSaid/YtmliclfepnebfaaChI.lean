
/-
  chain: slices.Insert of one version, slices.Clone, bytes.Clone; own, Order.
-/
import Derived.Test.YtmliclfepnebfaaChW
import Derived.Test.YtmliclfepnebfaaClear
import Derived.Lib.Overlaps
import Derived.Lib.AppendZerosOnto
import Derived.Laws.IdiomCopy
import Derived.Laws.NewBlocks
namespace Go.Proofs.Ytmliclfepnebfaa
open Go.RowKit
set_option linter.unusedVariables false
set_option linter.unusedSimpArgs false

theorem wp_copyR {P : Program} (w : World) {o : Oper} {a : Act} {K : Act → World → Prop} {Q : Exit → Act → World → Prop} (d s : Operand) (t t2 : TypeId)
    (ho : o.op = .call { callee := .builtin .copy, args := #[d, s], argTypes := #[t, t2] }) (v u : Value) (hd : a.eval d = v) (hs : a.eval s = u) {v2 : Value} {w2 : World}
    (hr : (Builtin.copy_ #[t, t2] o.type #[v, u]).run P w = .ok v2 w2) (h : K (a.put o.dst v2) w2) : o.wp P a w K Q := by
  unfold Oper.wp execOp
  simp only [ho, resolve, invoke, builtin, Sem.run_bind, Sem.run_pure, Result.andThen_ok, List.map_toArray, List.map_cons, List.map_nil, hd, hs, hr]
  exact h
theorem wpList_copyR {P : Program} (w : World) {ops : Array Oper} {rest : List Oper} {o : Oper} {a : Act} {Q : Exit → Act → World → Prop} (hgd : o.guard = none) (d s : Operand) (t t2 : TypeId)
    (ho : o.op = .call { callee := .builtin .copy, args := #[d, s], argTypes := #[t, t2] }) (v u : Value) (hd : a.eval d = v) (hs : a.eval s = u) {v2 : Value} {w2 : World}
    (hr : (Builtin.copy_ #[t, t2] o.type #[v, u]).run P w = .ok v2 w2) (h : wpList P ops Q rest (a.put o.dst v2) w2) : wpList P ops Q (o :: rest) a w :=
  wpList_plain hgd fun _ hK => wp_copyR w d s t t2 ho v u hd hs hr (hK _ _ h)
/-- 'copy' between rows of elements of several cells. -/
theorem run_copyN {P : Program} (w : World) (dT sT ty e : TypeId) {i : TypeInfo} (size : Nat) (g o dLen dCap : Nat) (a : Addr) (sLen sCap : Nat) (cs : List Value) (k : Nat)
    (hu : P.underlying dT = some (.slice e)) (hi : P.info? e = some i) (hz : i.size = size) (hk : Nat.min sLen dLen = k) (hn : cs.length = k * size)
    (hsrc : ∀ j v, cs[j]? = some v → w.cell? (a.add j) = some v) (hc : ∀ j, j < cs.length → (w.cell? ⟨g, o + j, none⟩).isSome = true) (hf : ∀ j, j < cs.length → w.frozen? ⟨g, o + j, none⟩ = false) (h1 : ∀ v ∈ cs, v.oneCell' = true) :
    (Builtin.copy_ #[dT, sT] ty #[.slice (some ⟨g, o, none⟩) dLen dCap, .slice (some a) sLen sCap]).run P w = .ok (goInt k) (w.setCells g o cs) := by
  have hl := run_firstCells_some (P := P) (w := w) size k a sLen sCap cs hn hsrc
  have hst := run_storeCells_cells (P := P) g o cs 0 w (by simpa using hc) (by simpa using hf) h1
  simp [Builtin.copy_, run_underlying hu, Builtin.lenOf, sizeOf, typeInfo, hi, hz, hk, hl, hst]
theorem At.shape {w : World} {g : Nat} {t : TypeId} {cs : Array Value} (h : At w g t cs) : w.shape? g = some (t, cs.size) := by
  unfold World.shape?
  unfold At at h
  rw [h]
theorem add_at (g o j : Nat) : (⟨g, o, none⟩ : Addr).add j = ⟨g, o + j, none⟩ := by unfold Addr.add; split <;> simp_all
theorem cut6 (g c k : Nat) (h : c ≠ k) : cutA (some ⟨g, 0, none⟩) c k 6 = some ⟨g, k * 6, none⟩ := by
  unfold cutA
  rw [if_neg h]
  show some ((⟨g, 0, none⟩ : Addr).add (k * 6)) = _
  rw [add_at, Nat.zero_add]
/-- What both ways of insertion leave in the row. -/
theorem ins_cells {l xs vs : List Value} {n i : Nat} (hx : l.take (n * 6) = xs) (hl : n * 6 ≤ l.length) (hv : vs.length = 6) (hi : i < n) :
    ((l.take ((i + 1) * 6) ++ xs.drop (i * 6) ++ l.drop ((i + 1) * 6 + (xs.drop (i * 6)).length)).take (i * 6) ++ vs ++ (l.take ((i + 1) * 6) ++ xs.drop (i * 6) ++ l.drop ((i + 1) * 6 + (xs.drop (i * 6)).length)).drop (i * 6 + vs.length)).take ((n + 1) * 6) = xs.take (i * 6) ++ vs ++ xs.drop (i * 6) := by
  have hxl : xs.length = n * 6 := by rw [← hx, List.length_take]; omega
  have h1 : (l.take ((i + 1) * 6)).length = (i + 1) * 6 := by rw [List.length_take]; omega
  have h2 : (l.take ((i + 1) * 6) ++ xs.drop (i * 6) ++ l.drop ((i + 1) * 6 + (xs.drop (i * 6)).length)).take (i * 6) = xs.take (i * 6) := by
    rw [List.append_assoc, List.take_append_of_le_length (by rw [h1]; omega), List.take_take, Nat.min_eq_left (by omega), ← hx, List.take_take, Nat.min_eq_left (by omega)]
  have h3 : (l.take ((i + 1) * 6) ++ xs.drop (i * 6) ++ l.drop ((i + 1) * 6 + (xs.drop (i * 6)).length)).drop (i * 6 + vs.length) = xs.drop (i * 6) ++ l.drop ((i + 1) * 6 + (xs.drop (i * 6)).length) := by
    rw [hv, show i * 6 + 6 = (i + 1) * 6 by omega, List.append_assoc, List.drop_left' h1]
  rw [h2, h3, ← List.append_assoc]
  refine List.take_left' ?_
  rw [List.length_append, List.length_append, List.length_take, List.length_drop, hv, hxl]
  omega
theorem take_ins {l xs vs : List Value} {n i : Nat} (hx : l.take (i * 6) = xs.take (i * 6)) (hl : (n + 1) * 6 ≤ l.length) (hxl : xs.length = n * 6) (hv : vs.length = 6) (hi : i < n) :
    ((l.take (i * 6) ++ vs ++ l.drop (i * 6 + vs.length)).take ((i + 1) * 6) ++ xs.drop (i * 6) ++ (l.take (i * 6) ++ vs ++ l.drop (i * 6 + vs.length)).drop ((i + 1) * 6 + (xs.drop (i * 6)).length)).take ((n + 1) * 6) = xs.take (i * 6) ++ vs ++ xs.drop (i * 6) := by
  have h1 : (l.take (i * 6) ++ vs).length = (i + 1) * 6 := by rw [List.length_append, List.length_take, hv]; omega
  rw [List.take_left' h1]
  refine (List.take_left' ?_).trans ?_
  · rw [List.length_append, h1, List.length_drop, hxl]; omega
  · rw [hx]
/-- What an insertion leaves. -/
def InsPost (base : Nat) (A : Option Addr) (n i : Nat) (xs vs : List Value) (w : World) (e : Ending) (w' : World) : Prop :=
  ∃ A' c', e = .returned (.slice A' (n + 1) c') ∧ w'.ownsRow base 28 6 (.slice A' (n + 1) c') (n + 1) (xs.take (i * 6) ++ vs ++ xs.drop (i * 6)) ∧ Chg (blk A) w w' ∧ (∀ j ∈ blk A', j ∈ blk A ∨ w.heap.size ≤ j)
section
variable {w : World} {base g n c i vb : Nat} {A : Option Addr} {xs vs : List Value}
set_option maxRecDepth 100000 in
set_option maxHeartbeats 3200000 in
theorem insert_end (h : w.ownsRow base 28 6 (.slice A n c) n xs) (hb : base ≤ w.heap.size) (hn : n ≤ 1000000) (hv : At w vb 28 vs.toArray) (hvl : vs.length = 6) (h1 : ∀ v ∈ vs, v.oneCell' = true) :
    Calls Try.prog 35 #[.slice A n c, .int .i64 n, .slice (some ⟨vb, 0, none⟩) 1 1] w (InsPost base A n n xs vs w) := by
  obtain ⟨i1, hi1, hy0, hy1, hy2⟩ := info_parts info_ver
  have hcap := own_cap h
  have hsL := fun w => run_slice_lo (P := Try.prog) w Try.underlying22 hi1 hy1 A n c (n : Int) n rfl (Nat.le_refl _)
  have HH := Lib.hid h
  have HV : Hid (Rd w 6 (some ⟨vb, 0, none⟩) 1 vs) := Rd.of_at hv (by rw [hvl])
  have HX : Hid (xs.take (n * 6) = xs ∧ xs.drop (n * 6) = []) := by
    have := h.1
    exact ⟨List.take_of_length_le (by omega), List.drop_of_length_le (by omega)⟩
  have hn0 : ((n : Int) == (n : Int)) = true := by simp
  clear h hv
  go_enter Try.func35, Try.ntmps35
  go_wp2_with (at_builtin; refine wpList_append_rd _ rfl (.tmp 23) (.tmp 24) 22 (by rfl) base 28 i1 _ 6 64 Try.underlying22 hi1 hy0 hy1 hy2 rfl (by omega) (.slice A n c) n xs (by rfl) HH.out (some ⟨vb, 0, none⟩) 1 1 vs (by rfl) HV.out h1 (by unfold maxLen; omega) (by omega) hb ?_; intro A6 c6 w6 hown6 hg6 hb6)
  go_ret
  refine ⟨A6, c6, rfl, ?_, (Chg.of_grown hg6).mono (by rw [own_blk]; exact fun _ h => .inl h), fun j hj => ?_⟩
  · rw [HX.out.1, HX.out.2, List.append_nil]; exact hown6
  · rcases hb6 with h | h
    · rw [h, own_blk] at hj; exact .inl hj
    · rw [h] at hj
      obtain rfl := List.mem_singleton.1 hj
      exact .inr (Nat.le_refl _)
theorem overlaps_no (w : World) (g lb cb o : Nat) (hv : At w vb 28 vs.toArray) (hvl : vs.length = 6) {cur : Array Value} (hg : At w g 28 cur) (hne : vb ≠ g) (hc : cur.size ≠ 0) :
    (callFunc 48 #[.slice (some ⟨vb, 0, none⟩) 1 1, .slice (some ⟨g, o, none⟩) lb cb]).run Try.prog w = .ok (.value (.bool false)) w := by
  obtain ⟨i1, hi1, hy0, hy1, hy2⟩ := info_parts info_ver
  rw [run_callFunc_extern Try.func48 (by kernel_rfl) (by kernel_rfl) (by kernel_rfl) (e := Extern.SlicesOverlaps.overlaps #[22, 22] #[4]) (by kernel_rfl),
    Lib.run_overlaps_apart w 22 4 28 Try.underlying22 6 (fun w => by simp [sizeOf, typeInfo, hi1, hy1]) ⟨vb, 0, none⟩ ⟨g, o, none⟩ 1 1 lb cb hne 28 28 vs.toArray.size cur.size hv.shape hg.shape hc (hv.free _) (hv.free _)]
  rfl
end
end Go.Proofs.Ytmliclfepnebfaa

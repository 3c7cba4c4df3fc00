
/-
  Several texts in one: Base, Keep, Equal, Oct, Crc.
-/
import Derived.WalkKit
import Derived.Maps.AppendAt
import Derived.Deep.AppendLies
import Derived.Deep.Draws
import Derived.Deep.QuietTactic
import Derived.BigQuiet
import Derived.Deep.LoopGhost
import Derived.WalkSpells
import Derived.WalkLawsBesides
import Derived.Lib.Hide
import Derived.Lib.SliceRun
import Derived.Lib.SlBytesConst
import Derived.Test.YtdfkednggjelcaaRows
import Derived.Laws.BitsAllLaws
import Derived.Laws.BitsLemmas
namespace Go.Proofs.Ytdfkednggjelcaa
open Go.RowKit

/-! ### What a call may change -/

/-- Of the blocks that were there, those of 'S' alone may have changed. -/
structure Chg (S : List Nat) (w w' : World) : Prop where
  os : w'.os = w.os
  tape : w'.tape = w.tape
  output : w'.output = w.output
  size : w.heap.size ≤ w'.heap.size
  block : ∀ k, k < w.heap.size → k ∉ S → w'.heap[k]? = w.heap[k]?

theorem Chg.refl (S : List Nat) (w : World) : Chg S w w := ⟨rfl, rfl, rfl, Nat.le_refl _, fun _ _ _ => rfl⟩
theorem Chg.trans {S T : List Nat} {a b c : World} (h : Chg S a b) (k : Chg T b c) (hT : ∀ x, x ∈ T → x ∈ S ∨ a.heap.size ≤ x) : Chg S a c :=
  ⟨k.os.trans h.os, k.tape.trans h.tape, k.output.trans h.output, Nat.le_trans h.size k.size, fun i hi hS =>
    (k.block i (Nat.lt_of_lt_of_le hi h.size) (fun hm => by
      rcases hT i hm with h1 | h1
      · exact hS h1
      · omega)).trans (h.block i hi hS)⟩
theorem Chg.mono {S T : List Nat} {a b : World} (h : Chg S a b) (hS : ∀ x, x ∈ S → x ∈ T ∨ a.heap.size ≤ x) : Chg T a b :=
  ⟨h.os, h.tape, h.output, h.size, fun i hi hT => h.block i hi (fun hm => by
    rcases hS i hm with h1 | h1
    · exact hT h1
    · omega)⟩
theorem Chg.drew {S : List Nat} {a w : World} (h : Chg S a w) : Chg S a w.drew := ⟨h.os, h.tape, h.output, h.size, h.block⟩
theorem Chg.drewN {S : List Nat} {a w : World} (h : Chg S a w) (n : Nat) : Chg S a (w.drewN n) := ⟨h.os, h.tape, h.output, h.size, h.block⟩
theorem Chg.of_below {w w' : World} (h : Below w.heap.size w w') (S : List Nat) : Chg S w w' := ⟨h.os, h.tape, h.output, h.size, fun k hk _ => h.block k hk⟩
theorem Chg.below {S : List Nat} {w w' : World} (h : Chg S w w') {B : Nat} (hS : ∀ x, x ∈ S → B ≤ x) (hB : B ≤ w.heap.size) : Below B w w' :=
  ⟨h.os, h.tape, h.output, h.size, fun k hk => h.block k (by omega) (fun hm => by have := hS k hm; omega)⟩
theorem Chg.of_grown {w w' : World} {row : Option Nat} (h : w.grownBy w' row) : Chg row.toList w w' :=
  ⟨h.os, h.tape, h.output, h.size, fun k hk hS => h.block k hk (fun e => hS (by simp [← e]))⟩
theorem Chg.alloc {S : List Nat} {a w : World} (h : Chg S a w) (o : Obj) : Chg S a (w.alloc o) :=
  h.trans (T := []) (Chg.of_below ((Below.refl _ _).alloc (Nat.le_refl _) o) []) (by simp)
theorem Chg.setCell {S : List Nat} {a w : World} (h : Chg S a w) {p : Addr} (hp : p.block ∈ S ∨ a.heap.size ≤ p.block) (u : Value) : Chg S a (w.setCell p u) :=
  h.trans (T := [p.block]) ⟨rfl, rfl, rfl, by simp [World.setCell], fun k _ hS => Below.heap_setCell w p u k (by simpa using hS)⟩ (by simpa using hp)
theorem Chg.grown {S : List Nat} {a w w' : World} {row : Option Nat} (h : Chg S a w) (hg : w.grownBy w' row) (hr : ∀ k, row = some k → k ∈ S ∨ a.heap.size ≤ k) : Chg S a w' :=
  h.trans (Chg.of_grown hg) (fun x hx => by cases row <;> simp at hx; exact hr x (by simp [hx]))
theorem Chg.cell {S : List Nat} {w w' : World} (h : Chg S w w') {p : Addr} (hp : p.block < w.heap.size) (hS : p.block ∉ S) : w'.cell? p = w.cell? p :=
  World.cell?_of_block (w := w) (h.block p.block hp hS)
theorem Chg.frozen {S : List Nat} {w w' : World} (h : Chg S w w') {p : Addr} (hp : p.block < w.heap.size) (hS : p.block ∉ S) : w'.frozen? p = w.frozen? p :=
  World.frozen?_of_block (w := w) (h.block p.block hp hS)
theorem Chg.cells {w w' : World} (h : Chg [] w w') : (∀ b o, b < w.heap.size → w'.cell? ⟨b, o, none⟩ = w.cell? ⟨b, o, none⟩) ∧ (∀ b o, b < w.heap.size → w'.frozen? ⟨b, o, none⟩ = w.frozen? ⟨b, o, none⟩) :=
  ⟨fun b o hb => h.cell (p := ⟨b, o, none⟩) hb (by simp), fun b o hb => h.frozen (p := ⟨b, o, none⟩) hb (by simp)⟩

/-! ### A block known whole -/

def At (w : World) (g : Nat) (t : TypeId) (cs : Array Value) : Prop := w.heap[g]? = some (.cells cs t (0, 0))

section
variable {w w' : World} {g : Nat} {t : TypeId} {cs : Array Value}
theorem At.lt (h : At w g t cs) : g < w.heap.size := by
  rcases Nat.lt_or_ge g w.heap.size with h1 | h1
  · exact h1
  · unfold At at h; rw [Array.getElem?_eq_none h1] at h; cases h
theorem At.cell (h : At w g t cs) (i : Nat) : w.cell? ⟨g, i, none⟩ = cs[i]? := cell_of_row w g i cs t (0, 0) h
theorem At.free (h : At w g t cs) (i : Nat) : w.frozen? ⟨g, i, none⟩ = false := by
  unfold At at h; simp [World.frozen?, h]
theorem At.new (w : World) (t : TypeId) (cs : Array Value) : At (w.alloc (.cells cs t)) w.heap.size t cs := heap_alloc_new w _
theorem At.keep (h : At w g t cs) {S : List Nat} (hc : Chg S w w') (hS : g ∉ S) : At w' g t cs := (hc.block g h.lt hS).trans h
theorem At.set_ (h : At w g t cs) (i : Nat) (u : Value) : At (w.setCell ⟨g, i, none⟩ u) g t (cs.setIfInBounds i u) := by
  unfold At at h ⊢
  simp [World.setCell, Array.getElem?_modify, h]
theorem At.ne {g' : Nat} {t' : TypeId} {cs' : Array Value} (h : At w g t cs) (h' : At w g' t' cs') (hne : t ≠ t') : g ≠ g' := by
  rintro rfl
  unfold At at h h'
  rw [h] at h'
  injection h' with h'
  injection h' with _ ht
  exact hne ht
theorem At.drewN (h : At w g t cs) (n : Nat) : At (w.drewN n) g t cs := h
end

theorem heap_lt {w : World} {g : Nat} {o : Obj} (h : w.heap[g]? = some o) : g < w.heap.size := by
  rcases Nat.lt_or_ge g w.heap.size with h1 | h1
  · exact h1
  · rw [Array.getElem?_eq_none h1] at h; cases h

/-! ### A row that is read -/

theorem add_block (a : Addr) (n : Nat) : (a.add n).block = a.block := by unfold Addr.add; split <;> rfl
theorem add_add (a : Addr) (i j : Nat) : (a.add i).add j = a.add (i + j) := by
  unfold Addr.add
  by_cases hi : i = 0 <;> by_cases hj : j = 0 <;> simp [hi, hj, Nat.add_assoc]
theorem add_zero (a : Addr) : a.add 0 = a := rfl

/-- The slice of n elements (size cells each) at 'A' reads as the cells 'xs'. -/
structure Rd (w : World) (size : Nat) (A : Option Addr) (n : Nat) (xs : List Value) : Prop where
  len : xs.length = n * size
  at_ : 0 < n → ∃ ad : Addr, A = some ad ∧ ad.block < w.heap.size ∧ ∀ j u, xs[j]? = some u → w.cell? (ad.add j) = some u

/-- The block that a slice lies in. -/
def blk (A : Option Addr) : List Nat := (A.map (·.block)).toList
theorem blk_some (a : Addr) : blk (some a) = [a.block] := rfl
theorem blk_none : blk none = [] := rfl

/-- A slice of n elements lies outside the blocks S (a slice of none lies nowhere). -/
def Away (A : Option Addr) (n : Nat) (S : List Nat) : Prop := 0 < n → ∀ k, k ∈ blk A → k ∉ S
theorem Away.nil (A : Option Addr) (n : Nat) : Away A n [] := fun _ _ _ => by simp
theorem Away.nowhere (n : Nat) (S : List Nat) : Away Option.none n S := fun _ k hk => by simp [blk] at hk
theorem Away.at {g n : Nat} {S : List Nat} (h : g ∉ S) : Away (some ⟨g, 0, none⟩) n S := fun _ k hk => by
  simp [blk] at hk; exact hk ▸ h
theorem Away.mono {A : Option Addr} {n : Nat} {S T : List Nat} (h : Away A n T) (hS : ∀ k, k ∈ S → k ∈ T) : Away A n S := fun hn k hk hm => h hn k hk (hS k hm)

section
variable {w w' : World} {size n : Nat} {A : Option Addr} {xs : List Value}
theorem Away.old (h : Rd w size A n xs) {S : List Nat} (hS : ∀ k, k ∈ S → w.heap.size ≤ k) : Away A n S := fun hn k hk hm => by
  obtain ⟨ad, rfl, hb, _⟩ := h.at_ hn
  simp [blk] at hk
  have := hS k hm
  omega
theorem Rd.nil (w : World) (size : Nat) (A : Option Addr) : Rd w size A 0 [] := ⟨by simp, fun h => absurd h (by omega)⟩
theorem Rd.get (h : Rd w 1 A n xs) {k : Nat} (hk : k < n) : ∃ ad u, A = some ad ∧ ad.block < w.heap.size ∧ xs[k]? = some u ∧ w.cell? (ad.add k) = some u := by
  obtain ⟨ad, e, hb, hc⟩ := h.at_ (by omega)
  have hl : k < xs.length := by have := h.len; omega
  exact ⟨ad, xs[k], e, hb, List.getElem?_eq_getElem hl, hc k _ (List.getElem?_eq_getElem hl)⟩
theorem Rd.keep (h : Rd w size A n xs) {S : List Nat} (hc : Chg S w w') (hS : Away A n S) : Rd w' size A n xs :=
  ⟨h.len, fun hn => by
    obtain ⟨ad, rfl, hb, hcell⟩ := h.at_ hn
    exact ⟨ad, rfl, Nat.lt_of_lt_of_le hb hc.size, fun j u hu => (hc.cell (by rw [add_block]; exact hb) (by rw [add_block]; exact hS hn _ (by simp [blk]))).trans (hcell j u hu)⟩⟩
theorem Rd.keep0 (h : Rd w size A n xs) (hc : Chg [] w w') : Rd w' size A n xs := h.keep hc (Away.nil _ _)
theorem Rd.drewN (h : Rd w size A n xs) (k : Nat) : Rd (w.drewN k) size A n xs := h.keep0 ((Chg.refl _ _).drewN k)
theorem Rd.alloc (h : Rd w size A n xs) (o : Obj) : Rd (w.alloc o) size A n xs := h.keep0 ((Chg.refl _ _).alloc o)
theorem Rd.cut (h : Rd w size A n xs) {k cap : Nat} (hk : k ≤ n) (hc : n ≤ cap) :
    Rd w size (if cap = k then A else A.map (·.add (k * size))) (n - k) (xs.drop (k * size)) := by
  refine ⟨by rw [List.length_drop, h.len, Nat.sub_mul], fun hn => ?_⟩
  obtain ⟨ad, rfl, hb, hcell⟩ := h.at_ (by omega)
  rw [if_neg (by omega)]
  refine ⟨ad.add (k * size), rfl, by rw [add_block]; exact hb, fun j u hu => ?_⟩
  rw [add_add]
  exact hcell _ u (by rw [← hu, List.getElem?_drop])
theorem Rd.take (h : Rd w size A n xs) {k : Nat} (hk : k ≤ n) : Rd w size A k (xs.take (k * size)) := by
  refine ⟨by rw [List.length_take, h.len]; exact Nat.min_eq_left (Nat.mul_le_mul_right _ hk), fun hn => ?_⟩
  obtain ⟨ad, rfl, hb, hcell⟩ := h.at_ (by omega)
  refine ⟨ad, rfl, hb, fun j u hu => hcell j u ?_⟩
  have hj : j < k * size := by
    have := (List.getElem?_eq_some_iff.1 hu).1
    simp only [List.length_take] at this
    omega
  rw [← hu, List.getElem?_take_of_lt hj]
theorem Rd.of_own {base : Nat} {e : TypeId} {c : Nat} (h : w.ownsRow base e size (.slice A n c) n xs) : Rd w size A n xs := by
  refine ⟨h.1, fun hn => ?_⟩
  obtain ⟨g, cap, hv, _, hlt⟩ := h.form hn
  have hA : A = some ⟨g, 0, none⟩ := by injection hv
  subst hA
  exact ⟨_, rfl, hlt, h.cells (g := g) rfl⟩
theorem Rd.of_heap {g : Nat} {t : TypeId} {l : List Value} {fr : Nat × Nat} (h : w.heap[g]? = some (.cells l.toArray t fr)) (hl : l.length = n * size) : Rd w size (some ⟨g, 0, none⟩) n l :=
  ⟨hl, fun _ => ⟨_, rfl, heap_lt h, fun j u hu => by
    have e : (⟨g, 0, none⟩ : Addr).add j = ⟨g, j, none⟩ := by unfold Addr.add; split <;> simp_all
    rw [e, cell_of_row w g j l.toArray t fr h]; simpa using hu⟩⟩
/-- A row that was laid last. -/
theorem Rd.new (w : World) (t : TypeId) (l : List Value) (fr : Nat × Nat) (hl : l.length = n * size) : Rd (w.alloc (.cells l.toArray t fr)) size (some ⟨w.heap.size, 0, none⟩) n l :=
  Rd.of_heap (heap_alloc_new w _) hl
theorem Rd.new' {w : World} {t : TypeId} {l : List Value} {cs : Array Value} {fr : Nat × Nat} {g : Nat} (hg : g = w.heap.size) (hcs : cs = l.toArray) (hl : l.length = n * size) : Rd (w.alloc (.cells cs t fr)) size (some ⟨g, 0, none⟩) n l := by
  subst hg hcs; exact Rd.new w t l fr hl
theorem Rd.of_at {g : Nat} {t : TypeId} {l : List Value} (h : At w g t l.toArray) (hl : l.length = n * size) : Rd w size (some ⟨g, 0, none⟩) n l :=
  ⟨hl, fun _ => ⟨_, rfl, h.lt, fun j u hu => by
    have e : (⟨g, 0, none⟩ : Addr).add j = ⟨g, j, none⟩ := by unfold Addr.add; split <;> simp_all
    rw [e, h.cell]; simpa using hu⟩⟩
end

/-! ### A row that is owned -/

section
variable {w w' : World} {base : Nat} {e : TypeId} {size n : Nat} {v : Value} {xs : List Value}
theorem own_keep (h : w.ownsRow base e size v n xs) {S : List Nat} (hc : Chg S w w') (hS : ∀ k, v.ownBlock = some k → k ∉ S) : w'.ownsRow base e size v n xs := by
  refine ⟨h.1, ?_⟩
  rcases h.2 with h1 | ⟨g, cap, cur, rfl, h2, h3, h4⟩
  · exact .inl h1
  · exact .inr ⟨g, cap, cur, rfl, h2, (hc.block g (At.lt (t := e) h3) (hS g rfl)).trans h3, h4⟩
theorem own_at_ne {g : Nat} {t : TypeId} {cs : Array Value} (h : w.ownsRow base e size v n xs) (hg : At w g t cs) (hne : e ≠ t) : ∀ k, v.ownBlock = some k → k ≠ g := by
  intro k hk
  rcases h.2 with ⟨rfl, _⟩ | ⟨g', cap, cur, rfl, _, hh, _⟩
  · simp [Value.ownBlock] at hk
  · obtain rfl : g' = k := by simpa [Value.ownBlock] using hk
    exact At.ne (t := e) hh hg hne
theorem own_base {base' : Nat} (h : w.ownsRow base e size v n xs) (hb : ∀ k, v.ownBlock = some k → base' ≤ k) : w.ownsRow base' e size v n xs := by
  refine ⟨h.1, ?_⟩
  rcases h.2 with h1 | ⟨g, cap, cur, rfl, h2, h3⟩
  · exact .inl h1
  · exact .inr ⟨g, cap, cur, rfl, hb g rfl, h3⟩
theorem own_form (h : w.ownsRow base e size v n xs) : ∃ A c, v = .slice A n c := by
  rcases h.2 with ⟨rfl, rfl⟩ | ⟨g, cap, _, rfl, _⟩
  · exact ⟨none, 0, rfl⟩
  · exact ⟨_, cap, rfl⟩
theorem own_lt (h : w.ownsRow base e size v n xs) {k : Nat} (hk : v.ownBlock = some k) : k < w.heap.size := (h.lt k hk).2
end

theorem own_cap {w : World} {base : Nat} {e : TypeId} {size n c : Nat} {A : Option Addr} {xs : List Value} (h : w.ownsRow base e size (.slice A n c) n xs) : n ≤ c := by
  rcases h.2 with ⟨h1, rfl⟩ | ⟨g, cap, cur, h1, _, _, h2, _⟩
  · exact Nat.zero_le _
  · injection h1 with _ _ h3; omega
theorem own_cap63 {w : World} {base : Nat} {e : TypeId} {size n c : Nat} {A : Option Addr} {xs : List Value} (h : w.ownsRow base e size (.slice A n c) n xs) : c ≤ 9223372036854775807 := by
  rcases h.2 with ⟨h1, rfl⟩ | ⟨g, cap, cur, h1, _, _, _, h2, _⟩
  · injection h1 with _ _ h3; omega
  · injection h1 with _ _ h3; unfold maxLen at h2; omega
theorem own_in {w : World} {base : Nat} {e : TypeId} {size n c : Nat} {A : Option Addr} {xs : List Value} (h : w.ownsRow base e size (.slice A n c) n xs) : ∀ k, k ∈ blk A → base ≤ k ∧ k < w.heap.size := by
  intro k hk
  refine h.lt k ?_
  cases A with
  | none => simp [blk] at hk
  | some a => simp [blk] at hk; simp [Value.ownBlock, hk]

theorem own_cells {w : World} {base : Nat} {e : TypeId} {n c : Nat} {A : Option Addr} {xs : List Value} (h : w.ownsRow base e 1 (.slice A n c) n xs) (hn : 0 < n) :
    ∃ g, A = some ⟨g, 0, none⟩ ∧ base ≤ g ∧ g < w.heap.size ∧ (∀ j u, xs[j]? = some u → w.cell? ⟨g, j, none⟩ = some u) ∧ ∀ j, w.frozen? ⟨g, j, none⟩ = false := by
  rcases h.2 with ⟨_, h1⟩ | ⟨g, cap, cur, h1, h2, h3, h4, h5, h6, h7⟩
  · omega
  · have hA : A = some ⟨g, 0, none⟩ := by injection h1
    refine ⟨g, hA, h2, At.lt (t := e) h3, fun j u hu => ?_, fun j => At.free (t := e) h3 j⟩
    rw [At.cell (t := e) h3]
    have hj : j < n * 1 := by
      have := (List.getElem?_eq_some_iff.1 hu).1
      have := h.1
      omega
    rw [← h7, List.getElem?_take_of_lt hj] at hu
    simpa using hu

/-! ### append onto a row of the call's own -/

section
variable {P : Program} (w : World)

theorem own_blk (A : Option Addr) (n c : Nat) : (Value.slice A n c).ownBlock.toList = blk A := by cases A <;> rfl

theorem run_append_nil (base : Nat) (t ty e : TypeId) (i : TypeInfo) (size : Nat) (ht : P.underlying t = some (.slice e)) (hi : P.info? e = some i)
    (v : Value) (n : Nat) (xs : List Value) (hown : w.ownsRow base e size v n xs) (c : Nat) : (Builtin.append_ #[t, t] ty #[v, .slice none 0 c]).run P w = .ok v w := by
  rcases hown.2 with ⟨rfl, rfl⟩ | ⟨g, cap, cur, rfl, _, _, hnc, _⟩
  · simp [Builtin.append_, run_underlying ht, sizeOf, typeInfo, hi, Builtin.lenOf, Builtin.firstCells]
  · simp [Builtin.append_, run_underlying ht, sizeOf, typeInfo, hi, Builtin.lenOf, Builtin.firstCells, hnc, storeCells]

/-- Whatever is appended (nil, empty or not): the row is owned, and lies where it lay or in a new block. -/
theorem run_append_rd (base : Nat) (t ty e : TypeId) (i : TypeInfo) (z : Value) (size bytes : Nat) (ht : P.underlying t = some (.slice e)) (hi : P.info? e = some i) (hz : i.zero = some z)
    (hsize : i.size = size) (hby : i.bytes = bytes) (hzs : z.cells.size = size) (hsz : 0 < size)
    (v : Value) (n : Nat) (xs : List Value) (hown : w.ownsRow base e size v n xs)
    (A : Option Addr) (m c : Nat) (news : List Value) (hr : Rd w size A m news) (h1 : ∀ u ∈ news, u.oneCell' = true)
    (h63 : n + m ≤ maxLen) (hbytes : (n + m) * bytes ≤ 140737488355328) (hbase : base ≤ w.heap.size) :
    ∃ v' w', (Builtin.append_ #[t, t] ty #[v, .slice A m c]).run P w = .ok v' w' ∧ w'.ownsRow base e size v' (n + m) (xs ++ news) ∧ w.grownBy w' v.ownBlock ∧
      (v'.ownBlock = v.ownBlock ∨ v'.ownBlock = some w.heap.size) := by
  have hz0 : m = 0 → news = [] := fun h => List.eq_nil_of_length_eq_zero (by rw [hr.len, h, Nat.zero_mul])
  rcases A with _ | ad
  · have hm : m = 0 := by
      rcases Nat.eq_zero_or_pos m with h0 | h0
      · exact h0
      · obtain ⟨ad, h, _⟩ := hr.at_ h0
        cases h
    subst hm
    obtain rfl := hz0 rfl
    exact ⟨v, w, run_append_nil w base t ty e i size ht hi v n xs hown c, by simpa using hown, World.grownBy.refl w _, .inl rfl⟩
  · have hcells : ∀ j u, news[j]? = some u → w.cell? (ad.add j) = some u := by
      intro j u hu
      rcases Nat.eq_zero_or_pos m with h0 | h0
      · rw [hz0 h0] at hu; simp at hu
      · obtain ⟨ad', h, _, hc⟩ := hr.at_ h0
        cases h
        exact hc j u hu
    obtain ⟨v', w', hrun, h2, h3, _, h5⟩ := run_append_own_at (P := P) w base t ty e i z size bytes ht hi hz hsize hby hzs hsz v n xs hown ad m c news hr.len hcells h1 h63 hbytes hbase
    exact ⟨v', w', hrun, h2, h3, h5⟩

theorem wp_append_rd {o : Oper} {a : Act} {K : Act → World → Prop} {Q : Exit → Act → World → Prop} (s x : Operand) (t : TypeId)
    (ho : o.op = .call { callee := .builtin .append, args := #[s, x], argTypes := #[t, t] })
    (base : Nat) (e : TypeId) (i : TypeInfo) (z : Value) (size bytes : Nat) (ht : P.underlying t = some (.slice e)) (hi : P.info? e = some i) (hz : i.zero = some z)
    (hsize : i.size = size) (hby : i.bytes = bytes) (hzs : z.cells.size = size) (hsz : 0 < size)
    (v : Value) (n : Nat) (xs : List Value) (hs : a.eval s = v) (hown : w.ownsRow base e size v n xs)
    (A : Option Addr) (m c : Nat) (news : List Value) (hx : a.eval x = .slice A m c) (hr : Rd w size A m news) (h1 : ∀ u ∈ news, u.oneCell' = true)
    (h63 : n + m ≤ maxLen) (hbytes : (n + m) * bytes ≤ 140737488355328) (hbase : base ≤ w.heap.size)
    (h : ∀ A' c' w', w'.ownsRow base e size (.slice A' (n + m) c') (n + m) (xs ++ news) → w.grownBy w' v.ownBlock → (blk A' = v.ownBlock.toList ∨ blk A' = [w.heap.size]) → K (a.put o.dst (.slice A' (n + m) c')) w') : o.wp P a w K Q := by
  obtain ⟨v', w', hrun, h2, h3, h4⟩ := run_append_rd (P := P) w base t o.type e i z size bytes ht hi hz hsize hby hzs hsz v n xs hown A m c news hr h1 h63 hbytes hbase
  unfold Oper.wp execOp
  simp only [ho, resolve, invoke, builtin, Sem.run_bind, Sem.run_pure, Result.andThen_ok, List.map_toArray, List.map_cons, List.map_nil, hs, hx, hrun]
  obtain ⟨A', c', rfl⟩ := own_form h2
  exact h A' c' w' h2 h3 (by rw [← own_blk A' (n + m) c']; rcases h4 with h4 | h4 <;> simp [h4])

theorem wpList_append_rd {ops : Array Oper} {rest : List Oper} {o : Oper} {a : Act} {Q : Exit → Act → World → Prop} (hgd : o.guard = none) (s x : Operand) (t : TypeId)
    (ho : o.op = .call { callee := .builtin .append, args := #[s, x], argTypes := #[t, t] })
    (base : Nat) (e : TypeId) (i : TypeInfo) (z : Value) (size bytes : Nat) (ht : P.underlying t = some (.slice e)) (hi : P.info? e = some i) (hz : i.zero = some z)
    (hsize : i.size = size) (hby : i.bytes = bytes) (hzs : z.cells.size = size) (hsz : 0 < size)
    (v : Value) (n : Nat) (xs : List Value) (hs : a.eval s = v) (hown : w.ownsRow base e size v n xs)
    (A : Option Addr) (m c : Nat) (news : List Value) (hx : a.eval x = .slice A m c) (hr : Rd w size A m news) (h1 : ∀ u ∈ news, u.oneCell' = true)
    (h63 : n + m ≤ maxLen) (hbytes : (n + m) * bytes ≤ 140737488355328) (hbase : base ≤ w.heap.size)
    (h : ∀ A' c' w', w'.ownsRow base e size (.slice A' (n + m) c') (n + m) (xs ++ news) → w.grownBy w' v.ownBlock → (blk A' = v.ownBlock.toList ∨ blk A' = [w.heap.size]) → wpList P ops Q rest (a.put o.dst (.slice A' (n + m) c')) w') : wpList P ops Q (o :: rest) a w :=
  wpList_plain hgd fun _ hK => wp_append_rd w s x t ho base e i z size bytes ht hi hz hsize hby hzs hsz v n xs hs hown A m c news hx hr h1 h63 hbytes hbase fun A' c' w' h2 h3 h4 => hK _ _ (h A' c' w' h2 h3 h4)

theorem step_append_rd {ops : Array Oper} {o : Oper} {a : Act} {K : Act → World → Prop} {Q : Exit → Act → World → Prop} {E : Prop} (hgd : o.guard = none) (s x : Operand) (t : TypeId)
    (ho : o.op = .call { callee := .builtin .append, args := #[s, x], argTypes := #[t, t] })
    (base : Nat) (e : TypeId) (i : TypeInfo) (z : Value) (size bytes : Nat) (ht : P.underlying t = some (.slice e)) (hi : P.info? e = some i) (hz : i.zero = some z)
    (hsize : i.size = size) (hby : i.bytes = bytes) (hzs : z.cells.size = size) (hsz : 0 < size)
    (v : Value) (n : Nat) (xs : List Value) (hs : a.eval s = v) (hown : w.ownsRow base e size v n xs)
    (A : Option Addr) (m c : Nat) (news : List Value) (hx : a.eval x = .slice A m c) (hr : Rd w size A m news) (h1 : ∀ u ∈ news, u.oneCell' = true)
    (h63 : n + m ≤ maxLen) (hbytes : (n + m) * bytes ≤ 140737488355328) (hbase : base ≤ w.heap.size)
    (h : ∀ A' c' w', w'.ownsRow base e size (.slice A' (n + m) c') (n + m) (xs ++ news) → w.grownBy w' v.ownBlock → (blk A' = v.ownBlock.toList ∨ blk A' = [w.heap.size]) → K (a.put o.dst (.slice A' (n + m) c')) w') :
    if Region.wanted o (yielded ops a.tmps) = true then Oper.wp P o a w K Q else E := by
  have hw : Region.wanted o (yielded ops a.tmps) = true := by simp [Region.wanted, hgd]
  rw [if_pos hw]
  exact wp_append_rd w s x t ho base e i z size bytes ht hi hz hsize hby hzs hsz v n xs hs hown A m c news hx hr h1 h63 hbytes hbase h
end

/-! ### min, max of two ints, left as they are -/

theorem run_min2 {P : Program} (w : World) (ts : Array TypeId) (t : TypeId) (k k' : IntKind) (x y : Int) : (Builtin.min_ ts t #[.int k x, .int k' y]).run P w = .ok (.int k (min x y)) w := by
  rw [run_min_int2]; congr 2; split <;> omega
theorem run_max2 {P : Program} (w : World) (ts : Array TypeId) (t : TypeId) (k k' : IntKind) (x y : Int) : (Builtin.max_ ts t #[.int k x, .int k' y]).run P w = .ok (.int k (max x y)) w := by
  rw [run_max_int2]; congr 2; split <;> omega

/-! ### Cuts of slices, their address under a name -/

/-- The address of 's[k:]', s of capacity c. -/
def cutA (A : Option Addr) (c k size : Nat) : Option Addr := if c = k then A else A.map (·.add (k * size))
theorem cutA_blk (A : Option Addr) (c k size : Nat) : blk (cutA A c k size) = blk A := by
  unfold cutA; split
  · rfl
  · cases A <;> simp [blk, add_block]
theorem Rd.cutR {w : World} {size n : Nat} {A : Option Addr} {xs : List Value} (h : Rd w size A n xs) {k cap : Nat} (hk : k ≤ n) (hc : n ≤ cap) : Rd w size (cutA A cap k size) (n - k) (xs.drop (k * size)) := h.cut hk hc
theorem run_slice_lo {P : Program} (w : World) {t e : TypeId} {i : TypeInfo} {size : Nat} (ht : P.underlying t = some (.slice e)) (hi : P.info? e = some i) (hs : i.size = size)
    (A : Option Addr) (len cap : Nat) (l : Int) (k : Nat) (hl : l = (k : Int)) (hk : k ≤ len) :
    (Instr.slice t (.slice A len cap) (some (.int .i64 l)) none none).run P w = .ok (.slice (cutA A cap k size) (len - k) (cap - k)) w := by
  subst hl
  have h1 : (k : Int) ≤ (len : Int) := by omega
  simp [Instr.slice, run_underlying ht, Instr.sliceBounds, run_sliceBound, sizeOf, typeInfo, hi, hs, cutA, h1]
theorem run_slice_hi {P : Program} (w : World) {t e : TypeId} {i : TypeInfo} (ht : P.underlying t = some (.slice e)) (hi : P.info? e = some i)
    (A : Option Addr) (len cap : Nat) (l : Int) (k : Nat) (hl : l = (k : Int)) (hk : k ≤ cap) :
    (Instr.slice t (.slice A len cap) none (some (.int .i64 l)) none).run P w = .ok (.slice A k cap) w := by
  subst hl
  have h1 : (k : Int) ≤ (cap : Int) := by omega
  have h2 : (A.map (·.add 0)) = A := by cases A <;> simp [add_zero]
  simp [Instr.slice, run_underlying ht, Instr.sliceBounds, run_sliceBound, sizeOf, typeInfo, hi, h1, h2]
theorem run_slice_both {P : Program} (w : World) {t e : TypeId} {i : TypeInfo} {size : Nat} (ht : P.underlying t = some (.slice e)) (hi : P.info? e = some i) (hs : i.size = size)
    (A : Option Addr) (len cap : Nat) (l h : Int) (j k : Nat) (hl : l = (j : Int)) (hh : h = (k : Int)) (hj : j ≤ k) (hk : k ≤ cap) :
    (Instr.slice t (.slice A len cap) (some (.int .i64 l)) (some (.int .i64 h)) none).run P w = .ok (.slice (cutA A cap j size) (k - j) (cap - j)) w := by
  subst hl hh
  have h1 : (k : Int) ≤ (cap : Int) := by omega
  have h2 : (j : Int) ≤ (k : Int) := by omega
  simp [Instr.slice, run_underlying ht, Instr.sliceBounds, run_sliceBound, sizeOf, typeInfo, hi, hs, cutA, h1, h2]

/-! ### A constant's bytes, laid behind another block -/

theorem run_conv2 {P : Program} (w : World) (o : Obj) (t e : TypeId) (C : Array Value) (n c : Nat) (ht : P.underlying t = some (.slice e)) (he : P.underlying e = some (.int .u8)) :
    (convert t t (.slice (some ⟨w.heap.size + 1, 0, none⟩) n c)).run P ((w.alloc o).alloc (.cells C e)) = .ok (.slice (some ⟨w.heap.size + 1, 0, none⟩) n c) ((w.alloc o).alloc (.cells C e (C.size, C.size + 1))) := by
  have h := Lib.run_convert_bytes_const (P := P) (w.alloc o) t e C n c ht he
  have e1 : (w.alloc o).heap.size = w.heap.size + 1 := by simp
  rw [e1] at h
  exact h

/-! ### Bytes -/

/-- The cells of bytes. -/
def cB (l : List UInt8) : List Value := l.map fun b => .int .u8 (b.toNat : Int)
theorem cB_len (l : List UInt8) : (cB l).length = l.length := by simp [cB]
theorem cB_app (a b : List UInt8) : cB (a ++ b) = cB a ++ cB b := by simp [cB]
theorem cB_one (l : List UInt8) : ∀ u ∈ cB l, u.oneCell' = true := by
  intro u hu
  obtain ⟨_, _, rfl⟩ := List.mem_map.1 hu
  rfl
theorem cB_get {l : List UInt8} {k : Nat} (h : k < l.length) : (cB l)[k]? = some (.int .u8 (l[k].toNat : Int)) := by simp [cB, h]

theorem cB_drop (l : List UInt8) (k : Nat) : cB (l.drop k) = (cB l).drop k := by simp [cB, List.map_drop]
theorem cB_take (l : List UInt8) (k : Nat) : cB (l.take k) = (cB l).take k := by simp [cB, List.map_take]
theorem Rd.dropB {w : World} {A : Option Addr} {L : List UInt8} (h : Rd w 1 A L.length (cB L)) {k c : Nat} (hk : k ≤ L.length) (hc : L.length ≤ c) : Rd w 1 (cutA A c k 1) (L.drop k).length (cB (L.drop k)) := by
  have := h.cutR hk hc
  rw [cB_drop, List.length_drop]
  simpa using this
theorem Rd.takeB {w : World} {A : Option Addr} {L : List UInt8} (h : Rd w 1 A L.length (cB L)) {k : Nat} (hk : k ≤ L.length) : Rd w 1 A (L.take k).length (cB (L.take k)) := by
  have := h.take hk
  rw [cB_take, List.length_take, Nat.min_eq_left hk]
  simpa using this

/-- The cells of ints. -/
def cI (l : List Int) : List Value := l.map fun n => .int .i64 n
theorem cI_len (l : List Int) : (cI l).length = l.length := by simp [cI]
theorem cI_get {l : List Int} {k : Nat} (h : k < l.length) : (cI l)[k]? = some (.int .i64 l[k]) := by simp [cI, h]
theorem cI_one (l : List Int) : ∀ u ∈ cI l, u.oneCell' = true := by
  intro u hu
  obtain ⟨_, _, rfl⟩ := List.mem_map.1 hu
  rfl
/-- A slice of bytes: where it lies, its capacity, its bytes. -/
structure SlB where
  A : Option Addr
  c : Nat
  bs : List UInt8
def SlB.val (r : SlB) : Value := .slice r.A r.bs.length r.c
def RdB (w : World) (r : SlB) : Prop := Rd w 1 r.A r.bs.length (cB r.bs)
/-- The cells of rows. -/
def cR (l : List SlB) : List Value := l.map SlB.val
theorem cR_len (l : List SlB) : (cR l).length = l.length := by simp [cR]
theorem cR_get {l : List SlB} {k : Nat} (h : k < l.length) : (cR l)[k]? = some (.slice l[k].A l[k].bs.length l[k].c) := by simp [cR, h, SlB.val]
theorem cR_one (l : List SlB) : ∀ u ∈ cR l, u.oneCell' = true := by
  intro u hu
  obtain ⟨_, _, rfl⟩ := List.mem_map.1 hu
  rfl

end Go.Proofs.Ytdfkednggjelcaa
namespace Go.Proofs.Ytdfkednggjelcaa
open Go.RowKit
theorem Rd.drew {w : World} {size n : Nat} {A : Option Addr} {xs : List Value} (h : Rd w size A n xs) : Rd w.drew size A n xs := h.keep0 (Chg.refl _ _).drew
theorem Rd.k0 {w w' : World} {size n : Nat} {A : Option Addr} {xs : List Value} (h : Rd w size A n xs) (k : Chg [] w w') : Rd w' size A n xs := h.keep0 k
theorem own_k0 {w w' : World} {base : Nat} {e : TypeId} {size n : Nat} {v : Value} {xs : List Value} (h : w.ownsRow base e size v n xs) (k : Chg [] w w') : w'.ownsRow base e size v n xs := own_keep h k (by simp)
theorem own_up {w : World} {base base' : Nat} {e : TypeId} {size n : Nat} {v : Value} {xs : List Value} (h : w.ownsRow base e size v n xs) (k : base' ≤ base) : w.ownsRow base' e size v n xs := own_base h (fun j hj => Nat.le_trans k (h.lt j hj).1)
theorem Chg.t0 {S : List Nat} {a b c : World} (h : Chg S a b) (k : Chg [] b c) : Chg S a c := h.trans k (by simp)
theorem own_none (w : World) (base : Nat) (e : TypeId) (size : Nat) : w.ownsRow base e size (.slice none 0 0) 0 [] := ⟨by simp, .inl ⟨rfl, rfl⟩⟩
theorem At.al {w : World} {g : Nat} {t : TypeId} {cs : Array Value} (h : At w g t cs) (o : Obj) : At (w.alloc o) g t cs := h.keep ((Chg.refl [] w).alloc o) (by simp)
theorem At.newG (w : World) (t : TypeId) (cs : Array Value) {g : Nat} (hg : g = w.heap.size) : At (w.alloc (.cells cs t)) g t cs := by subst hg; exact At.new _ _ _
end Go.Proofs.Ytdfkednggjelcaa
namespace Go.Proofs.Ytdfkednggjelcaa
open Go.RowKit
theorem ret_bool {a b : Bool} (h : a = b) : Ending.returned (.bool a) = .returned (.bool b) := by rw [h]
/-! ### string(b) -/

theorem run_str {P : Program} (w : World) (src dst e : TypeId) (hs : P.underlying src = some (.slice e)) (he : P.underlying e = some (.int .u8)) (hd : P.underlying dst = some .string)
    (A : Option Addr) (n c : Nat) (bs : List UInt8) (hn : bs.length = n) (hr : Rd w 1 A bs.length (cB bs)) : (convert src dst (.slice A n c)).run P w = .ok (.string ⟨bs.toArray⟩) w := by
  subst hn
  rcases Nat.eq_zero_or_pos bs.length with h0 | h0
  · obtain rfl : bs = [] := List.eq_nil_of_length_eq_zero h0
    cases A with
    | none => exact run_convert_bytes_nil w src e hs he _ c dst hd
    | some ad => exact run_convert_bytes_back w src dst e ad c [] hs he hd (by simp)
  · obtain ⟨ad, rfl, _, hc⟩ := hr.at_ h0
    exact run_convert_bytes_back w src dst e ad c bs hs he hd (fun j hj => hc j _ (cB_get hj))
end Go.Proofs.Ytdfkednggjelcaa
namespace Go.Proofs.Ytdfkednggjelcaa

/-- A number's bytes: seven bits a byte, the lowest first; all but the last have 128 added. -/
def enc (u : Nat) : List UInt8 := if u < 128 then [UInt8.ofNat u] else UInt8.ofNat (u % 128 + 128) :: enc (u / 128)
  termination_by u
  decreasing_by omega

def encs (l : List Nat) : List UInt8 := (l.map enc).flatten

/-- The number that is laid for an int. -/
def clamp (n : Int) : Nat := (max 0 (min n 4611686018427387904)).toNat

theorem enc_lo {u : Nat} (h : u < 128) : enc u = [UInt8.ofNat u] := by rw [enc, if_pos h]
theorem enc_hi {u : Nat} (h : 128 ≤ u) : enc u = UInt8.ofNat (u % 128 + 128) :: enc (u / 128) := by rw [enc, if_neg (by omega)]
theorem enc_pos (u : Nat) : 0 < (enc u).length := by rw [enc]; split <;> simp
theorem clamp_le (n : Int) : clamp n ≤ 4611686018427387904 := by unfold clamp; omega
theorem clamp_of {n : Int} (h0 : 0 ≤ n) (h : n ≤ 4611686018427387904) : (clamp n : Int) = n := by unfold clamp; omega

theorem enc_len (k : Nat) : ∀ u, u < 128 ^ (k + 1) → (enc u).length ≤ k + 1 := by
  induction k with
  | zero => intro u h; rw [enc_lo (by simpa using h)]; simp
  | succ k ih =>
    intro u h
    by_cases h1 : u < 128
    · rw [enc_lo h1]; simp
    · rw [enc_hi (by omega)]
      have : u / 128 < 128 ^ (k + 1) := by rw [Nat.div_lt_iff_lt_mul (by omega)]; rw [Nat.pow_succ] at h; exact h
      have := ih _ this
      simp only [List.length_cons]; omega
theorem enc_len9 {u : Nat} (h : u ≤ 4611686018427387904) : (enc u).length ≤ 9 := by
  have h9 : (128 : Nat) ^ (8 + 1) = 9223372036854775808 := by decide
  exact enc_len 8 u (by rw [h9]; omega)

/-- A number off the front: 'i' bytes were taken, they come to 'u'. -/
def decGo : List UInt8 → Nat → Nat → Option (Nat × List UInt8)
  | [], _, _ => none
  | c :: r, i, u =>
    if 9 ≤ i ∨ (0 < i ∧ c = 0) then none
    else if c.toNat < 128 then (if 4611686018427387904 < u + c.toNat * 128 ^ i then none else some (u + c.toNat * 128 ^ i, r))
    else decGo r (i + 1) (u + (c.toNat - 128) * 128 ^ i)
def dec (l : List UInt8) : Option (Nat × List UInt8) := decGo l 0 0

theorem toNat_ofNat {n : Nat} (h : n < 256) : (UInt8.ofNat n).toNat = n := by rw [UInt8.toNat_ofNat']; exact Nat.mod_eq_of_lt h

theorem decGo_enc (k : Nat) : ∀ (n i u : Nat) (r : List UInt8), n ≤ k → i + (enc n).length ≤ 9 → (0 < i → 0 < n) → u + n * 128 ^ i ≤ 4611686018427387904 →
    decGo (enc n ++ r) i u = some (u + n * 128 ^ i, r) := by
  induction k with
  | zero =>
    intro n i u r hn hi h0 hu
    obtain rfl : n = 0 := by omega
    have hi0 : i = 0 := by
      rcases Nat.eq_zero_or_pos i with h | h
      · exact h
      · exact absurd (h0 h) (by omega)
    subst hi0
    rw [enc_lo (by omega)]
    simp only [List.singleton_append, decGo, toNat_ofNat (show 0 < 256 by omega)]
    rw [if_neg (by omega), if_pos (by omega), if_neg (by omega)]
  | succ k ih =>
    intro n i u r hn hi h0 hu
    by_cases h : n < 128
    · rw [enc_lo h]
      rw [enc_lo h] at hi
      simp only [List.length_singleton] at hi
      simp only [List.singleton_append, decGo, toNat_ofNat (show n < 256 by omega)]
      have hne : ¬ (9 ≤ i ∨ 0 < i ∧ UInt8.ofNat n = 0) := by
        rintro (h9 | ⟨hp, hz⟩)
        · omega
        · have := congrArg UInt8.toNat hz
          rw [toNat_ofNat (by omega)] at this
          have := h0 hp
          simp at *
          omega
      rw [if_neg hne, if_pos h, if_neg (by omega)]
    · rw [enc_hi (by omega)]
      rw [enc_hi (by omega)] at hi
      simp only [List.length_cons] at hi
      have hpos := enc_pos (n / 128)
      have hc : (UInt8.ofNat (n % 128 + 128)).toNat = n % 128 + 128 := toNat_ofNat (by omega)
      simp only [List.cons_append, decGo, hc]
      have hne : ¬ (9 ≤ i ∨ 0 < i ∧ UInt8.ofNat (n % 128 + 128) = 0) := by
        rintro (h9 | ⟨hp, hz⟩)
        · omega
        · have := congrArg UInt8.toNat hz
          rw [hc] at this
          simp at this
      rw [if_neg hne, if_neg (by omega)]
      have e : u + (n % 128 + 128 - 128) * 128 ^ i + n / 128 * 128 ^ (i + 1) = u + n * 128 ^ i := by
        have h1 : n * 128 ^ i = (n % 128) * 128 ^ i + (n / 128) * 128 ^ (i + 1) := by
          rw [Nat.pow_succ, Nat.mul_comm (128 ^ i) 128, ← Nat.mul_assoc, ← Nat.add_mul]
          congr 1
          omega
        rw [Nat.add_sub_cancel, h1]
        omega
      rw [ih (n / 128) (i + 1) (u + (n % 128 + 128 - 128) * 128 ^ i) r (by omega) (by omega) (by intro _; omega) (by rw [e]; exact hu), e]

theorem dec_enc {n : Nat} (h : n ≤ 4611686018427387904) (r : List UInt8) : dec (enc n ++ r) = some (n, r) := by
  have := decGo_enc n n 0 0 r (Nat.le_refl _) (by have := enc_len9 h; omega) (by intro h; omega) (by omega)
  simpa [dec] using this

/-- What is taken is what is laid: the bytes of a number are the only ones. -/
theorem decGo_some : ∀ (l : List UInt8) (i u n : Nat) (r : List UInt8), decGo l i u = some (n, r) →
    ∃ m, l = enc m ++ r ∧ n = u + m * 128 ^ i ∧ n ≤ 4611686018427387904 ∧ (0 < i → 0 < m) := by
  intro l
  induction l with
  | nil => intro i u n r h; simp [decGo] at h
  | cons c l ih =>
    intro i u n r h
    simp only [decGo] at h
    split at h
    · cases h
    · rename_i hne
      split at h
      · rename_i hlo
        split at h
        · cases h
        · rename_i hle
          obtain ⟨rfl, rfl⟩ : u + c.toNat * 128 ^ i = n ∧ l = r := by simpa using h
          refine ⟨c.toNat, ?_, rfl, by omega, ?_⟩
          · rw [enc_lo hlo]; simp
          · intro hi
            rcases Nat.eq_zero_or_pos c.toNat with hz | hp
            · exact absurd (.inr ⟨hi, UInt8.toNat_inj.1 (by simpa using hz)⟩) hne
            · exact hp
      · rename_i hlo
        obtain ⟨m, rfl, rfl, hle, hm⟩ := ih _ _ _ _ h
        have hm1 := hm (by omega)
        have hcl := c.toNat_lt
        refine ⟨(c.toNat - 128) + 128 * m, ?_, ?_, hle, fun _ => by omega⟩
        · rw [enc_hi (u := c.toNat - 128 + 128 * m) (by omega)]
          have e1 : (c.toNat - 128 + 128 * m) % 128 + 128 = c.toNat := by omega
          have e2 : (c.toNat - 128 + 128 * m) / 128 = m := by omega
          rw [e1, e2]; simp
        · rw [Nat.add_mul, Nat.pow_succ, Nat.mul_comm (128 ^ i) 128, ← Nat.mul_assoc, Nat.mul_comm m 128]
          omega
theorem dec_some {l : List UInt8} {n : Nat} {r : List UInt8} (h : dec l = some (n, r)) : l = enc n ++ r ∧ n ≤ 4611686018427387904 := by
  obtain ⟨m, h1, h2, h3, _⟩ := decGo_some l 0 0 n r h
  have : n = m := by simpa using h2
  subst this
  exact ⟨h1, h3⟩
theorem dec_len {l : List UInt8} {n : Nat} {r : List UInt8} (h : dec l = some (n, r)) : r.length < l.length := by
  obtain ⟨h1, _⟩ := dec_some h
  have := enc_pos n
  have := congrArg List.length h1
  simp at this
  omega
/-- How many bytes a number has that may be none. -/
def more (x : Nat) : Nat := if x = 0 then 0 else (enc x).length
theorem more_zero : more 0 = 0 := rfl
theorem more_step {x : Nat} (h : 0 < x) : more x = 1 + more (x / 128) := by
  unfold more
  rw [if_neg (by omega)]
  by_cases h1 : x < 128
  · rw [enc_lo h1, if_pos (by omega)]; rfl
  · rw [enc_hi (by omega), if_neg (by omega)]; simp; omega
theorem enc_more (x : Nat) : (enc x).length = 1 + more (x / 128) := by
  by_cases h : x = 0
  · subst h; rw [enc_lo (by omega)]; rfl
  · have := more_step (x := x) (by omega)
    unfold more at this
    rw [if_neg h] at this
    exact this
theorem enc_first (x : Nat) : ∃ c r, enc x = c :: r ∧ (c.toNat < 128 ↔ x < 128) := by
  by_cases h : x < 128
  · exact ⟨_, _, enc_lo h, by rw [toNat_ofNat (by omega)]⟩
  · exact ⟨_, _, enc_hi (by omega), by rw [toNat_ofNat (by omega)]; omega⟩
theorem enc_last (k : Nat) : ∀ x, x ≤ k → 0 < x → ∃ c, (enc x)[(enc x).length - 1]? = some c ∧ c ≠ 0 := by
  induction k with
  | zero => intro x h h0; omega
  | succ k ih =>
    intro x h h0
    by_cases h1 : x < 128
    · rw [enc_lo h1]
      refine ⟨_, rfl, fun e => ?_⟩
      have := congrArg UInt8.toNat e
      rw [toNat_ofNat (by omega)] at this
      simp at this
      omega
    · obtain ⟨c, h2, h3⟩ := ih (x / 128) (by omega) (by omega)
      rw [enc_hi (by omega)]
      have hp := enc_pos (x / 128)
      refine ⟨c, ?_, h3⟩
      rw [List.length_cons, show (enc (x / 128)).length + 1 - 1 = ((enc (x / 128)).length - 1) + 1 by omega, List.getElem?_cons_succ]
      exact h2
theorem encs_cons (n : Nat) (l : List Nat) : encs (n :: l) = enc n ++ encs l := rfl
theorem encs_nil : encs [] = [] := rfl
theorem encs_append (a b : List Nat) : encs (a ++ b) = encs a ++ encs b := by simp [encs]
theorem clamp_nat {n : Nat} (h : n ≤ 4611686018427387904) : clamp (n : Int) = n := by unfold clamp; omega
end Go.Proofs.Ytdfkednggjelcaa
namespace Go.Proofs.Ytdfkednggjelcaa

def crcBit (v : Nat) : Nat := v / 2 ^^^ (if v % 2 = 1 then 3988292384 else 0)
def crcBits : Nat → Nat → Nat
  | 0, v => v
  | k + 1, v => crcBit (crcBits k v)
def crcByte (v : Nat) (c : UInt8) : Nat := crcBits 8 (v ^^^ c.toNat)
def crcL (v : Nat) (l : List UInt8) : Nat := l.foldl crcByte v
/-- The check sum. -/
def crc (l : List UInt8) : Nat := 4294967295 - crcL 4294967295 l

theorem crcBit_lt {v : Nat} (h : v < 4294967296) : crcBit v < 4294967296 := by
  unfold crcBit
  have e : (4294967296 : Nat) = 2 ^ 32 := by decide
  rw [e] at *
  refine Nat.xor_lt_two_pow (by omega) ?_
  split
  · decide
  · decide
theorem crcBits_lt {v : Nat} (h : v < 4294967296) (k : Nat) : crcBits k v < 4294967296 := by
  induction k with
  | zero => exact h
  | succ k ih => exact crcBit_lt ih
theorem xor_byte_lt {v : Nat} (h : v < 4294967296) (c : UInt8) : v ^^^ c.toNat < 4294967296 := by
  have e : (4294967296 : Nat) = 2 ^ 32 := by decide
  have := c.toNat_lt
  rw [e] at *
  exact Nat.xor_lt_two_pow h (by omega)
theorem crcByte_lt {v : Nat} (h : v < 4294967296) (c : UInt8) : crcByte v c < 4294967296 := crcBits_lt (xor_byte_lt h c) 8
theorem crcL_lt (l : List UInt8) : ∀ {v : Nat}, v < 4294967296 → crcL v l < 4294967296 := by
  induction l with
  | nil => intro v h; exact h
  | cons c l ih => intro v h; exact ih (crcByte_lt h c)
theorem crcL_append (v : Nat) (a b : List UInt8) : crcL v (a ++ b) = crcL (crcL v a) b := by simp [crcL, List.foldl_append]
theorem crcL_cons (v : Nat) (c : UInt8) (b : List UInt8) : crcL v (c :: b) = crcL (crcByte v c) b := rfl

/-- A bit's round can be undone. -/
theorem crcBit_inj {v u : Nat} (hv : v < 4294967296) (hu : u < 4294967296) (h : crcBit v = crcBit u) : v = u := by
  unfold crcBit at h
  have tv : (v / 2).testBit 31 = false := Nat.testBit_lt_two_pow (by omega)
  have tu : (u / 2).testBit 31 = false := Nat.testBit_lt_two_pow (by omega)
  have tp : (3988292384 : Nat).testBit 31 = true := by decide
  have t0 : (0 : Nat).testBit 31 = false := by decide
  have hb := congrArg (fun n => Nat.testBit n 31) h
  simp only [Nat.testBit_xor, tv, tu] at hb
  by_cases h1 : v % 2 = 1 <;> by_cases h2 : u % 2 = 1
  · rw [if_pos h1, if_pos h2] at h
    have h3 : v / 2 = u / 2 := by
      have := congrArg (· ^^^ 3988292384) h
      simpa [Nat.xor_assoc] using this
    omega
  · rw [if_pos h1, if_neg h2, tp, t0] at hb; simp at hb
  · rw [if_neg h1, if_pos h2, tp, t0] at hb; simp at hb
  · rw [if_neg h1, if_neg h2] at h
    simp only [Nat.xor_zero] at h
    omega
theorem crcBits_inj {v u : Nat} (hv : v < 4294967296) (hu : u < 4294967296) (k : Nat) (h : crcBits k v = crcBits k u) : v = u := by
  induction k with
  | zero => exact h
  | succ k ih => exact ih (crcBit_inj (crcBits_lt hv k) (crcBits_lt hu k) h)
theorem xor_left_inj {a b c : Nat} (h : a ^^^ c = b ^^^ c) : a = b := by
  have := congrArg (· ^^^ c) h
  simpa [Nat.xor_assoc] using this
theorem crcByte_inj {v u : Nat} (hv : v < 4294967296) (hu : u < 4294967296) {c : UInt8} (h : crcByte v c = crcByte u c) : v = u :=
  xor_left_inj (crcBits_inj (xor_byte_lt hv c) (xor_byte_lt hu c) 8 h)
theorem crcByte_inj2 {v : Nat} (hv : v < 4294967296) {c d : UInt8} (h : crcByte v c = crcByte v d) : c = d := by
  have h1 := crcBits_inj (xor_byte_lt hv c) (xor_byte_lt hv d) 8 h
  rw [Nat.xor_comm v, Nat.xor_comm v] at h1
  exact UInt8.toNat_inj.1 (xor_left_inj h1)
theorem crcL_inj (l : List UInt8) : ∀ {v u : Nat}, v < 4294967296 → u < 4294967296 → crcL v l = crcL u l → v = u := by
  induction l with
  | nil => intro v u _ _ h; exact h
  | cons c l ih => intro v u hv hu h; exact crcByte_inj hv hu (ih (crcByte_lt hv c) (crcByte_lt hu c) h)
/-- A byte that is another one has another sum. -/
theorem crc_one {a b : List UInt8} {c d : UInt8} (h : c ≠ d) : crc (a ++ c :: b) ≠ crc (a ++ d :: b) := by
  intro he
  have h1 := crcL_lt (a ++ c :: b) (v := 4294967295) (by omega)
  have h2 := crcL_lt (a ++ d :: b) (v := 4294967295) (by omega)
  have h3 : crcL 4294967295 (a ++ c :: b) = crcL 4294967295 (a ++ d :: b) := by unfold crc at he; omega
  rw [crcL_append, crcL_append, crcL_cons, crcL_cons] at h3
  have h4 := crcL_lt a (v := 4294967295) (by omega)
  exact h (crcByte_inj2 h4 (crcL_inj b (crcByte_lt h4 c) (crcByte_lt h4 d) h3))
theorem crc_lt (l : List UInt8) : crc l < 4294967296 := by unfold crc; omega

/-! ### as the text reckons it -/
theorem crc_bit_and (v : Nat) (h : v < 4294967296) : bits .and .u32 (v : Int) 1 = (v : Int) % 2 := by
  rw [show (1 : Int) = ((1 : Nat) : Int) by rfl, u32_and_nat _ _ h (by omega), Nat.and_one_is_mod]; rfl
theorem crc_bit_all (v : Nat) (h : v < 4294967296) : bits .xor .u32 ((v : Int) / 2) (bits .and .u32 3988292384 (-((v : Int) % 2) % 4294967296)) = (crcBit v : Int) := by
  have e2 : bits .and .u32 3988292384 (-((v : Int) % 2) % 4294967296) = ((if v % 2 = 1 then 3988292384 else 0 : Nat) : Int) := by
    rw [show (v : Int) % 2 = ((v % 2 : Nat) : Int) by omega]
    rcases Nat.mod_two_eq_zero_or_one v with h | h <;> rw [h] <;> decide
  rw [e2, show (v : Int) / 2 = ((v / 2 : Nat) : Int) by omega, u32_xor_nat _ _ (by omega) (by split <;> omega)]
  rfl
theorem crc_not (v : Nat) (h : v < 4294967296) : bits .xor .u32 4294967295 (v : Int) = ((4294967295 - v : Nat) : Int) := by
  rw [show (4294967295 : Int) = ((4294967295 : Nat) : Int) by rfl, u32_xor_nat _ _ (by omega) h]
  congr 1
  have e : (4294967295 : Nat) = 2 ^ 32 - 1 := by decide
  have e2 : 4294967295 - v = 2 ^ 32 - (v + 1) := by
    have : (2 : Nat) ^ 32 = 4294967296 := by decide
    omega
  rw [e2, e]
  refine Nat.eq_of_testBit_eq fun i => ?_
  rw [Nat.testBit_xor, Nat.testBit_two_pow_sub_one, Nat.testBit_two_pow_sub_succ (by omega)]
  by_cases hi : i < 32
  · simp [hi]
  · have : v.testBit i = false := Nat.testBit_lt_two_pow (Nat.lt_of_lt_of_le (by omega) (Nat.pow_le_pow_right (by omega) (show 32 ≤ i by omega)))
    simp [hi, this]
end Go.Proofs.Ytdfkednggjelcaa

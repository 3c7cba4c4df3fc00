
/-
  stream: what both sides hold; their small functions.
-/
import Derived.Test.YtdfkednggjelcaaWirA1
import Derived.Test.YtdfkednggjelcaaWirA2
namespace Go.Proofs.Ytdfkednggjelcaa
open Go.RowKit
set_option linter.unusedVariables false
attribute [local go_sem ↓] run_min2 run_max2

def isWayS (a b q : Int) : Bool := (decide (0 ≤ a) && decide (a < 5)) && (decide (0 ≤ b) && decide (b < 5)) && !decide (a = b) && decide (0 ≤ q) && decide (q ≤ 1099511627776)
theorem isWayS_iff {a b q : Int} : isWayS a b q = true ↔ 0 ≤ a ∧ a < 5 ∧ 0 ≤ b ∧ b < 5 ∧ a ≠ b ∧ 0 ≤ q ∧ q ≤ 1099511627776 := by
  unfold isWayS
  simp only [Bool.and_eq_true, decide_eq_true_eq, Bool.not_eq_true', decide_eq_false_iff_not, and_assoc]

/-- The side that sends. -/
structure OSt where
  a : Int
  b : Int
  k : Int
  n : Int
  t : Int
def OSt.cells (o : OSt) : Array Value := #[.int .i64 o.a, .int .i64 o.b, .int .i64 o.k, .int .i64 o.n, .int .i64 o.t]
structure OSt.Ok (o : OSt) : Prop where
  a0 : 0 ≤ o.a
  a5 : o.a < 5
  b0 : 0 ≤ o.b
  b5 : o.b < 5
  k0 : 0 ≤ o.k
  kn : o.k ≤ o.n
  n1 : o.n ≤ 1099511627776
  t0 : 0 ≤ o.t
  t1 : o.t ≤ 1099511627776
/-- The side that takes. -/
structure ISt where
  a : Int
  o : Int
  k : Int
def ISt.cells (i : ISt) : Array Value := #[.int .i64 i.a, .int .i64 i.o, .int .i64 i.k]
structure ISt.Ok (i : ISt) : Prop where
  a0 : 0 ≤ i.a
  a5 : i.a < 5
  o0 : 0 ≤ i.o
  o5 : i.o < 5
  k0 : 0 ≤ i.k
  k1 : i.k ≤ 1099511627776
theorem At.o5 {w : World} {g : Nat} {T : TypeId} {o : OSt} (h : At w g T o.cells) :
    w.cell? ⟨g, 0, none⟩ = some (.int .i64 o.a) ∧ w.cell? ⟨g, 1, none⟩ = some (.int .i64 o.b) ∧ w.cell? ⟨g, 2, none⟩ = some (.int .i64 o.k) ∧ w.cell? ⟨g, 3, none⟩ = some (.int .i64 o.n) ∧ w.cell? ⟨g, 4, none⟩ = some (.int .i64 o.t) := by
  refine ⟨?_, ?_, ?_, ?_, ?_⟩ <;> rw [h.cell] <;> rfl
theorem At.i3 {w : World} {g : Nat} {T : TypeId} {i : ISt} (h : At w g T i.cells) :
    w.cell? ⟨g, 0, none⟩ = some (.int .i64 i.a) ∧ w.cell? ⟨g, 1, none⟩ = some (.int .i64 i.o) ∧ w.cell? ⟨g, 2, none⟩ = some (.int .i64 i.k) := by
  refine ⟨?_, ?_, ?_⟩ <;> rw [h.cell] <;> rfl
theorem OSt.setA {w : World} {g : Nat} {T : TypeId} {a b k n t : Int} (h : At w g T (OSt.cells ⟨a, b, k, n, t⟩)) (s u : Int) : At ((w.setCell ⟨g, 2, none⟩ (.int .i64 s)).setCell ⟨g, 4, none⟩ (.int .i64 u)) g T (OSt.cells ⟨a, b, s, n, u⟩) := by
  simpa [OSt.cells] using (h.set_ 2 (.int .i64 s)).set_ 4 (.int .i64 u)
theorem OSt.setN {w : World} {g : Nat} {T : TypeId} {a b k n t : Int} (h : At w g T (OSt.cells ⟨a, b, k, n, t⟩)) (s u : Int) : At ((w.setCell ⟨g, 3, none⟩ (.int .i64 s)).setCell ⟨g, 4, none⟩ (.int .i64 u)) g T (OSt.cells ⟨a, b, k, s, u⟩) := by
  simpa [OSt.cells] using (h.set_ 3 (.int .i64 s)).set_ 4 (.int .i64 u)
theorem OSt.setT {w : World} {g : Nat} {T : TypeId} {a b k n t : Int} (h : At w g T (OSt.cells ⟨a, b, k, n, t⟩)) (u : Int) : At (w.setCell ⟨g, 4, none⟩ (.int .i64 u)) g T (OSt.cells ⟨a, b, k, n, u⟩) := by
  simpa [OSt.cells] using h.set_ 4 (.int .i64 u)
theorem ISt.setK {w : World} {g : Nat} {T : TypeId} {a o k : Int} (h : At w g T (ISt.cells ⟨a, o, k⟩)) (u : Int) : At (w.setCell ⟨g, 2, none⟩ (.int .i64 u)) g T (ISt.cells ⟨a, o, u⟩) := by
  simpa [ISt.cells] using h.set_ 2 (.int .i64 u)

def needO (o : OSt) (last : Int) : Int × Bool := if o.n < last then (o.n + 1, true) else if o.k < last ∧ 4 ≤ o.t then (o.k + 1, true) else (0, false)
def ackO (o : OSt) (s : Int) : Bool × OSt := if s ≤ o.k ∨ o.n < s then (false, o) else (true, { o with k := s, t := 0 })
def tickO (o : OSt) : OSt := if o.k < o.n then { o with t := o.t + 1 } else o
def doneI (i : ISt) (s : Int) : ISt := { i with k := max i.k (min s 1099511627776) }

section
theorem isPlace_to (w : World) (n : Int) (s : Bool) (hs : (decide (0 ≤ n) && decide (n < 5)) = s) :
    Calls Try.prog 50 #[.int .i64 n] w fun e w' => e = .returned (.bool s) ∧ w' = w := by
  by_cases h0 : 0 ≤ n
  · by_cases h5 : n < 5
    · have HE : Hid (true = s) := by unfold Hid; rw [← hs, decide_eq_true h0, decide_eq_true h5]; rfl
      clear hs
      go_enter Try.func50, Try.ntmps50
      go_wp2_with (fail)
      go_ret
      exact ⟨ret_bool HE.out, rfl⟩
    · have HE : Hid (false = s) := by unfold Hid; rw [← hs, decide_eq_true h0, decide_eq_false h5]; rfl
      clear hs
      go_enter Try.func50, Try.ntmps50
      go_wp2_with (fail)
      go_ret
      exact ⟨ret_bool HE.out, rfl⟩
  · have HE : Hid (false = s) := by unfold Hid; rw [← hs, decide_eq_false h0]; rfl
    clear hs
    go_enter Try.func50, Try.ntmps50
    go_wp2_with (fail)
    go_ret
    exact ⟨ret_bool HE.out, rfl⟩
theorem refPlace_to (w : World) (n : Int) (s : Bool) (hs : (decide (0 ≤ n) && decide (n < 5)) = s) :
    Calls Try.prog 37 #[.int .i64 n] w fun e w' => e = .returned (.bool s) ∧ w' = w := by
  by_cases h0 : 0 ≤ n
  · by_cases h5 : n < 5
    · have HE : Hid (true = s) := by unfold Hid; rw [← hs, decide_eq_true h0, decide_eq_true h5]; rfl
      clear hs
      go_enter Try.func37, Try.ntmps37
      go_wp2_with (fail)
      go_ret
      exact ⟨ret_bool HE.out, rfl⟩
    · have HE : Hid (false = s) := by unfold Hid; rw [← hs, decide_eq_true h0, decide_eq_false h5]; rfl
      clear hs
      go_enter Try.func37, Try.ntmps37
      go_wp2_with (fail)
      go_ret
      exact ⟨ret_bool HE.out, rfl⟩
  · have HE : Hid (false = s) := by unfold Hid; rw [← hs, decide_eq_false h0]; rfl
    clear hs
    go_enter Try.func37, Try.ntmps37
    go_wp2_with (fail)
    go_ret
    exact ⟨ret_bool HE.out, rfl⟩
set_option maxHeartbeats 1600000 in
theorem isWay_to (w : World) (a b q : Int) (s : Bool) (hs : isWayS a b q = s) :
    Calls Try.prog 36 #[.int .i64 a, .int .i64 b, .int .i64 q] w fun e w' => e = .returned (.bool s) ∧ w' = w := by
  subst hs
  obtain ⟨p, hp⟩ : ∃ p, Hid ((decide (0 ≤ a) && decide (a < 5)) = p) := ⟨_, rfl⟩
  obtain ⟨p', hp'⟩ : ∃ p, Hid ((decide (0 ≤ b) && decide (b < 5)) = p) := ⟨_, rfl⟩
  have HW : Hid (isWayS a b q = (p && p' && !decide (a = b) && decide (0 ≤ q) && decide (q ≤ 1099511627776))) := by unfold Hid isWayS; rw [hp.out, hp'.out]
  have arm : ∀ s, (p && p' && !decide (a = b) && decide (0 ≤ q) && decide (q ≤ 1099511627776)) = s → isWayS a b q = s := fun s h => HW.out.trans h
  have ARM := Lib.hid arm
  clear arm HW
  cases p
  · go_enter Try.func36, Try.ntmps36
    go_wp2_with (first | (go_at_call 50; (with_reducible refine (isPlace_to _ a _ hp.out).mono ?_); rintro e w1 ⟨rfl, rfl⟩) | (go_at_call 50; (with_reducible refine (isPlace_to _ b _ hp'.out).mono ?_); rintro e w1 ⟨rfl, rfl⟩))
    go_ret
    exact ⟨ret_bool (ARM.out false (by simp)).symm, rfl⟩
  cases p'
  · go_enter Try.func36, Try.ntmps36
    go_wp2_with (first | (go_at_call 50; (with_reducible refine (isPlace_to _ a _ hp.out).mono ?_); rintro e w1 ⟨rfl, rfl⟩) | (go_at_call 50; (with_reducible refine (isPlace_to _ b _ hp'.out).mono ?_); rintro e w1 ⟨rfl, rfl⟩))
    go_ret
    exact ⟨ret_bool (ARM.out false (by simp)).symm, rfl⟩
  by_cases hab : a = b
  · have hn : (a != b) = false := by rw [hab]; simp
    have HE := Lib.hid (ARM.out false (by simp [hab]))
    have HAB := Lib.hid hab
    clear hab
    go_enter Try.func36, Try.ntmps36
    go_wp2_with (first | (go_at_call 50; (with_reducible refine (isPlace_to _ a _ hp.out).mono ?_); rintro e w1 ⟨rfl, rfl⟩) | (go_at_call 50; (with_reducible refine (isPlace_to _ b _ hp'.out).mono ?_); rintro e w1 ⟨rfl, rfl⟩))
    go_ret
    exact ⟨ret_bool HE.out.symm, rfl⟩
  have hn : (a != b) = true := by rw [bne_iff_ne]; exact hab
  by_cases h0 : 0 ≤ q
  · by_cases h1 : q ≤ 1099511627776
    · have HE := Lib.hid (ARM.out true (by simp [hab, h0, h1]))
      clear hab
      go_enter Try.func36, Try.ntmps36
      go_wp2_with (first | (go_at_call 50; (with_reducible refine (isPlace_to _ a _ hp.out).mono ?_); rintro e w1 ⟨rfl, rfl⟩) | (go_at_call 50; (with_reducible refine (isPlace_to _ b _ hp'.out).mono ?_); rintro e w1 ⟨rfl, rfl⟩))
      go_ret
      exact ⟨ret_bool HE.out.symm, rfl⟩
    · have HE := Lib.hid (ARM.out false (by simp [h1]))
      clear hab
      go_enter Try.func36, Try.ntmps36
      go_wp2_with (first | (go_at_call 50; (with_reducible refine (isPlace_to _ a _ hp.out).mono ?_); rintro e w1 ⟨rfl, rfl⟩) | (go_at_call 50; (with_reducible refine (isPlace_to _ b _ hp'.out).mono ?_); rintro e w1 ⟨rfl, rfl⟩))
      go_ret
      exact ⟨ret_bool (by rw [HE.out]; first | rfl | (simp; done) | (simp; omega)), rfl⟩
  · have HE := Lib.hid (ARM.out false (by simp [h0]))
    clear hab
    go_enter Try.func36, Try.ntmps36
    go_wp2_with (first | (go_at_call 50; (with_reducible refine (isPlace_to _ a _ hp.out).mono ?_); rintro e w1 ⟨rfl, rfl⟩) | (go_at_call 50; (with_reducible refine (isPlace_to _ b _ hp'.out).mono ?_); rintro e w1 ⟨rfl, rfl⟩))
    go_ret
    exact ⟨ret_bool HE.out.symm, rfl⟩
end

def NewP (T : TypeId) (cs : Array Value) (w : World) (e : Ending) (w' : World) : Prop := ∃ g, e = .returned (.tuple #[.pointer (some ⟨g, 0, none⟩), .int .i64 0]) ∧ w.heap.size ≤ g ∧ At w' g T cs ∧ Chg [] w w'
theorem newOut_yes (w : World) (a b q : Int) (h : isWayS a b q = true) :
    Calls Try.prog 23 #[.int .i64 a, .int .i64 b, .int .i64 q] w (NewP 95 (OSt.cells ⟨a, b, q, q, 0⟩) w) := by
  have H := Lib.hid h
  clear h
  go_enter Try.func23, Try.ntmps23
  go_wp2_with (fail)
  refine (isWay_to _ _ _ _ _ H.out).mono ?_
  rintro e w1 ⟨rfl, rfl⟩
  go_wp2_with (fail)
  go_ret2
  exact ⟨_, rfl, Nat.le_refl _, At.new _ _ _, (Chg.refl _ _).alloc _⟩
theorem newOut_no (w : World) (a b q : Int) (h : isWayS a b q = false) :
    Calls Try.prog 23 #[.int .i64 a, .int .i64 b, .int .i64 q] w fun e w' => e = .returned (.tuple #[.pointer none, .int .i64 1]) ∧ w' = w := by
  have H := Lib.hid h
  clear h
  go_enter Try.func23, Try.ntmps23
  go_wp2_with (fail)
  refine (isWay_to _ _ _ _ _ H.out).mono ?_
  rintro e w1 ⟨rfl, rfl⟩
  go_wp2_with (fail)
  go_ret2
  exact ⟨rfl, rfl⟩
theorem newIn_yes (w : World) (a b q : Int) (h : isWayS a b q = true) :
    Calls Try.prog 12 #[.int .i64 a, .int .i64 b, .int .i64 q] w (NewP 84 (ISt.cells ⟨a, b, q⟩) w) := by
  have H := Lib.hid h
  clear h
  go_enter Try.func12, Try.ntmps12
  go_wp2_with (fail)
  refine (isWay_to _ _ _ _ _ H.out).mono ?_
  rintro e w1 ⟨rfl, rfl⟩
  go_wp2_with (fail)
  go_ret2
  exact ⟨_, rfl, Nat.le_refl _, At.new _ _ _, (Chg.refl _ _).alloc _⟩
theorem newIn_no (w : World) (a b q : Int) (h : isWayS a b q = false) :
    Calls Try.prog 12 #[.int .i64 a, .int .i64 b, .int .i64 q] w fun e w' => e = .returned (.tuple #[.pointer none, .int .i64 1]) ∧ w' = w := by
  have H := Lib.hid h
  clear h
  go_enter Try.func12, Try.ntmps12
  go_wp2_with (fail)
  refine (isWay_to _ _ _ _ _ H.out).mono ?_
  rintro e w1 ⟨rfl, rfl⟩
  go_wp2_with (fail)
  go_ret2
  exact ⟨rfl, rfl⟩

set_option maxHeartbeats 1600000 in
theorem need_any (w : World) (g : Nat) (o : OSt) (h : At w g 95 o.cells) (ho : o.Ok) (last : Int) :
    Calls Try.prog 27 #[.pointer (some ⟨g, 0, none⟩), .int .i64 last] w fun e w' => e = .returned (.tuple #[.int .i64 (needO o last).1, .bool (needO o last).2]) ∧ Chg [] w w' := by
  obtain ⟨c0, c1, c2, c3, c4⟩ := h.o5
  obtain ⟨a, b, k, n, t⟩ := o
  obtain ⟨_, _, _, _, k0, kn, n1, t0, t1⟩ := ho
  simp only at c0 c1 c2 c3 c4 k0 kn n1 t0 t1
  clear h
  by_cases h1 : n < last
  · have HE : Hid (needO ⟨a, b, k, n, t⟩ last = (n + 1, true)) := by simp [Hid, needO, h1]
    go_enter Try.func27, Try.ntmps27
    go_wp2_with (fail)
    go_ret2
    exact ⟨by rw [HE.out]; rfl, Chg.refl _ _⟩
  by_cases h2 : k < last
  · by_cases h3 : 4 ≤ t
    · have HE : Hid (needO ⟨a, b, k, n, t⟩ last = (k + 1, true)) := by simp [Hid, needO, h1, h2, h3]
      go_enter Try.func27, Try.ntmps27
      go_wp2_with (fail)
      go_ret2
      exact ⟨by rw [HE.out]; rfl, Chg.refl _ _⟩
    · have HE : Hid (needO ⟨a, b, k, n, t⟩ last = (0, false)) := by simp [Hid, needO, h1, h3]
      go_enter Try.func27, Try.ntmps27
      go_wp2_with (fail)
      go_ret2
      exact ⟨by rw [HE.out]; rfl, Chg.refl _ _⟩
  · have HE : Hid (needO ⟨a, b, k, n, t⟩ last = (0, false)) := by simp [Hid, needO, h1, h2]
    go_enter Try.func27, Try.ntmps27
    go_wp2_with (fail)
    go_ret2
    exact ⟨by rw [HE.out]; rfl, Chg.refl _ _⟩

def AckPost (g : Nat) (T : TypeId) (w : World) (r : Bool × OSt) (e : Ending) (w' : World) : Prop := e = .returned (.bool r.1) ∧ At w' g T r.2.cells ∧ Chg [g] w w'
set_option maxHeartbeats 1600000 in
theorem ack_any (w : World) (g : Nat) (o : OSt) (h : At w g 95 o.cells) (s : Int) :
    Calls Try.prog 26 #[.pointer (some ⟨g, 0, none⟩), .int .i64 s] w (AckPost g 95 w (ackO o s)) := by
  obtain ⟨c0, c1, c2, c3, c4⟩ := h.o5
  have f2 := h.free 2
  have f4 := h.free 4
  obtain ⟨a, b, k, n, t⟩ := o
  have H := Lib.hid h
  simp only at c0 c1 c2 c3 c4
  clear h
  by_cases h1 : s ≤ k
  · go_enter Try.func26, Try.ntmps26
    go_wp2_with (fail)
    go_ret
    have he : ackO ⟨a, b, k, n, t⟩ s = (false, ⟨a, b, k, n, t⟩) := by simp [ackO, h1]
    rw [he]
    exact ⟨rfl, H.out, Chg.refl _ _⟩
  by_cases h2 : n < s
  · go_enter Try.func26, Try.ntmps26
    go_wp2_with (fail)
    go_ret
    have he : ackO ⟨a, b, k, n, t⟩ s = (false, ⟨a, b, k, n, t⟩) := by simp [ackO, h2]
    rw [he]
    exact ⟨rfl, H.out, Chg.refl _ _⟩
  go_enter Try.func26, Try.ntmps26
  go_wp2_with (fail)
  go_ret
  have he : ackO ⟨a, b, k, n, t⟩ s = (true, ⟨a, b, s, n, 0⟩) := by simp [ackO, h1, h2]
  rw [he]
  exact ⟨rfl, OSt.setA H.out s 0, ((Chg.refl _ _).setCell (.inl (by simp)) _).setCell (.inl (by simp)) _⟩
theorem acked_any (w : World) (g : Nat) (o : OSt) (h : At w g 95 o.cells) :
    Calls Try.prog 34 #[.pointer (some ⟨g, 0, none⟩)] w fun e w' => e = .returned (.int .i64 o.k) ∧ w' = w := by
  obtain ⟨c0, c1, c2, c3, c4⟩ := h.o5
  go_enter Try.func34, Try.ntmps34
  go_wp2_with (fail)
  go_ret
  exact ⟨rfl, rfl⟩
theorem applied_any (w : World) (g : Nat) (i : ISt) (h : At w g 84 i.cells) :
    Calls Try.prog 20 #[.pointer (some ⟨g, 0, none⟩)] w fun e w' => e = .returned (.int .i64 i.k) ∧ w' = w := by
  obtain ⟨c0, c1, c2⟩ := h.i3
  go_enter Try.func20, Try.ntmps20
  go_wp2_with (fail)
  go_ret
  exact ⟨rfl, rfl⟩
def TickPost (g : Nat) (T : TypeId) (w : World) (o : OSt) (e : Ending) (w' : World) : Prop := e = .returned (.tuple #[]) ∧ At w' g T o.cells ∧ Chg [g] w w'
set_option maxHeartbeats 1600000 in
theorem tick_any (w : World) (g : Nat) (o : OSt) (h : At w g 95 o.cells) (ho : 0 ≤ o.t ∧ o.t ≤ 1099511627776) :
    Calls Try.prog 28 #[.pointer (some ⟨g, 0, none⟩)] w (TickPost g 95 w (tickO o)) := by
  obtain ⟨c0, c1, c2, c3, c4⟩ := h.o5
  have f4 := h.free 4
  obtain ⟨a, b, k, n, t⟩ := o
  have H := Lib.hid h
  obtain ⟨t0, t1⟩ := ho
  simp only at c0 c1 c2 c3 c4 t0 t1
  clear h
  by_cases h1 : k < n
  · go_enter Try.func28, Try.ntmps28
    go_wp2_with (fail)
    go_quiet (fail)
    go_wp2_with (fail)
    go_end0
    have he : tickO ⟨a, b, k, n, t⟩ = ⟨a, b, k, n, t + 1⟩ := by simp [tickO, h1]
    rw [he]
    refine ⟨rfl, OSt.setT (by first | exact H.out | exact H.out.drewN _ | exact H.out.keep ((Chg.refl [] _).drewN _) (by simp)) (t + 1), Chg.setCell (by first | exact Chg.refl _ _ | exact (Chg.refl _ _).drewN _) (.inl (by simp)) _⟩
  · have he : Hid (tickO ⟨a, b, k, n, t⟩ = ⟨a, b, k, n, t⟩) := by simp [Hid, tickO, h1]
    go_enter Try.func28, Try.ntmps28
    go_wp2_with (fail)
    go_quiet (fail)
    go_wp2_with (fail)
    go_end0
    rw [he.out]
    exact ⟨rfl, by first | exact H.out | exact H.out.keep ((Chg.refl [] _).drewN _) (by simp), by first | exact Chg.refl _ _ | exact (Chg.refl _ _).drewN _⟩
end Go.Proofs.Ytdfkednggjelcaa

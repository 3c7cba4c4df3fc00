/-
  hlc.Clock: New, Send, Raise, Last, Bound; and of a nil Clock.
-/
import Derived.Test.YtaamdgimjbgeeaaHlcM
namespace Go.Proofs.Ytaamdgimjbgeeaa
open Go.RowKit
attribute [local go_sem ↓] Go.wp_at_zero Go.wp_at_succ

def okM (n : Int) : Bool := decide (0 ≤ n ∧ n ≤ 281474976710655)
/-- What may stand in a Clock. -/
structure ClkI (l : St) (b : Int) : Prop where
  m0 : 0 ≤ l.m
  m1 : l.m ≤ 281474976710655
  c0 : 0 ≤ l.c
  c1 : l.c ≤ 65535
  b0 : 0 ≤ b
  b1 : b ≤ 281474976710655
def nextS (l : St) (n : Int) : St := if n ≤ l.m then ⟨l.m, l.c + 1⟩ else ⟨n, 0⟩
/-- What Send answers. -/
def sendF (l : St) (b n : Int) : St × Int :=
  if n < 0 ∨ 281474976710655 < n then (.z, 1) else if 65535 < (nextS l n).c then (.z, 17) else if b ≤ (nextS l n).m then (.z, 18) else (nextS l n, 0)
/-- The last stamp behind it. -/
def sendL (l : St) (b n : Int) : St := if (sendF l b n).2 = 0 then (sendF l b n).1 else l

def clkC (l : St) (b : Int) : Array Value := #[.int .i64 l.m, .int .i64 l.c, .int .i64 b]

/-- What Send hands back. -/
def SendPost (w : World) (B : Nat) (T : TypeId) (r : St × Int) (l : St) (b : Int) (e : Ending) (w' : World) : Prop :=
  e = .returned (.tuple #[.agg #[.int .i64 r.1.m, .int .i64 r.1.c], .int .i64 r.2]) ∧ At w' B T (clkC l b) ∧ Chg [B] w w'

set_option maxHeartbeats 1600000 in
theorem send_any (w : World) (B : Nat) (l : St) (b n : Int) (hA : At w B 75 (clkC l b)) (hI : ClkI l b) :
    Calls Try.prog 20 #[.pointer (some ⟨B, 0, none⟩), .int .i64 n] w (SendPost w B 75 (sendF l b n) (sendL l b n) b) := by
  obtain ⟨lm, lc⟩ := l
  obtain ⟨m0, m1, c0, c1, b0, b1⟩ := hI
  simp only at m0 m1 c0 c1
  have hB := hA.lt
  have a0 := hA.cell 0
  have a1 := hA.cell 1
  have a2 := hA.cell 2
  simp only [clkC] at a0 a1 a2
  have f0 := hA.free 0
  have f1 := hA.free 1
  by_cases hbad : n < 0 ∨ 281474976710655 < n
  · have hF : sendF ⟨lm, lc⟩ b n = (.z, 1) := by unfold sendF; rw [if_pos hbad]
    have hL : sendL ⟨lm, lc⟩ b n = ⟨lm, lc⟩ := by unfold sendL; rw [hF]; rfl
    rw [hL, hF]
    clear hL hF
    go_enter Try.func20, Try.ntmps20
    go_wp2_with (go_at_call 36; refine (isMilli_no _ _ hbad).mono ?_; rintro e w' ⟨rfl, rfl⟩)
    exact ret_st2 Try.results20 rfl rfl (At.new _ _ _) ⟨rfl, hA.keep ((Chg.refl [] _).alloc _) (by simp), (Chg.refl _ _).alloc _⟩
  · have h0 : 0 ≤ n := by omega
    have h1 : n ≤ 281474976710655 := by omega
    by_cases hle : n ≤ lm
    · have hN : nextS ⟨lm, lc⟩ n = ⟨lm, lc + 1⟩ := by unfold nextS; rw [if_pos hle]
      by_cases hov : 65535 < lc + 1
      · have hF : sendF ⟨lm, lc⟩ b n = (.z, 17) := by unfold sendF; rw [if_neg hbad, hN, if_pos hov]
        have hL : sendL ⟨lm, lc⟩ b n = ⟨lm, lc⟩ := by unfold sendL; rw [hF]; rfl
        rw [hL, hF]
        clear hL hF hN hbad
        go_enter Try.func20, Try.ntmps20
        go_wp2_with (go_at_call 36; refine (isMilli_yes _ _ h0 h1).mono ?_; rintro e w' ⟨rfl, rfl⟩)
        go_region_held3 (fun w' => w'.cell? ⟨B, 0, none⟩ = some (.int .i64 lm) ∧ w'.cell? ⟨B, 1, none⟩ = some (.int .i64 lc)) (go_keep) (fail)
        go_wp2_with (fail)
        exact ret_st2 Try.results20 rfl rfl ((At.new _ _ _).keep (((Chg.refl [] _).alloc _).drew) (by simp)) ⟨rfl, hA.keep ((((Chg.refl [] _).alloc _).alloc _).drew) (by simp), (((Chg.refl _ _).alloc _).alloc _).drew⟩
      · by_cases hbe : b ≤ lm
        · have hF : sendF ⟨lm, lc⟩ b n = (.z, 18) := by unfold sendF; rw [if_neg hbad, hN, if_neg hov, if_pos hbe]
          have hL : sendL ⟨lm, lc⟩ b n = ⟨lm, lc⟩ := by unfold sendL; rw [hF]; rfl
          rw [hL, hF]
          clear hL hF hN hbad
          go_enter Try.func20, Try.ntmps20
          go_wp2_with (go_at_call 36; refine (isMilli_yes _ _ h0 h1).mono ?_; rintro e w' ⟨rfl, rfl⟩)
          go_region_held3 (fun w' => w'.cell? ⟨B, 0, none⟩ = some (.int .i64 lm) ∧ w'.cell? ⟨B, 1, none⟩ = some (.int .i64 lc)) (go_keep) (fail)
          go_wp2_with (fail)
          go_quiet (fail)
          go_wp2_with (fail)
          exact ret_st2 Try.results20 rfl rfl (((At.new _ _ _).keep (((Chg.refl [] _).alloc _).drewN _) (by simp)).set2 _ _) ⟨rfl, hA.keep ((((Chg.refl [w.heap.size] w).alloc _).alloc _).drewN _ |>.set2 (.inl (by simp)) _ _) (by simp; omega), ((((Chg.refl _ _).alloc _).alloc _).drewN _).set2 (.inr (Nat.le_refl _)) _ _⟩
        · have hF : sendF ⟨lm, lc⟩ b n = (⟨lm, lc + 1⟩, 0) := by unfold sendF; rw [if_neg hbad, hN, if_neg hov, if_neg hbe]
          have hL : sendL ⟨lm, lc⟩ b n = ⟨lm, lc + 1⟩ := by unfold sendL; rw [hF]; rfl
          rw [hL, hF]
          clear hL hF hN hbad
          go_enter Try.func20, Try.ntmps20
          go_wp2_with (go_at_call 36; refine (isMilli_yes _ _ h0 h1).mono ?_; rintro e w' ⟨rfl, rfl⟩)
          go_region_held3 (fun w' => w'.cell? ⟨B, 0, none⟩ = some (.int .i64 lm) ∧ w'.cell? ⟨B, 1, none⟩ = some (.int .i64 lc)) (go_keep) (fail)
          go_wp2_with (fail)
          go_quiet (fail)
          go_wp2_with (fail)
          exact ret_st2 Try.results20 rfl rfl (((At.new _ _ _).keep ((((Chg.refl [B] _).alloc _).drewN _).set2 (.inl (by simp)) _ _) (by simp; omega)).set2 _ _) ⟨rfl, ((hA.keep ((((Chg.refl [] w).alloc _).alloc _).drewN _) (by simp)).set3 _ _).keep ((Chg.refl [w.heap.size] _).set2 (.inl (by simp)) _ _) (by simp; omega), (((((Chg.refl _ _).alloc _).alloc _).drewN _).set2 (.inl (by simp)) _ _).set2 (.inr (Nat.le_refl _)) _ _⟩
    · have hN : nextS ⟨lm, lc⟩ n = ⟨n, 0⟩ := by unfold nextS; rw [if_neg hle]
      by_cases hbe : b ≤ n
      · have hF : sendF ⟨lm, lc⟩ b n = (.z, 18) := by unfold sendF; rw [if_neg hbad, hN, if_neg (by simp), if_pos hbe]
        have hL : sendL ⟨lm, lc⟩ b n = ⟨lm, lc⟩ := by unfold sendL; rw [hF]; rfl
        rw [hL, hF]
        clear hL hF hN hbad
        go_enter Try.func20, Try.ntmps20
        go_wp2_with (go_at_call 36; refine (isMilli_yes _ _ h0 h1).mono ?_; rintro e w' ⟨rfl, rfl⟩)
        go_quiet (fail)
        go_wp2_with (fail)
        exact ret_st2 Try.results20 rfl rfl (((At.new _ _ _).keep (((Chg.refl [] _).alloc _).drewN _) (by simp)).set2 _ _) ⟨rfl, hA.keep ((((Chg.refl [w.heap.size] w).alloc _).alloc _).drewN _ |>.set2 (.inl (by simp)) _ _) (by simp; omega), ((((Chg.refl _ _).alloc _).alloc _).drewN _).set2 (.inr (Nat.le_refl _)) _ _⟩
      · have hF : sendF ⟨lm, lc⟩ b n = (⟨n, 0⟩, 0) := by unfold sendF; rw [if_neg hbad, hN, if_neg (by simp), if_neg hbe]
        have hL : sendL ⟨lm, lc⟩ b n = ⟨n, 0⟩ := by unfold sendL; rw [hF]; rfl
        rw [hL, hF]
        clear hL hF hN hbad
        go_enter Try.func20, Try.ntmps20
        go_wp2_with (go_at_call 36; refine (isMilli_yes _ _ h0 h1).mono ?_; rintro e w' ⟨rfl, rfl⟩)
        go_quiet (fail)
        go_wp2_with (fail)
        exact ret_st2 Try.results20 rfl rfl (((At.new _ _ _).keep ((((Chg.refl [B] _).alloc _).drewN _).set2 (.inl (by simp)) _ _) (by simp; omega)).set2 _ _) ⟨rfl, ((hA.keep ((((Chg.refl [] w).alloc _).alloc _).drewN _) (by simp)).set3 _ _).keep ((Chg.refl [w.heap.size] _).set2 (.inl (by simp)) _ _) (by simp; omega), (((((Chg.refl _ _).alloc _).alloc _).drewN _).set2 (.inl (by simp)) _ _).set2 (.inr (Nat.le_refl _)) _ _⟩

theorem new_yes (n : Int) (w : World) (h0 : 0 ≤ n) (h1 : n ≤ 281474976710655) : Calls Try.prog 17 #[.int .i64 n] w fun e w' =>
    e = .returned (.tuple #[.pointer (some ⟨w.heap.size, 0, none⟩), .int .i64 0]) ∧ w' = w.alloc (.cells #[.int .i64 n, .int .i64 0, .int .i64 n] 75) := by
  go_enter Try.func17, Try.ntmps17
  go_wp2_with (go_at_call 36; refine (isMilli_yes _ _ h0 h1).mono ?_; rintro e w' ⟨rfl, rfl⟩)
  go_ret2
  exact ⟨rfl, rfl⟩
theorem new_no (n : Int) (w : World) (h : n < 0 ∨ 281474976710655 < n) : Calls Try.prog 17 #[.int .i64 n] w fun e w' => e = .returned (.tuple #[.pointer none, .int .i64 1]) ∧ w = w' := by
  go_enter Try.func17, Try.ntmps17
  go_wp2_with (go_at_call 36; refine (isMilli_no _ _ h).mono ?_; rintro e w' ⟨rfl, rfl⟩)
  go_ret2
  exact ⟨rfl, rfl⟩
def raiseF (b n : Int) : Int := if n < b ∨ 281474976710655 < n then 1 else 0
def raiseB (b n : Int) : Int := if n < b ∨ 281474976710655 < n then b else n
def RaisePost (w : World) (B : Nat) (T : TypeId) (l : St) (b n : Int) (e : Ending) (w' : World) : Prop := e = .returned (.int .i64 (raiseF b n)) ∧ At w' B T (clkC l (raiseB b n)) ∧ Chg [B] w w'
set_option maxHeartbeats 800000 in
theorem raise_any (w : World) (B : Nat) (l : St) (b n : Int) (hA : At w B 75 (clkC l b)) :
    Calls Try.prog 18 #[.pointer (some ⟨B, 0, none⟩), .int .i64 n] w (RaisePost w B 75 l b n) := by
  obtain ⟨lm, lc⟩ := l
  have hB := hA.lt
  have a2 := hA.cell 2
  simp only [clkC] at a2
  have f2 := hA.free 2
  by_cases h1 : n < b
  · have hF : raiseF b n = 1 := by unfold raiseF; rw [if_pos (.inl h1)]
    have hL : raiseB b n = b := by unfold raiseB; rw [if_pos (.inl h1)]
    unfold RaisePost
    rw [hF, hL]
    clear hF hL
    go_enter Try.func18, Try.ntmps18
    go_wp2_with (fail)
    go_ret
    exact ⟨rfl, hA, Chg.refl _ _⟩
  · by_cases h2 : 281474976710655 < n
    · have hF : raiseF b n = 1 := by unfold raiseF; rw [if_pos (.inr h2)]
      have hL : raiseB b n = b := by unfold raiseB; rw [if_pos (.inr h2)]
      unfold RaisePost
      rw [hF, hL]
      clear hF hL
      go_enter Try.func18, Try.ntmps18
      go_wp2_with (fail)
      go_ret
      exact ⟨rfl, hA, Chg.refl _ _⟩
    · have hF : raiseF b n = 0 := by unfold raiseF; rw [if_neg (by omega)]
      have hL : raiseB b n = n := by unfold raiseB; rw [if_neg (by omega)]
      unfold RaisePost
      rw [hF, hL]
      clear hF hL
      go_enter Try.func18, Try.ntmps18
      go_wp2_with (fail)
      go_ret
      exact ⟨rfl, by simpa [clkC] using hA.set_ 2 (.int .i64 n), (Chg.refl _ _).setCell (.inl (by simp)) _⟩
theorem last_any (w : World) (B : Nat) (l : St) (b : Int) (hA : At w B 75 (clkC l b)) :
    Calls Try.prog 25 #[.pointer (some ⟨B, 0, none⟩)] w fun e w' => e = .returned (.agg #[.int .i64 l.m, .int .i64 l.c]) ∧ Chg [] w w' := by
  obtain ⟨lm, lc⟩ := l
  have hB := hA.lt
  have a0 := hA.cell 0
  have a1 := hA.cell 1
  simp only [clkC] at a0 a1
  go_enter Try.func25, Try.ntmps25
  go_wp2_with (fail)
  exact ret_st Try.results25 rfl (At.new _ _ _) ⟨rfl, (Chg.refl _ _).alloc _⟩
theorem bound_any (w : World) (B : Nat) (l : St) (b : Int) (hA : At w B 75 (clkC l b)) :
    Calls Try.prog 33 #[.pointer (some ⟨B, 0, none⟩)] w fun e w' => e = .returned (.int .i64 b) ∧ w = w' := by
  have a2 := hA.cell 2
  simp only [clkC] at a2
  go_enter Try.func33, Try.ntmps33
  go_wp2_with (fail)
  go_ret
  exact ⟨rfl, rfl⟩

theorem send_nil (n : Int) (w : World) : Calls Try.prog 20 #[.pointer none, .int .i64 n] w fun e w' => e = .returned (.tuple #[.agg #[.int .i64 0, .int .i64 0], .int .i64 1]) ∧ Chg [] w w' := by
  go_enter Try.func20, Try.ntmps20
  go_wp2_with (fail)
  exact ret_st2 Try.results20 rfl rfl (At.new _ _ _) ⟨rfl, (Chg.refl _ _).alloc _⟩
theorem hear_nil (n : Int) (v : Value) (w : World) : Calls Try.prog 19 #[.pointer none, .int .i64 n, v] w fun e w' => e = .returned (.int .i64 1) ∧ w = w' := by
  go_enter Try.func19, Try.ntmps19
  go_wp2_with (fail)
  go_ret
  exact ⟨rfl, rfl⟩
theorem last_nil (w : World) : Calls Try.prog 25 #[.pointer none] w fun e w' => e = .returned (.agg #[.int .i64 0, .int .i64 0]) ∧ Chg [] w w' := by
  go_enter Try.func25, Try.ntmps25
  go_wp2_with (fail)
  exact ret_st Try.results25 rfl (At.new _ _ _) ⟨rfl, (Chg.refl _ _).alloc _⟩
theorem bound_nil (w : World) : Calls Try.prog 33 #[.pointer none] w fun e w' => e = .returned (.int .i64 0) ∧ w = w' := by
  go_enter Try.func33, Try.ntmps33
  go_wp2_with (fail)
  go_ret
  exact ⟨rfl, rfl⟩
theorem raise_nil (n : Int) (w : World) : Calls Try.prog 18 #[.pointer none, .int .i64 n] w fun e w' => e = .returned (.int .i64 1) ∧ w = w' := by
  go_enter Try.func18, Try.ntmps18
  go_wp2_with (fail)
  go_ret
  exact ⟨rfl, rfl⟩
end Go.Proofs.Ytaamdgimjbgeeaa

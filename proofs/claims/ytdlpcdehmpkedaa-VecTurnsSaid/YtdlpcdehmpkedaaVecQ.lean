/-
  A new Vec.
-/
import Derived.Test.YtdlpcdehmpkedaaVecO
import Derived.Deep.RegionWith
import Derived.ChangeAlike
namespace Go.Proofs.Ytdlpcdehmpkedaa
open Go.RowKit
attribute [local go_sem ↓] Go.wp_at_zero Go.wp_at_succ

/-- A new Vec. -/
def NewPost (w : World) (T : TypeId) (n : Nat) (e : Ending) (w' : World) : Prop := ∃ B k f, e = .returned (.tuple #[.pointer (some ⟨B, 0, none⟩), .int .i64 0]) ∧ VecAt w' T B k f (List.replicate n .z) (List.replicate n .z) ∧ w.heap.size ≤ B ∧ w.heap.size ≤ k ∧ w.heap.size ≤ f ∧ Chg [] w w'
theorem rep_len (n : Nat) : (List.replicate n St.z).length = n := by simp
theorem new_close (w : World) (T : TypeId) (n : Nat) (cs : Array Value) (hcs : cs = (cS (List.replicate n St.z)).toArray) (a b : Nat) (hab : (a = w.heap.size ∧ b = w.heap.size + 1) ∨ (a = w.heap.size + 1 ∧ b = w.heap.size)) {e : Ending}
    (he : e = .returned (.tuple #[.pointer (some ⟨w.heap.size + 1 + 1, 0, none⟩), .int .i64 0])) :
    NewPost w T n e (((w.alloc (.cells cs 24)).alloc (.cells cs 24)).alloc (.cells #[.slice (some ⟨a, 0, none⟩) n n, .slice (some ⟨b, 0, none⟩) n n] T)).drew := by
  subst hcs
  have h1 : Sts (((w.alloc (.cells (cS (List.replicate n St.z)).toArray 24)).alloc (.cells (cS (List.replicate n St.z)).toArray 24)).alloc (.cells #[.slice (some ⟨a, 0, none⟩) n n, .slice (some ⟨b, 0, none⟩) n n] T)).drew w.heap.size (List.replicate n St.z) :=
    At.keep (At.new _ _ _) ((((Chg.refl [] _).alloc _).alloc _).drew) (by simp)
  have h2 : Sts (((w.alloc (.cells (cS (List.replicate n St.z)).toArray 24)).alloc (.cells (cS (List.replicate n St.z)).toArray 24)).alloc (.cells #[.slice (some ⟨a, 0, none⟩) n n, .slice (some ⟨b, 0, none⟩) n n] T)).drew (w.heap.size + 1) (List.replicate n St.z) := by
    have h := At.new (w.alloc (.cells (cS (List.replicate n St.z)).toArray 24)) 24 (cS (List.replicate n St.z)).toArray
    have e1 : (w.alloc (.cells (cS (List.replicate n St.z)).toArray 24)).heap.size = w.heap.size + 1 := by simp
    rw [e1] at h
    exact At.keep h (((Chg.refl [] _).alloc _).drew) (by simp)
  have h3 : At (((w.alloc (.cells (cS (List.replicate n St.z)).toArray 24)).alloc (.cells (cS (List.replicate n St.z)).toArray 24)).alloc (.cells #[.slice (some ⟨a, 0, none⟩) n n, .slice (some ⟨b, 0, none⟩) n n] T)).drew (w.heap.size + 1 + 1) T #[.slice (some ⟨a, 0, none⟩) n n, .slice (some ⟨b, 0, none⟩) n n] := by
    have h := At.new ((w.alloc (.cells (cS (List.replicate n St.z)).toArray 24)).alloc (.cells (cS (List.replicate n St.z)).toArray 24)) T #[.slice (some ⟨a, 0, none⟩) n n, .slice (some ⟨b, 0, none⟩) n n]
    have e1 : ((w.alloc (.cells (cS (List.replicate n St.z)).toArray 24)).alloc (.cells (cS (List.replicate n St.z)).toArray 24)).heap.size = w.heap.size + 1 + 1 := by simp
    rw [e1] at h
    exact h.keep ((Chg.refl [] _).drew) (by simp)
  refine ⟨w.heap.size + 1 + 1, a, b, he, ?_, by omega, by omega, by omega, (((Chg.refl _ _).alloc _).alloc _).alloc _ |>.drew⟩
  rcases hab with ⟨rfl, rfl⟩ | ⟨rfl, rfl⟩
  · exact ⟨by rw [rep_len]; exact h3, h1, h2, by omega, by omega, by omega⟩
  · exact ⟨by rw [rep_len]; exact h3, h2, h1, by omega, by omega, by omega⟩
theorem mk1 (w : World) : (Instr.makeSlice 22 (.int .i64 1) (.int .i64 1)).run Try.prog w = .ok (.slice (some ⟨w.heap.size, 0, none⟩) 1 1) (w.alloc (.cells #[.int .i64 0, .int .i64 0] 24)) := by kernel_rfl
set_option maxHeartbeats 1600000 in
theorem new_1 (w : World) : Calls Try.prog 11 #[.int .i64 1] w (NewPost w 45 1) := by
  have hmk := mk1
  go_enter Try.func11, Try.ntmps11
  go_wp2_with (fail)
  go_region_with (fail)
  all_goals go_wp2_with (fail)
  all_goals go_ret2
  all_goals first | exact new_close w _ 1 _ rfl _ _ (.inl ⟨rfl, rfl⟩) rfl | exact new_close w _ 1 _ rfl _ _ (.inr ⟨rfl, rfl⟩) rfl
theorem mk2 (w : World) : (Instr.makeSlice 22 (.int .i64 2) (.int .i64 2)).run Try.prog w = .ok (.slice (some ⟨w.heap.size, 0, none⟩) 2 2) (w.alloc (.cells #[.int .i64 0, .int .i64 0, .int .i64 0, .int .i64 0] 24)) := by kernel_rfl
set_option maxHeartbeats 1600000 in
theorem new_2 (w : World) : Calls Try.prog 11 #[.int .i64 2] w (NewPost w 45 2) := by
  have hmk := mk2
  go_enter Try.func11, Try.ntmps11
  go_wp2_with (fail)
  go_region_with (fail)
  all_goals go_wp2_with (fail)
  all_goals go_ret2
  all_goals first | exact new_close w _ 2 _ rfl _ _ (.inl ⟨rfl, rfl⟩) rfl | exact new_close w _ 2 _ rfl _ _ (.inr ⟨rfl, rfl⟩) rfl
theorem mk3 (w : World) : (Instr.makeSlice 22 (.int .i64 3) (.int .i64 3)).run Try.prog w = .ok (.slice (some ⟨w.heap.size, 0, none⟩) 3 3) (w.alloc (.cells #[.int .i64 0, .int .i64 0, .int .i64 0, .int .i64 0, .int .i64 0, .int .i64 0] 24)) := by kernel_rfl
set_option maxHeartbeats 1600000 in
theorem new_3 (w : World) : Calls Try.prog 11 #[.int .i64 3] w (NewPost w 45 3) := by
  have hmk := mk3
  go_enter Try.func11, Try.ntmps11
  go_wp2_with (fail)
  go_region_with (fail)
  all_goals go_wp2_with (fail)
  all_goals go_ret2
  all_goals first | exact new_close w _ 3 _ rfl _ _ (.inl ⟨rfl, rfl⟩) rfl | exact new_close w _ 3 _ rfl _ _ (.inr ⟨rfl, rfl⟩) rfl
theorem mk4 (w : World) : (Instr.makeSlice 22 (.int .i64 4) (.int .i64 4)).run Try.prog w = .ok (.slice (some ⟨w.heap.size, 0, none⟩) 4 4) (w.alloc (.cells #[.int .i64 0, .int .i64 0, .int .i64 0, .int .i64 0, .int .i64 0, .int .i64 0, .int .i64 0, .int .i64 0] 24)) := by kernel_rfl
set_option maxHeartbeats 1600000 in
theorem new_4 (w : World) : Calls Try.prog 11 #[.int .i64 4] w (NewPost w 45 4) := by
  have hmk := mk4
  go_enter Try.func11, Try.ntmps11
  go_wp2_with (fail)
  go_region_with (fail)
  all_goals go_wp2_with (fail)
  all_goals go_ret2
  all_goals first | exact new_close w _ 4 _ rfl _ _ (.inl ⟨rfl, rfl⟩) rfl | exact new_close w _ 4 _ rfl _ _ (.inr ⟨rfl, rfl⟩) rfl
theorem mk5 (w : World) : (Instr.makeSlice 22 (.int .i64 5) (.int .i64 5)).run Try.prog w = .ok (.slice (some ⟨w.heap.size, 0, none⟩) 5 5) (w.alloc (.cells #[.int .i64 0, .int .i64 0, .int .i64 0, .int .i64 0, .int .i64 0, .int .i64 0, .int .i64 0, .int .i64 0, .int .i64 0, .int .i64 0] 24)) := by kernel_rfl
set_option maxHeartbeats 1600000 in
theorem new_5 (w : World) : Calls Try.prog 11 #[.int .i64 5] w (NewPost w 45 5) := by
  have hmk := mk5
  go_enter Try.func11, Try.ntmps11
  go_wp2_with (fail)
  go_region_with (fail)
  all_goals go_wp2_with (fail)
  all_goals go_ret2
  all_goals first | exact new_close w _ 5 _ rfl _ _ (.inl ⟨rfl, rfl⟩) rfl | exact new_close w _ 5 _ rfl _ _ (.inr ⟨rfl, rfl⟩) rfl
theorem new_yes (w : World) (n : Int) (h0 : 1 ≤ n) (h1 : n ≤ 5) : Calls Try.prog 11 #[.int .i64 n] w (NewPost w 45 n.toNat) := by
  have h : n = 1 ∨ n = 2 ∨ n = 3 ∨ n = 4 ∨ n = 5 := by omega
  rcases h with rfl | rfl | rfl | rfl | rfl
  · exact new_1 w
  · exact new_2 w
  · exact new_3 w
  · exact new_4 w
  · exact new_5 w
theorem new_no (w : World) (n : Int) (h : n < 1 ∨ 5 < n) : Calls Try.prog 11 #[.int .i64 n] w fun e w' => e = .returned (.tuple #[.pointer none, .int .i64 1]) ∧ w = w' := by
  rcases h with h | h
  · go_enter Try.func11, Try.ntmps11
    go_wp2_with (fail)
    go_ret2
    exact ⟨rfl, rfl⟩
  · have h0 : 1 ≤ n := by omega
    go_enter Try.func11, Try.ntmps11
    go_wp2_with (fail)
    go_ret2
    exact ⟨rfl, rfl⟩
set_option maxHeartbeats 1600000 in
theorem refNew_1 (w : World) : Calls Try.prog 16 #[.int .i64 1] w (NewPost w 48 1) := by
  have hmk := mk1
  go_enter Try.func16, Try.ntmps16
  go_wp2_with (fail)
  go_region_with (fail)
  all_goals go_wp2_with (fail)
  all_goals go_ret2
  all_goals first | exact new_close w _ 1 _ rfl _ _ (.inl ⟨rfl, rfl⟩) rfl | exact new_close w _ 1 _ rfl _ _ (.inr ⟨rfl, rfl⟩) rfl
set_option maxHeartbeats 1600000 in
theorem refNew_2 (w : World) : Calls Try.prog 16 #[.int .i64 2] w (NewPost w 48 2) := by
  have hmk := mk2
  go_enter Try.func16, Try.ntmps16
  go_wp2_with (fail)
  go_region_with (fail)
  all_goals go_wp2_with (fail)
  all_goals go_ret2
  all_goals first | exact new_close w _ 2 _ rfl _ _ (.inl ⟨rfl, rfl⟩) rfl | exact new_close w _ 2 _ rfl _ _ (.inr ⟨rfl, rfl⟩) rfl
set_option maxHeartbeats 1600000 in
theorem refNew_3 (w : World) : Calls Try.prog 16 #[.int .i64 3] w (NewPost w 48 3) := by
  have hmk := mk3
  go_enter Try.func16, Try.ntmps16
  go_wp2_with (fail)
  go_region_with (fail)
  all_goals go_wp2_with (fail)
  all_goals go_ret2
  all_goals first | exact new_close w _ 3 _ rfl _ _ (.inl ⟨rfl, rfl⟩) rfl | exact new_close w _ 3 _ rfl _ _ (.inr ⟨rfl, rfl⟩) rfl
set_option maxHeartbeats 1600000 in
theorem refNew_4 (w : World) : Calls Try.prog 16 #[.int .i64 4] w (NewPost w 48 4) := by
  have hmk := mk4
  go_enter Try.func16, Try.ntmps16
  go_wp2_with (fail)
  go_region_with (fail)
  all_goals go_wp2_with (fail)
  all_goals go_ret2
  all_goals first | exact new_close w _ 4 _ rfl _ _ (.inl ⟨rfl, rfl⟩) rfl | exact new_close w _ 4 _ rfl _ _ (.inr ⟨rfl, rfl⟩) rfl
set_option maxHeartbeats 1600000 in
theorem refNew_5 (w : World) : Calls Try.prog 16 #[.int .i64 5] w (NewPost w 48 5) := by
  have hmk := mk5
  go_enter Try.func16, Try.ntmps16
  go_wp2_with (fail)
  go_region_with (fail)
  all_goals go_wp2_with (fail)
  all_goals go_ret2
  all_goals first | exact new_close w _ 5 _ rfl _ _ (.inl ⟨rfl, rfl⟩) rfl | exact new_close w _ 5 _ rfl _ _ (.inr ⟨rfl, rfl⟩) rfl
theorem refNew_yes (w : World) (n : Int) (h0 : 1 ≤ n) (h1 : n ≤ 5) : Calls Try.prog 16 #[.int .i64 n] w (NewPost w 48 n.toNat) := by
  have h : n = 1 ∨ n = 2 ∨ n = 3 ∨ n = 4 ∨ n = 5 := by omega
  rcases h with rfl | rfl | rfl | rfl | rfl
  · exact refNew_1 w
  · exact refNew_2 w
  · exact refNew_3 w
  · exact refNew_4 w
  · exact refNew_5 w
theorem refNew_no (w : World) (n : Int) (h : n < 1 ∨ 5 < n) : Calls Try.prog 16 #[.int .i64 n] w fun e w' => e = .returned (.tuple #[.pointer none, .int .i64 1]) ∧ w = w' := by
  rcases h with h | h
  · go_enter Try.func16, Try.ntmps16
    go_wp2_with (fail)
    go_ret2
    exact ⟨rfl, rfl⟩
  · have h0 : 1 ≤ n := by omega
    go_enter Try.func16, Try.ntmps16
    go_wp2_with (fail)
    go_ret2
    exact ⟨rfl, rfl⟩
end Go.Proofs.Ytdlpcdehmpkedaa

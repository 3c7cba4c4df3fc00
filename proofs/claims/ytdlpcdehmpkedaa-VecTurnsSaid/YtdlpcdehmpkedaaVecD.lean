/-
  vec: the reference raises one of some stamps.
-/
import Derived.Test.YtdlpcdehmpkedaaVecC
namespace Go.Proofs.Ytdlpcdehmpkedaa
open Go.RowKit
attribute [local go_sem ↓] Go.wp_at_zero Go.wp_at_succ

set_option maxHeartbeats 1600000 in
theorem refRaise_any (w : World) (g : Nat) (l : List St) (n : Nat) (i m c : Int) (hn : l.length = n) (hA : Sts w g l) :
    Calls Try.prog 26 #[.slice (some ⟨g, 0, none⟩) n n, .int .i64 i, .agg #[.int .i64 m, .int .i64 c]] w (RaisePost2 w g l i ⟨m, c⟩) := by
  subst hn
  have hg := At.lt hA
  by_cases hs : isS m c = true
  · have HS := Lib.hid hs
    clear hs
    by_cases hi : 0 ≤ i ∧ i < l.length
    · obtain ⟨i0, i1⟩ := hi
      obtain ⟨i, rfl⟩ := Int.eq_ofNat_of_zero_le i0
      have hi : i < l.length := by omega
      have HG : Hid (l.getD i .z = l[i]) := by unfold Hid; rw [List.getD_eq_getElem?_getD, List.getElem?_eq_getElem hi]; rfl
      have HS1 := fun (w' : World) (h : Sts w' g l) => h.get hi
      have HS1 := Lib.hid HS1
      obtain ⟨c0, c1⟩ := hA.get hi
      generalize l[i] = a at *
      have e1 : decide (l.length ≤ i) = false := by simp; omega
      have e2 : decide ((l.length : Int) ≤ (i : Int)) = false := by simp; omega
      have e3 : decide ((i : Int) < 0) = false := by simp
      go_enter Try.func26, Try.ntmps26
      go_wp2_with (fail)
      have hA1 : Sts (w.alloc (.cells #[.int .i64 m, .int .i64 c] 24)) g l := At.keep hA ((Chg.refl [] _).alloc _) (by simp)
      have hs1 := At.new w 24 #[.int .i64 m, .int .i64 c]
      obtain ⟨p0, p1, p2⟩ := hs1.st
      obtain ⟨c0, c1⟩ := HS1.out _ hA1
      go_region_held3 (fun w' => w'.cell? ⟨w.heap.size, 0, none⟩ = some (.int .i64 m) ∧ w'.cell? ⟨w.heap.size, 1, none⟩ = some (.int .i64 c) ∧ w'.cell? ⟨g, i * 2, none⟩ = some (.int .i64 a.m) ∧ w'.cell? ⟨g, i * 2 + 1, none⟩ = some (.int .i64 a.c)) (go_keep)
        (first
          | (go_at_call 15; refine (refIs_yes _ _ _ HS.out).mono ?_; rintro e w2 ⟨rfl, hch2⟩; have hA2 : Sts w2 g l := At.keep (At.drewN hA1 1) hch2 (by simp); have hs2 := (hs1.drewN 1).keep hch2 (by simp); obtain ⟨r0, r1, r2⟩ := hs2.st; obtain ⟨d0, d1⟩ := HS1.out _ hA2)
          | (go_at_call 9; refine (refCompare_any _ _ _ _ _).mono ?_; rintro e w3 ⟨rfl, hch3⟩; have hA3 : Sts w3 g l := At.keep hA2 hch3 (by simp); have hs3 := hs2.keep hch3 (by simp); obtain ⟨r0, r1, r2⟩ := hs3.st; obtain ⟨d0, d1⟩ := HS1.out _ hA3; have hg0 := At.free hA3 (i * 2); have hg1 := At.free hA3 (i * 2 + 1)))
      have hch : Chg [] w w3 := ((((Chg.refl _ _).alloc _).drewN 1).trans hch2 (by simp)).trans hch3 (by simp)
      clear e1 e2 e3
      by_cases hgt : 0 < cmpS ⟨m, c⟩ ⟨a.m, a.c⟩
      · have HO : Hid (raiseOk l i ⟨m, c⟩ = true) := by
          unfold Hid raiseOk
          rw [Int.toNat_natCast, HG.out]
          simp only [Bool.and_eq_true, decide_eq_true_eq]
          exact ⟨⟨HS.out, by omega⟩, hgt⟩
        have HL : Hid (raiseL l i ⟨m, c⟩ = l.set i ⟨m, c⟩) := by unfold Hid raiseL; rw [if_pos HO.out, Int.toNat_natCast]
        go_wp2_with (fail)
        go_ret
        refine ⟨by rw [HO.out]; rfl, by rw [HL.out]; exact hA3.set hi ⟨m, c⟩, ?_⟩
        exact ((hch.mono (by simp)).setCell (.inl (by simp)) _).setCell (.inl (by simp)) _
      · have HO : Hid (raiseOk l i ⟨m, c⟩ = false) := by
          unfold Hid raiseOk
          rw [Int.toNat_natCast, HG.out, Bool.and_eq_false_iff]
          exact .inr (by simpa using hgt)
        have HL : Hid (raiseL l i ⟨m, c⟩ = l) := by unfold Hid raiseL; rw [HO.out]; rfl
        go_wp2_with (fail)
        go_ret
        exact ⟨by rw [HO.out]; rfl, by rw [HL.out]; exact hA3, hch.mono (by simp)⟩
    · have HO : Hid (raiseOk l i ⟨m, c⟩ = false) := by
        unfold Hid raiseOk
        rw [Bool.and_eq_false_iff, Bool.and_eq_false_iff]
        exact .inl (.inr (by simpa using hi))
      have HL : Hid (raiseL l i ⟨m, c⟩ = l) := by unfold Hid raiseL; rw [HO.out]; rfl
      by_cases i0 : i < 0
      · go_enter Try.func26, Try.ntmps26
        have hch : Chg [] w (w.alloc (.cells #[.int .i64 m, .int .i64 c] 24)) := (Chg.refl _ _).alloc _
        go_wp2_with (fail)
        go_quiet (fail)
        go_wp2_with (fail)
        go_ret
        exact ⟨by rw [HO.out]; rfl, by rw [HL.out]; exact At.keep hA (hch.drewN _) (by simp), (hch.drewN _).mono (by simp)⟩
      · obtain ⟨i, rfl⟩ := Int.eq_ofNat_of_zero_le (show 0 ≤ i by omega)
        have hge : l.length ≤ i := by omega
        have e1 : decide (l.length ≤ i) = true := by simpa using hge
        have e2 : decide ((l.length : Int) ≤ (i : Int)) = true := by simp; omega
        clear hi i0
        go_enter Try.func26, Try.ntmps26
        have hch : Chg [] w (w.alloc (.cells #[.int .i64 m, .int .i64 c] 24)) := (Chg.refl _ _).alloc _
        go_wp2_with (fail)
        go_quiet (fail)
        go_wp2_with (fail)
        go_ret
        exact ⟨by rw [HO.out]; rfl, by rw [HL.out]; exact At.keep hA (hch.drewN _) (by simp), (hch.drewN _).mono (by simp)⟩
  · have hs' : isS m c = false := by simpa using hs
    have HO : Hid (raiseOk l i ⟨m, c⟩ = false) := by unfold Hid raiseOk; rw [hs']; rfl
    have HL : Hid (raiseL l i ⟨m, c⟩ = l) := by unfold Hid raiseL; rw [HO.out]; rfl
    have HS := Lib.hid hs'
    clear hs hs'
    by_cases hi : 0 ≤ i ∧ i < l.length
    · obtain ⟨i0, i1⟩ := hi
      obtain ⟨i, rfl⟩ := Int.eq_ofNat_of_zero_le i0
      have hi : i < l.length := by omega
      have e1 : decide (l.length ≤ i) = false := by simp; omega
      have e2 : decide ((l.length : Int) ≤ (i : Int)) = false := by simp; omega
      have e3 : decide ((i : Int) < 0) = false := by simp
      have hs1 := At.new w 24 #[.int .i64 m, .int .i64 c]
      obtain ⟨p0, p1, p2⟩ := hs1.st
      go_enter Try.func26, Try.ntmps26
      go_wp2_with (fail)
      first
        | go_region_with (go_at_call 15; refine (refIs_no _ _ _ HS.out).mono ?_; rintro e w2 ⟨rfl, hch2⟩)
        | fail
      all_goals
        have hch : Chg [] w w2 := (((Chg.refl _ _).alloc _).drewN 1).trans hch2 (by simp)
        go_wp2_with (fail)
        go_ret
        exact ⟨by rw [HO.out]; rfl, by rw [HL.out]; exact At.keep hA hch (by simp), hch.mono (by simp)⟩
    · by_cases i0 : i < 0
      · have hch : Chg [] w (w.alloc (.cells #[.int .i64 m, .int .i64 c] 24)) := (Chg.refl _ _).alloc _
        go_enter Try.func26, Try.ntmps26
        go_wp2_with (fail)
        go_quiet (fail)
        go_wp2_with (fail)
        go_ret
        exact ⟨by rw [HO.out]; rfl, by rw [HL.out]; exact At.keep hA (hch.drewN _) (by simp), (hch.drewN _).mono (by simp)⟩
      · obtain ⟨i, rfl⟩ := Int.eq_ofNat_of_zero_le (show 0 ≤ i by omega)
        have hge : l.length ≤ i := by omega
        have e1 : decide (l.length ≤ i) = true := by simpa using hge
        have e2 : decide ((l.length : Int) ≤ (i : Int)) = true := by simp; omega
        clear hi i0
        have hch : Chg [] w (w.alloc (.cells #[.int .i64 m, .int .i64 c] 24)) := (Chg.refl _ _).alloc _
        go_enter Try.func26, Try.ntmps26
        go_wp2_with (fail)
        go_quiet (fail)
        go_wp2_with (fail)
        go_ret
        exact ⟨by rw [HO.out]; rfl, by rw [HL.out]; exact At.keep hA (hch.drewN _) (by simp), (hch.drewN _).mono (by simp)⟩
end Go.Proofs.Ytdlpcdehmpkedaa

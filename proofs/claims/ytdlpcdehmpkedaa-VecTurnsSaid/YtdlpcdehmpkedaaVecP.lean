/-
  vec.Vec: Floor, Known, Stable, Mark; the reference's; of a nil Vec.
-/
import Derived.Test.YtdlpcdehmpkedaaVecO
namespace Go.Proofs.Ytdlpcdehmpkedaa
open Go.RowKit
attribute [local go_sem ↓] Go.wp_at_zero Go.wp_at_succ
set_option maxHeartbeats 1600000 in
theorem floor_any (w : World) (B k f : Nat) (ks fs : List St) (i m c : Int) (hV : VecAt w 45 B k f ks fs) :
    Calls Try.prog 18 #[.pointer (some ⟨B, 0, none⟩), .int .i64 i, .agg #[.int .i64 m, .int .i64 c]] w fun e w' => e = .returned (.bool (raiseOk fs i ⟨m, c⟩)) ∧ VecAt w' 45 B k f ks (raiseL fs i ⟨m, c⟩) ∧ Chg [f] w w' := by
  have hB := hV.at_.lt
  have b0 := hV.at_.cell 0
  have b1 := hV.at_.cell 1
  have hs1 := At.new w 24 #[.int .i64 m, .int .i64 c]
  obtain ⟨p0, p1, p2⟩ := hs1.st
  go_enter Try.func18, Try.ntmps18
  go_wp2_with (fail)
  go_region_held3 (fun w' => w'.cell? ⟨w.heap.size, 0, none⟩ = some (.int .i64 m) ∧ w'.cell? ⟨w.heap.size, 1, none⟩ = some (.int .i64 c) ∧ w'.cell? ⟨B, 1, none⟩ = some (.slice (some ⟨f, 0, none⟩) fs.length fs.length)) (first | go_keep | exact ⟨s0, s1, s2⟩)
    (first | (go_at_call 25; refine (raises_any _ f fs _ i m c rfl (At.keep hV.fs_ (((Chg.refl [] _).alloc _).drewN 1) (by simp))).mono ?_; rintro e w3 ⟨rfl, hA3, hch3⟩; have hk3 : w.heap.size ∉ [f] := (by have := At.lt hV.fs_; simp; omega); have hs3 := (hs1.drewN 1).keep hch3 hk3; obtain ⟨s0, s1, _⟩ := hs3.st; have s2 := ((hV.at_.keep (((Chg.refl [] _).alloc (.cells #[.int .i64 m, .int .i64 c] 24)).drewN 1) (by simp)).keep hch3 (by simp [hV.ne3])).cell 1))
  go_wp2_with (fail)
  go_ret
  have hch : Chg [f] w w3 := (((Chg.refl _ _).alloc _).drewN 1).trans hch3 (by simp)
  exact ⟨rfl, hV.floor hch hA3 (raiseL_len _ _ _), hch⟩

set_option maxHeartbeats 1600000 in
theorem refReach_any (w : World) (B k f : Nat) (ks fs : List St) (i m c : Int) (hV : VecAt w 48 B k f ks fs) :
    Calls Try.prog 17 #[.pointer (some ⟨B, 0, none⟩), .int .i64 i, .agg #[.int .i64 m, .int .i64 c]] w fun e w' => e = .returned (.bool (raiseOk ks i ⟨m, c⟩)) ∧ VecAt w' 48 B k f (raiseL ks i ⟨m, c⟩) fs ∧ Chg [k] w w' := by
  have hB := hV.at_.lt
  have b0 := hV.at_.cell 0
  have b1 := hV.at_.cell 1
  have hs1 := At.new w 24 #[.int .i64 m, .int .i64 c]
  obtain ⟨p0, p1, p2⟩ := hs1.st
  go_enter Try.func17, Try.ntmps17
  go_wp2_with (fail)
  go_region_held3 (fun w' => w'.cell? ⟨w.heap.size, 0, none⟩ = some (.int .i64 m) ∧ w'.cell? ⟨w.heap.size, 1, none⟩ = some (.int .i64 c) ∧ w'.cell? ⟨B, 0, none⟩ = some (.slice (some ⟨k, 0, none⟩) ks.length ks.length)) (first | go_keep | exact ⟨s0, s1, s2⟩)
    (first | (go_at_call 26; refine (refRaise_any _ k ks _ i m c rfl (At.keep hV.ks_ (((Chg.refl [] _).alloc _).drewN 1) (by simp))).mono ?_; rintro e w3 ⟨rfl, hA3, hch3⟩; have hk3 : w.heap.size ∉ [k] := (by have := At.lt hV.ks_; simp; omega); have hs3 := (hs1.drewN 1).keep hch3 hk3; obtain ⟨s0, s1, _⟩ := hs3.st; have s2 := ((hV.at_.keep (((Chg.refl [] _).alloc (.cells #[.int .i64 m, .int .i64 c] 24)).drewN 1) (by simp)).keep hch3 (by simp [hV.ne2])).cell 0))
  go_wp2_with (fail)
  go_ret
  have hch : Chg [k] w w3 := (((Chg.refl _ _).alloc _).drewN 1).trans hch3 (by simp)
  exact ⟨rfl, hV.known hch hA3 (raiseL_len _ _ _), hch⟩

set_option maxHeartbeats 1600000 in
theorem refFloor_any (w : World) (B k f : Nat) (ks fs : List St) (i m c : Int) (hV : VecAt w 48 B k f ks fs) :
    Calls Try.prog 19 #[.pointer (some ⟨B, 0, none⟩), .int .i64 i, .agg #[.int .i64 m, .int .i64 c]] w fun e w' => e = .returned (.bool (raiseOk fs i ⟨m, c⟩)) ∧ VecAt w' 48 B k f ks (raiseL fs i ⟨m, c⟩) ∧ Chg [f] w w' := by
  have hB := hV.at_.lt
  have b0 := hV.at_.cell 0
  have b1 := hV.at_.cell 1
  have hs1 := At.new w 24 #[.int .i64 m, .int .i64 c]
  obtain ⟨p0, p1, p2⟩ := hs1.st
  go_enter Try.func19, Try.ntmps19
  go_wp2_with (fail)
  go_region_held3 (fun w' => w'.cell? ⟨w.heap.size, 0, none⟩ = some (.int .i64 m) ∧ w'.cell? ⟨w.heap.size, 1, none⟩ = some (.int .i64 c) ∧ w'.cell? ⟨B, 1, none⟩ = some (.slice (some ⟨f, 0, none⟩) fs.length fs.length)) (first | go_keep | exact ⟨s0, s1, s2⟩)
    (first | (go_at_call 26; refine (refRaise_any _ f fs _ i m c rfl (At.keep hV.fs_ (((Chg.refl [] _).alloc _).drewN 1) (by simp))).mono ?_; rintro e w3 ⟨rfl, hA3, hch3⟩; have hk3 : w.heap.size ∉ [f] := (by have := At.lt hV.fs_; simp; omega); have hs3 := (hs1.drewN 1).keep hch3 hk3; obtain ⟨s0, s1, _⟩ := hs3.st; have s2 := ((hV.at_.keep (((Chg.refl [] _).alloc (.cells #[.int .i64 m, .int .i64 c] 24)).drewN 1) (by simp)).keep hch3 (by simp [hV.ne3])).cell 1))
  go_wp2_with (fail)
  go_ret
  have hch : Chg [f] w w3 := (((Chg.refl _ _).alloc _).drewN 1).trans hch3 (by simp)
  exact ⟨rfl, hV.floor hch hA3 (raiseL_len _ _ _), hch⟩

def knownF (l : List St) (i : Int) : St := if 0 ≤ i ∧ i < l.length then l.getD i.toNat .z else .z
set_option maxHeartbeats 1600000 in
theorem known_of (w : World) (B k f : Nat) (ks fs : List St) (i : Int) (hV : VecAt w 45 B k f ks fs) :
    Calls Try.prog 14 #[.pointer (some ⟨B, 0, none⟩), .int .i64 i] w fun e w' => e = .returned (.agg #[.int .i64 (knownF ks i).m, .int .i64 (knownF ks i).c]) ∧ Chg [] w w' := by
  have hB := hV.at_.lt
  have hK := At.lt hV.ks_
  have b0 := hV.at_.cell 0
  by_cases hi : 0 ≤ i ∧ i < ks.length
  · obtain ⟨i0, i1⟩ := hi
    obtain ⟨i, rfl⟩ := Int.eq_ofNat_of_zero_le i0
    have hi : i < ks.length := by omega
    have HF : Hid (knownF ks i = ks[i]) := by unfold Hid knownF; rw [if_pos (by omega), Int.toNat_natCast, List.getD_eq_getElem?_getD, List.getElem?_eq_getElem hi]; rfl
    rw [HF.out]
    obtain ⟨c0, c1⟩ := hV.ks_.get hi
    generalize ks[i] = a at *
    have e1 : decide (ks.length ≤ i) = false := by simp; omega
    have e2 : decide ((ks.length : Int) ≤ (i : Int)) = false := by simp; omega
    go_enter Try.func14, Try.ntmps14
    go_wp2_with (fail)
    exact ret_st Try.results14 rfl (At.new _ _ _) ⟨rfl, (Chg.refl _ _).alloc _⟩
  · have HF : Hid (knownF ks i = .z) := by unfold Hid knownF; rw [if_neg hi]
    rw [HF.out]
    by_cases i0 : i < 0
    · go_enter Try.func14, Try.ntmps14
      go_wp2_with (fail)
      exact ret_st Try.results14 rfl (At.new _ _ _) ⟨rfl, (Chg.refl _ _).alloc _⟩
    · obtain ⟨i, rfl⟩ := Int.eq_ofNat_of_zero_le (show 0 ≤ i by omega)
      have hge : ks.length ≤ i := by omega
      have e1 : decide (ks.length ≤ i) = true := by simpa using hge
      have e2 : decide ((ks.length : Int) ≤ (i : Int)) = true := by simp; omega
      clear hi i0
      go_enter Try.func14, Try.ntmps14
      go_wp2_with (fail)
      exact ret_st Try.results14 rfl (At.new _ _ _) ⟨rfl, (Chg.refl _ _).alloc _⟩
set_option maxHeartbeats 1600000 in
theorem refOf_any (w : World) (B k f : Nat) (ks fs : List St) (i : Int) (hV : VecAt w 48 B k f ks fs) :
    Calls Try.prog 20 #[.pointer (some ⟨B, 0, none⟩), .int .i64 i] w fun e w' => e = .returned (.agg #[.int .i64 (knownF ks i).m, .int .i64 (knownF ks i).c]) ∧ Chg [] w w' := by
  have hB := hV.at_.lt
  have hK := At.lt hV.ks_
  have b0 := hV.at_.cell 0
  by_cases hi : 0 ≤ i ∧ i < ks.length
  · obtain ⟨i0, i1⟩ := hi
    obtain ⟨i, rfl⟩ := Int.eq_ofNat_of_zero_le i0
    have hi : i < ks.length := by omega
    have HF : Hid (knownF ks i = ks[i]) := by unfold Hid knownF; rw [if_pos (by omega), Int.toNat_natCast, List.getD_eq_getElem?_getD, List.getElem?_eq_getElem hi]; rfl
    rw [HF.out]
    obtain ⟨c0, c1⟩ := hV.ks_.get hi
    generalize ks[i] = a at *
    have e1 : decide (ks.length ≤ i) = false := by simp; omega
    have e2 : decide ((ks.length : Int) ≤ (i : Int)) = false := by simp; omega
    go_enter Try.func20, Try.ntmps20
    go_wp2_with (fail)
    exact ret_st Try.results20 rfl (At.new _ _ _) ⟨rfl, (Chg.refl _ _).alloc _⟩
  · have HF : Hid (knownF ks i = .z) := by unfold Hid knownF; rw [if_neg hi]
    rw [HF.out]
    by_cases i0 : i < 0
    · go_enter Try.func20, Try.ntmps20
      go_wp2_with (fail)
      exact ret_st Try.results20 rfl (At.new _ _ _) ⟨rfl, (Chg.refl _ _).alloc _⟩
    · obtain ⟨i, rfl⟩ := Int.eq_ofNat_of_zero_le (show 0 ≤ i by omega)
      have hge : ks.length ≤ i := by omega
      have e1 : decide (ks.length ≤ i) = true := by simpa using hge
      have e2 : decide ((ks.length : Int) ≤ (i : Int)) = true := by simp; omega
      clear hi i0
      go_enter Try.func20, Try.ntmps20
      go_wp2_with (fail)
      exact ret_st Try.results20 rfl (At.new _ _ _) ⟨rfl, (Chg.refl _ _).alloc _⟩

set_option maxHeartbeats 800000 in
theorem stable_any (w : World) (B k f : Nat) (ks fs : List St) (hV : VecAt w 45 B k f ks fs) (hl : ks.length ≤ 65536) :
    Calls Try.prog 13 #[.pointer (some ⟨B, 0, none⟩)] w fun e w' => e = .returned (.agg #[.int .i64 (minS ks).m, .int .i64 (minS ks).c]) ∧ Chg [] w w' := by
  have hB := hV.at_.lt
  have b0 := hV.at_.cell 0
  go_enter Try.func13, Try.ntmps13
  go_wp2_with (fail)
  refine (least_any _ (some ⟨k, 0, none⟩) _ _ ks rfl ((Rd.of_at hV.ks_ (cS_len _)).alloc _) (by omega)).mono ?_
  rintro e w3 ⟨rfl, hch3⟩
  have hr3 := (At.new w 24 #[.int .i64 0, .int .i64 0]).keep hch3 (by simp)
  obtain ⟨r0, r1, r2⟩ := hr3.st
  have f0 := hr3.free 0
  have f1 := hr3.free 1
  go_wp2_with (fail)
  exact ret_st Try.results13 rfl (hr3.set2 _ _) ⟨rfl, (((Chg.refl _ _).alloc _).trans hch3 (by simp)).set2 (.inr (by simp)) _ _⟩

set_option maxHeartbeats 800000 in
theorem mark_any (w : World) (B k f : Nat) (ks fs : List St) (hV : VecAt w 45 B k f ks fs) (hl : fs.length ≤ 65536) :
    Calls Try.prog 22 #[.pointer (some ⟨B, 0, none⟩)] w fun e w' => e = .returned (.agg #[.int .i64 (minS fs).m, .int .i64 (minS fs).c]) ∧ Chg [] w w' := by
  have hB := hV.at_.lt
  have b0 := hV.at_.cell 1
  go_enter Try.func22, Try.ntmps22
  go_wp2_with (fail)
  refine (least_any _ (some ⟨f, 0, none⟩) _ _ fs rfl ((Rd.of_at hV.fs_ (cS_len _)).alloc _) (by omega)).mono ?_
  rintro e w3 ⟨rfl, hch3⟩
  have hr3 := (At.new w 24 #[.int .i64 0, .int .i64 0]).keep hch3 (by simp)
  obtain ⟨r0, r1, r2⟩ := hr3.st
  have f0 := hr3.free 0
  have f1 := hr3.free 1
  go_wp2_with (fail)
  exact ret_st Try.results22 rfl (hr3.set2 _ _) ⟨rfl, (((Chg.refl _ _).alloc _).trans hch3 (by simp)).set2 (.inr (by simp)) _ _⟩

set_option maxHeartbeats 800000 in
theorem refStable_any (w : World) (B k f : Nat) (ks fs : List St) (hV : VecAt w 48 B k f ks fs) (hl : ks.length ≤ 65536) :
    Calls Try.prog 21 #[.pointer (some ⟨B, 0, none⟩)] w fun e w' => e = .returned (.agg #[.int .i64 (minS ks).m, .int .i64 (minS ks).c]) ∧ Chg [] w w' := by
  have hB := hV.at_.lt
  have b0 := hV.at_.cell 0
  go_enter Try.func21, Try.ntmps21
  go_wp2_with (fail)
  refine (refLeast_any _ (some ⟨k, 0, none⟩) _ _ ks rfl ((Rd.of_at hV.ks_ (cS_len _)).alloc _) (by omega)).mono ?_
  rintro e w3 ⟨rfl, hch3⟩
  have hr3 := (At.new w 24 #[.int .i64 0, .int .i64 0]).keep hch3 (by simp)
  obtain ⟨r0, r1, r2⟩ := hr3.st
  have f0 := hr3.free 0
  have f1 := hr3.free 1
  go_wp2_with (fail)
  exact ret_st Try.results21 rfl (hr3.set2 _ _) ⟨rfl, (((Chg.refl _ _).alloc _).trans hch3 (by simp)).set2 (.inr (by simp)) _ _⟩

set_option maxHeartbeats 800000 in
theorem refMark_any (w : World) (B k f : Nat) (ks fs : List St) (hV : VecAt w 48 B k f ks fs) (hl : fs.length ≤ 65536) :
    Calls Try.prog 23 #[.pointer (some ⟨B, 0, none⟩)] w fun e w' => e = .returned (.agg #[.int .i64 (minS fs).m, .int .i64 (minS fs).c]) ∧ Chg [] w w' := by
  have hB := hV.at_.lt
  have b0 := hV.at_.cell 1
  go_enter Try.func23, Try.ntmps23
  go_wp2_with (fail)
  refine (refLeast_any _ (some ⟨f, 0, none⟩) _ _ fs rfl ((Rd.of_at hV.fs_ (cS_len _)).alloc _) (by omega)).mono ?_
  rintro e w3 ⟨rfl, hch3⟩
  have hr3 := (At.new w 24 #[.int .i64 0, .int .i64 0]).keep hch3 (by simp)
  obtain ⟨r0, r1, r2⟩ := hr3.st
  have f0 := hr3.free 0
  have f1 := hr3.free 1
  go_wp2_with (fail)
  exact ret_st Try.results23 rfl (hr3.set2 _ _) ⟨rfl, (((Chg.refl _ _).alloc _).trans hch3 (by simp)).set2 (.inr (by simp)) _ _⟩

theorem reach_nil (w : World) (i m c : Int) : Calls Try.prog 12 #[.pointer none, .int .i64 i, .agg #[.int .i64 m, .int .i64 c]] w fun e w' => e = .returned (.bool false) ∧ Chg [] w w' := by
  go_enter Try.func12, Try.ntmps12
  go_wp2_with (fail)
  go_quiet (fail)
  go_wp2_with (fail)
  go_ret
  exact ⟨rfl, ((Chg.refl _ _).alloc _).drewN _⟩
theorem floor_nil (w : World) (i m c : Int) : Calls Try.prog 18 #[.pointer none, .int .i64 i, .agg #[.int .i64 m, .int .i64 c]] w fun e w' => e = .returned (.bool false) ∧ Chg [] w w' := by
  go_enter Try.func18, Try.ntmps18
  go_wp2_with (fail)
  go_quiet (fail)
  go_wp2_with (fail)
  go_ret
  exact ⟨rfl, ((Chg.refl _ _).alloc _).drewN _⟩
theorem known_nil (w : World) (i : Int) : Calls Try.prog 14 #[.pointer none, .int .i64 i] w fun e w' => e = .returned (.agg #[.int .i64 0, .int .i64 0]) ∧ Chg [] w w' := by
  go_enter Try.func14, Try.ntmps14
  go_wp2_with (fail)
  exact ret_st Try.results14 rfl (At.new _ _ _) ⟨rfl, (Chg.refl _ _).alloc _⟩
theorem stable_nil (w : World) : Calls Try.prog 13 #[.pointer none] w fun e w' => e = .returned (.agg #[.int .i64 0, .int .i64 0]) ∧ Chg [] w w' := by
  go_enter Try.func13, Try.ntmps13
  go_wp2_with (fail)
  exact ret_st Try.results13 rfl (At.new _ _ _) ⟨rfl, (Chg.refl _ _).alloc _⟩
theorem mark_nil (w : World) : Calls Try.prog 22 #[.pointer none] w fun e w' => e = .returned (.agg #[.int .i64 0, .int .i64 0]) ∧ Chg [] w w' := by
  go_enter Try.func22, Try.ntmps22
  go_wp2_with (fail)
  exact ret_st Try.results22 rfl (At.new _ _ _) ⟨rfl, (Chg.refl _ _).alloc _⟩
end Go.Proofs.Ytdlpcdehmpkedaa

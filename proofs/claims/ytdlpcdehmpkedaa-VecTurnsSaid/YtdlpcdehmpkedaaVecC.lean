/-
  vec: one of some stamps is raised; the reference's.
-/
import Derived.Test.YtdlpcdehmpkedaaVecL
import Derived.Test.YtdlpcdehmpkedaaPackW
namespace Go.Proofs.Ytdlpcdehmpkedaa
open Go.RowKit
attribute [local go_sem ↓] Go.wp_at_zero Go.wp_at_succ

/-- Is one of some stamps raised? -/
def raiseOk (l : List St) (i : Int) (s : St) : Bool := isS s.m s.c && decide (0 ≤ i ∧ i < l.length) && decide (0 < cmpS s (l.getD i.toNat .z))
def raiseL (l : List St) (i : Int) (s : St) : List St := if raiseOk l i s = true then l.set i.toNat s else l
theorem raiseL_len (l : List St) (i : Int) (s : St) : (raiseL l i s).length = l.length := by unfold raiseL; split <;> simp
theorem cS_set (l : List St) (k : Nat) (s : St) (h : k < l.length) : cS (l.set k s) = ((cS l).set (k * 2) (.int .i64 s.m)).set (k * 2 + 1) (.int .i64 s.c) := by
  induction l generalizing k with
  | nil => simp at h
  | cons a l ih =>
    cases k with
    | zero => simp [cS]
    | succ k =>
      have e : (k + 1) * 2 = k * 2 + 1 + 1 := by omega
      rw [e]
      simp [cS, ih k (by simpa using h)]
/-- Stamps known whole. -/
def Sts (w : World) (g : Nat) (l : List St) : Prop := At w g 24 (cS l).toArray
theorem Sts.get {w : World} {g : Nat} {l : List St} (h : Sts w g l) {k : Nat} (hk : k < l.length) : w.cell? ⟨g, k * 2, none⟩ = some (.int .i64 l[k].m) ∧ w.cell? ⟨g, k * 2 + 1, none⟩ = some (.int .i64 l[k].c) := by
  obtain ⟨h1, h2⟩ := cS_get hk
  exact ⟨by rw [h.cell]; simpa using h1, by rw [h.cell]; simpa using h2⟩
theorem Sts.set {w : World} {g : Nat} {l : List St} (h : Sts w g l) {k : Nat} (hk : k < l.length) (s : St) : Sts ((w.setCell ⟨g, k * 2, none⟩ (.int .i64 s.m)).setCell ⟨g, k * 2 + 1, none⟩ (.int .i64 s.c)) g (l.set k s) := by
  have h2 := (At.set_ h (k * 2) (.int .i64 s.m)).set_ (k * 2 + 1) (.int .i64 s.c)
  unfold Sts
  rw [cS_set l k s hk]
  simpa using h2
def RaisePost2 (w : World) (g : Nat) (l : List St) (i : Int) (s : St) (e : Ending) (w' : World) : Prop := e = .returned (.bool (raiseOk l i s)) ∧ Sts w' g (raiseL l i s) ∧ Chg [g] w w'

set_option maxHeartbeats 1600000 in
theorem raises_any (w : World) (g : Nat) (l : List St) (n : Nat) (i m c : Int) (hn : l.length = n) (hA : Sts w g l) :
    Calls Try.prog 25 #[.slice (some ⟨g, 0, none⟩) n n, .int .i64 i, .agg #[.int .i64 m, .int .i64 c]] w (RaisePost2 w g l i ⟨m, c⟩) := by
  subst hn
  have hg := At.lt hA
  by_cases hs : isS m c = true
  · have HS := Lib.hid hs
    clear hs
    by_cases hi : 0 ≤ i ∧ i < l.length
    · obtain ⟨i0, i1⟩ := hi
      obtain ⟨i, rfl⟩ := Int.eq_ofNat_of_zero_le i0
      have hi : i < l.length := by omega
      have HG : Hid (l.getD i .z = l[i]) := by unfold Hid; rw [List.getD_eq_getElem?_getD, List.getElem?_eq_getElem hi]; rfl
      have HS1 := fun (w' : World) (h : Sts w' g l) => h.get hi
      have HS1 := Lib.hid HS1
      obtain ⟨c0, c1⟩ := hA.get hi
      generalize l[i] = a at *
      have e1 : decide (l.length ≤ i) = false := by simp; omega
      have e2 : decide ((l.length : Int) ≤ (i : Int)) = false := by simp; omega
      have e3 : decide ((i : Int) < 0) = false := by simp
      go_enter Try.func25, Try.ntmps25
      go_wp2_with (fail)
      refine (pack_yes _ _ _ HS.out).mono ?_
      rintro e w1 ⟨rfl, hch1⟩
      have hA1 : Sts w1 g l := At.keep hA (((Chg.refl [] _).alloc _).trans hch1 (by simp)) (by simp)
      have hs1 := (At.new w 24 #[.int .i64 m, .int .i64 c]).keep hch1 (by simp)
      obtain ⟨p0, p1, p2⟩ := hs1.st
      obtain ⟨c0, c1⟩ := HS1.out _ hA1
      have hf0 := At.free hA1 (i * 2)
      have hf1 := At.free hA1 (i * 2 + 1)
      go_wp2_with (fail)
      go_region_held3 (fun w' => w'.cell? ⟨w.heap.size, 0, none⟩ = some (.int .i64 m) ∧ w'.cell? ⟨w.heap.size, 1, none⟩ = some (.int .i64 c) ∧ w'.cell? ⟨g, i * 2, none⟩ = some (.int .i64 a.m) ∧ w'.cell? ⟨g, i * 2 + 1, none⟩ = some (.int .i64 a.c)) (go_keep)
        (first | (go_at_call 24; refine (compare_any _ _ _ _ _).mono ?_; rintro e w3 ⟨rfl, hch3⟩; have hA3 : Sts w3 g l := At.keep (At.drewN hA1 1) hch3 (by simp); have hs3 := (hs1.drewN 1).keep hch3 (by simp); obtain ⟨r0, r1, r2⟩ := hs3.st; obtain ⟨d0, d1⟩ := HS1.out _ hA3; have hg0 := At.free hA3 (i * 2); have hg1 := At.free hA3 (i * 2 + 1)))
      have hch : Chg [] w w3 := ((((Chg.refl _ _).alloc _).trans hch1 (by simp)).drewN 1).trans hch3 (by simp)
      clear e1 e2 e3
      by_cases hgt : 0 < cmpS ⟨m, c⟩ ⟨a.m, a.c⟩
      · have HO : Hid (raiseOk l i ⟨m, c⟩ = true) := by
          unfold Hid raiseOk
          rw [Int.toNat_natCast, HG.out]
          simp only [Bool.and_eq_true, decide_eq_true_eq]
          exact ⟨⟨HS.out, by omega⟩, hgt⟩
        have HL : Hid (raiseL l i ⟨m, c⟩ = l.set i ⟨m, c⟩) := by unfold Hid raiseL; rw [if_pos HO.out, Int.toNat_natCast]
        go_wp2_with (fail)
        go_ret
        refine ⟨by rw [HO.out]; rfl, by rw [HL.out]; exact hA3.set hi ⟨m, c⟩, ?_⟩
        exact ((hch.mono (by simp)).setCell (.inl (by simp)) _).setCell (.inl (by simp)) _
      · have HO : Hid (raiseOk l i ⟨m, c⟩ = false) := by
          unfold Hid raiseOk
          rw [Int.toNat_natCast, HG.out, Bool.and_eq_false_iff]
          exact .inr (by simpa using hgt)
        have HL : Hid (raiseL l i ⟨m, c⟩ = l) := by unfold Hid raiseL; rw [HO.out]; rfl
        go_wp2_with (fail)
        go_ret
        exact ⟨by rw [HO.out]; rfl, by rw [HL.out]; exact hA3, hch.mono (by simp)⟩
    · have HO : Hid (raiseOk l i ⟨m, c⟩ = false) := by
        unfold Hid raiseOk
        rw [Bool.and_eq_false_iff, Bool.and_eq_false_iff]
        exact .inl (.inr (by simpa using hi))
      have HL : Hid (raiseL l i ⟨m, c⟩ = l) := by unfold Hid raiseL; rw [HO.out]; rfl
      by_cases i0 : i < 0
      · go_enter Try.func25, Try.ntmps25
        go_wp2_with (fail)
        refine (pack_yes _ _ _ HS.out).mono ?_
        rintro e w1 ⟨rfl, hch1⟩
        have hch : Chg [] w w1 := ((Chg.refl _ _).alloc _).trans hch1 (by simp)
        go_wp2_with (fail)
        go_quiet (fail)
        go_wp2_with (fail)
        go_ret
        exact ⟨by rw [HO.out]; rfl, by rw [HL.out]; exact At.keep hA (hch.drewN _) (by simp), (hch.drewN _).mono (by simp)⟩
      · obtain ⟨i, rfl⟩ := Int.eq_ofNat_of_zero_le (show 0 ≤ i by omega)
        have hge : l.length ≤ i := by omega
        have e1 : decide (l.length ≤ i) = true := by simpa using hge
        have e2 : decide ((l.length : Int) ≤ (i : Int)) = true := by simp; omega
        clear hi i0
        go_enter Try.func25, Try.ntmps25
        go_wp2_with (fail)
        refine (pack_yes _ _ _ HS.out).mono ?_
        rintro e w1 ⟨rfl, hch1⟩
        have hch : Chg [] w w1 := ((Chg.refl _ _).alloc _).trans hch1 (by simp)
        go_wp2_with (fail)
        go_quiet (fail)
        go_wp2_with (fail)
        go_ret
        exact ⟨by rw [HO.out]; rfl, by rw [HL.out]; exact At.keep hA (hch.drewN _) (by simp), (hch.drewN _).mono (by simp)⟩
  · have hs' : isS m c = false := by simpa using hs
    have HO : Hid (raiseOk l i ⟨m, c⟩ = false) := by unfold Hid raiseOk; rw [hs']; rfl
    have HL : Hid (raiseL l i ⟨m, c⟩ = l) := by unfold Hid raiseL; rw [HO.out]; rfl
    have HS := Lib.hid hs'
    clear hs hs'
    go_enter Try.func25, Try.ntmps25
    go_wp2_with (fail)
    refine (pack_no _ _ _ HS.out).mono ?_
    rintro e w1 ⟨rfl, hch1⟩
    have hch : Chg [] w w1 := ((Chg.refl _ _).alloc _).trans hch1 (by simp)
    go_wp2_with (fail)
    go_quiet (fail)
    go_wp2_with (fail)
    go_ret
    exact ⟨by rw [HO.out]; rfl, by rw [HL.out]; exact At.keep hA (hch.drewN _) (by simp), (hch.drewN _).mono (by simp)⟩
end Go.Proofs.Ytdlpcdehmpkedaa

/-
  Chapter 20's laws: what all of them ask at their end ('known').
-/
import Derived.Test.YtdlpcdehmpkedaaVecP
import Derived.Test.YtdlpcdehmpkedaaVecQ
namespace Go.Proofs.Ytdlpcdehmpkedaa
open Go.RowKit

theorem reach_to (w : World) (B k f : Nat) (ks fs : List St) (i m c : Int) {r : Bool} {ks' : List St} (hV : VecAt w 45 B k f ks fs) (h1 : raiseOk ks i ⟨m, c⟩ = r) (h2 : raiseL ks i ⟨m, c⟩ = ks') :
    Calls Try.prog 12 #[.pointer (some ⟨B, 0, none⟩), .int .i64 i, .agg #[.int .i64 m, .int .i64 c]] w fun e w' => e = .returned (.bool r) ∧ VecAt w' 45 B k f ks' fs ∧ Chg [k] w w' := by
  subst h1 h2; exact reach_any w B k f ks fs i m c hV
theorem stable_to (w : World) (B k f : Nat) (ks fs : List St) {s : St} (hV : VecAt w 45 B k f ks fs) (hl : ks.length ≤ 65536) (h1 : minS ks = s) :
    Calls Try.prog 13 #[.pointer (some ⟨B, 0, none⟩)] w fun e w' => e = .returned (.agg #[.int .i64 s.m, .int .i64 s.c]) ∧ Chg [] w w' := by
  subst h1; exact stable_any w B k f ks fs hV hl

set_option maxHeartbeats 1600000 in
theorem known_any (w : World) : Calls Try.prog 10 #[] w fun e w' => e = .returned (.bool true) ∧ Chg [] w w' := by
  go_enter Try.func10, Try.ntmps10
  go_wp2_with (fail)
  refine (new_yes _ 2 (by omega) (by omega)).mono ?_
  rintro e w1 ⟨B, k, f, rfl, hV1, hB, hk, hf, hch1⟩
  have e0 : List.replicate (Int.toNat 2) St.z = [⟨0, 0⟩, ⟨0, 0⟩] := rfl
  rw [e0] at hV1
  clear e0
  go_wp2_with (fail)
  refine (reach_to _ B k f [⟨0, 0⟩, ⟨0, 0⟩] [⟨0, 0⟩, ⟨0, 0⟩] 0 5 0 (r := true) (ks' := [⟨5, 0⟩, ⟨0, 0⟩]) hV1 (by simp [raiseOk, isS, cmpS]) (by simp [raiseL, raiseOk, isS, cmpS])).mono ?_
  rintro e w2 ⟨rfl, hV2, hch2⟩
  go_wp2_with (fail)
  refine (stable_to _ B k f _ _ (s := ⟨0, 0⟩) hV2 (by simp) (by simp [minS, minS2, cmpS])).mono ?_
  rintro e w3 ⟨rfl, hch3⟩
  have hV3 := hV2.keep0 hch3
  have hs3 := At.new w3 24 #[.int .i64 0, .int .i64 0]
  have hkl := At.lt hV3.ks_
  go_wp2_with (fail)
  refine (reach_to _ B k f [⟨5, 0⟩, ⟨0, 0⟩] [⟨0, 0⟩, ⟨0, 0⟩] 1 3 1 (r := true) (ks' := [⟨5, 0⟩, ⟨3, 1⟩]) (hV3.keep0 ((Chg.refl _ _).alloc _)) (by simp [raiseOk, isS, cmpS]) (by simp [raiseL, raiseOk, isS, cmpS])).mono ?_
  rintro e w4 ⟨rfl, hV4, hch4⟩
  have hs4 := hs3.keep hch4 (by simp; omega)
  obtain ⟨p0, p1, p2⟩ := hs4.st
  go_wp2_with (go_at_call 13; refine (stable_to _ B k f _ _ (s := ⟨3, 1⟩) hV4 (by simp) (by simp [minS, minS2, cmpS])).mono ?_; rintro e w5 ⟨rfl, hch5⟩)
  go_ret
  exact ⟨rfl, ((((hch1.trans hch2 (by simp; omega)).trans hch3 (by simp)).alloc _).trans hch4 (by simp; omega)).trans hch5 (by simp)⟩

set_option maxHeartbeats 1600000 in
theorem vecNothing_walk (w : World) (n : Int) (_ : (Lit.int .i64 n).wf = true) (m c : Int) (_ : (Lit.int .i64 m).wf = true) (_ : (Lit.int .i64 c).wf = true) :
    Calls Try.prog 6 #[.int .i64 n, .agg #[.int .i64 m, .int .i64 c]] w fun e w' => e = .returned (.bool true) ∧ Chg [] w w' := by
  have hs := At.new w 24 #[.int .i64 m, .int .i64 c]
  obtain ⟨p0, p1, p2⟩ := hs.st
  go_enter Try.func6, Try.ntmps6
  go_wp2_with (fail)
  refine (reach_nil _ _ _ _).mono ?_
  rintro e w1 ⟨rfl, hch1⟩
  have hs1 := hs.keep hch1 (by simp)
  obtain ⟨p0, p1, p2⟩ := hs1.st
  go_wp2_with (first
    | (go_at_call 18; refine (floor_nil _ _ _ _).mono ?_; rintro e w2 ⟨rfl, hch2⟩)
    | (go_at_call 14; refine (known_nil _ _).mono ?_; rintro e w3 ⟨rfl, hch3⟩)
    | (go_at_call 13; refine (stable_nil _).mono ?_; rintro e w4 ⟨rfl, hch4⟩)
    | (go_at_call 22; refine (mark_nil _).mono ?_; rintro e w5 ⟨rfl, hch5⟩)
    | (go_at_call 10; refine (known_any _).mono ?_; rintro e w6 ⟨rfl, hch6⟩))
  go_ret
  exact ⟨rfl, (((((((Chg.refl _ _).alloc _).trans hch1 (by simp)).trans hch2 (by simp)).trans hch3 (by simp)).trans hch4 (by simp)).trans hch5 (by simp)).trans hch6 (by simp)⟩
end Go.Proofs.Ytdlpcdehmpkedaa

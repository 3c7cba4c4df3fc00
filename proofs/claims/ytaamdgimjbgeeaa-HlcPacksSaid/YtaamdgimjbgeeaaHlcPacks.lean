/-
  HlcPacks: any stamp as 64 bits, or refused; any 64 bits as a stamp; and back.
-/
import Derived.Test.YtaamdgimjbgeeaaHlcN
import Derived.Test.YtaamdgimjbgeeaaHlcPackR
import Derived.OpenShut
namespace Go.Proofs.Ytaamdgimjbgeeaa
open Go.ChangeShapes Go.WideShapes Go.RowKit

theorem unpack_to (w : World) (x m c : Int) (hx : x = m * 65536 + c) (h0 : 0 ≤ m) (h1 : m ≤ 281474976710655) (h2 : 0 ≤ c) (h3 : c ≤ 65535) :
    Calls Try.prog 27 #[.int .u64 x] w fun e w' => e = .returned (.agg #[.int .i64 m, .int .i64 c]) ∧ Chg [] w w' := by
  have h := unpack_any w x (by omega) (by omega)
  rw [show x / 65536 = m by omega, show x % 65536 = c by omega] at h
  exact h
theorem refUnpack_to (w : World) (x m c : Int) (hx : x = m * 65536 + c) (h0 : 0 ≤ m) (h1 : m ≤ 281474976710655) (h2 : 0 ≤ c) (h3 : c ≤ 65535) :
    Calls Try.prog 28 #[.int .u64 x] w fun e w' => e = .returned (.agg #[.int .i64 m, .int .i64 c]) ∧ Chg [] w w' := by
  have h := refUnpack_any w x (by omega) (by omega)
  rw [show x / 65536 = m by omega, show x % 65536 = c by omega] at h
  exact h

set_option maxHeartbeats 3200000 in
/-- The second half. -/
theorem hlcPacks_walk (w : World) (m c : Int) (_ : (Lit.int .i64 m).wf = true) (_ : (Lit.int .i64 c).wf = true) (x : Int) (hx : (Lit.int .u64 x).wf = true) :
    Calls Try.prog 8 #[.agg #[.int .i64 m, .int .i64 c], .int .u64 x] w fun e w' => e = .returned (.bool true) ∧ Chg [] w w' := by
  have hb := bounds_u64 hx
  obtain ⟨m2, c2, HX, g0, g1, g2, g3⟩ : ∃ m2 c2 : Int, Hid (x = m2 * 65536 + c2) ∧ 0 ≤ m2 ∧ m2 ≤ 281474976710655 ∧ 0 ≤ c2 ∧ c2 ≤ 65535 := ⟨x / 65536, x % 65536, by unfold Hid; omega, by omega, by omega, by omega, by omega⟩
  have HS2 := Lib.hid (isS_iff.2 ⟨g0, g1, g2, g3⟩)
  clear hx hb
  by_cases hs : isS m c = true
  · obtain ⟨h0, h1, h2, h3⟩ := isS_iff.1 hs
    have HS := Lib.hid hs
    clear hs
    go_enter Try.func8, Try.ntmps8
    go_wp2_with (fail)
    refine (pack_yes _ _ _ HS.out).mono ?_
    rintro e w1 ⟨rfl, hch1⟩
    have hs1 := (At.new w 24 #[.int .i64 m, .int .i64 c]).keep hch1 (by simp)
    obtain ⟨p0, p1, p2⟩ := hs1.st
    go_wp2_with (fail)
    refine (refPack_yes _ _ _ HS.out).mono ?_
    rintro e w2 ⟨rfl, hch2⟩
    have hs2 := hs1.keep hch2 (by simp)
    obtain ⟨q0, q1, q2⟩ := hs2.st
    go_wp2_with (fail)
    go_region_held3 (fun w' => w'.cell? ⟨w.heap.size, 0, none⟩ = some (.int .i64 m) ∧ w'.cell? ⟨w.heap.size, 1, none⟩ = some (.int .i64 c)) (go_keep)
      (first | (go_at_call 27; refine (unpack_to _ _ m c rfl h0 h1 h2 h3).mono ?_; rintro e w3 ⟨rfl, hch3⟩; have hs3 := (hs2.drewN 1).keep hch3 (by simp); obtain ⟨r0, r1, r2⟩ := hs3.st))
    go_wp2_with (fail)
    refine (unpack_to _ _ m2 c2 HX.out g0 g1 g2 g3).mono ?_
    rintro e w4 ⟨rfl, hch4⟩
    go_wp2_with (fail)
    refine (pack_yes _ _ _ HS2.out).mono ?_
    rintro e w5 ⟨rfl, hch5⟩
    have hu5 := (At.new w4 24 #[.int .i64 m2, .int .i64 c2]).keep hch5 (by simp)
    obtain ⟨u0, u1, u2⟩ := hu5.st
    rw [← HX.out]
    go_wp2_with (fail)
    go_region_held3 (fun w' => w'.cell? ⟨w4.heap.size, 0, none⟩ = some (.int .i64 m2) ∧ w'.cell? ⟨w4.heap.size, 1, none⟩ = some (.int .i64 c2)) (go_keep)
      (first
        | (go_at_call 28; refine (refUnpack_to _ _ m2 c2 HX.out g0 g1 g2 g3).mono ?_; rintro e w6 ⟨rfl, hch6⟩; have hu6 := (hu5.drewN 1).keep hch6 (by simp); obtain ⟨v0, v1, v2⟩ := hu6.st)
        | (go_at_call 16; refine (known_any _).mono ?_; rintro e w7 ⟨rfl, hch7⟩; have hu7 := hu6.keep hch7 (by simp); obtain ⟨z0, z1, z2⟩ := hu7.st))
    all_goals go_wp2_with (fail)
    all_goals go_ret
    all_goals exact ⟨rfl, ((((((((((Chg.refl _ _).alloc _).trans hch1 (by simp)).trans hch2 (by simp)).drewN 1).trans hch3 (by simp)).trans hch4 (by simp)).alloc _).trans hch5 (by simp)).drewN 1).trans hch6 (by simp) |>.trans hch7 (by simp)⟩
  · have hs' : isS m c = false := by simpa using hs
    have HS := Lib.hid hs'
    clear hs hs'
    go_enter Try.func8, Try.ntmps8
    go_wp2_with (fail)
    refine (pack_no _ _ _ HS.out).mono ?_
    rintro e w1 ⟨rfl, hch1⟩
    have hs1 := (At.new w 24 #[.int .i64 m, .int .i64 c]).keep hch1 (by simp)
    obtain ⟨p0, p1, p2⟩ := hs1.st
    go_wp2_with (fail)
    refine (refPack_no _ _ _ HS.out).mono ?_
    rintro e w2 ⟨rfl, hch2⟩
    have hs2 := hs1.keep hch2 (by simp)
    obtain ⟨q0, q1, q2⟩ := hs2.st
    go_wp2_with (fail)
    go_quiet (fail)
    go_wp2_with (fail)
    refine (unpack_to _ _ m2 c2 HX.out g0 g1 g2 g3).mono ?_
    rintro e w4 ⟨rfl, hch4⟩
    go_wp2_with (fail)
    refine (pack_yes _ _ _ HS2.out).mono ?_
    rintro e w5 ⟨rfl, hch5⟩
    have hu5 := (At.new w4 24 #[.int .i64 m2, .int .i64 c2]).keep hch5 (by simp)
    obtain ⟨u0, u1, u2⟩ := hu5.st
    rw [← HX.out]
    go_wp2_with (fail)
    go_region_held3 (fun w' => w'.cell? ⟨w4.heap.size, 0, none⟩ = some (.int .i64 m2) ∧ w'.cell? ⟨w4.heap.size, 1, none⟩ = some (.int .i64 c2)) (go_keep)
      (first
        | (go_at_call 28; refine (refUnpack_to _ _ m2 c2 HX.out g0 g1 g2 g3).mono ?_; rintro e w6 ⟨rfl, hch6⟩; have hu6 := (hu5.drewN 1).keep hch6 (by simp); obtain ⟨v0, v1, v2⟩ := hu6.st)
        | (go_at_call 16; refine (known_any _).mono ?_; rintro e w7 ⟨rfl, hch7⟩; have hu7 := hu6.keep hch7 (by simp); obtain ⟨z0, z1, z2⟩ := hu7.st))
    all_goals go_wp2_with (fail)
    all_goals go_ret
    all_goals exact ⟨rfl, (((((((((Chg.refl _ _).alloc _).trans hch1 (by simp)).trans hch2 (by simp)).drewN _).trans hch4 (by simp)).alloc _).trans hch5 (by simp)).drewN 1).trans hch6 (by simp) |>.trans hch7 (by simp)⟩
end Go.Proofs.Ytaamdgimjbgeeaa

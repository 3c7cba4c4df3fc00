/-
  HlcOrders: where any stamp stands to another one; packed they stand likewise.
-/
import Derived.Test.YtaamdgimjbgeeaaHlcN
import Derived.Test.YtaamdgimjbgeeaaHlcPackR
namespace Go.Proofs.Ytaamdgimjbgeeaa
open Go.RowKit

theorem compare_to (w : World) (am ac bm bc n : Int) (h : cmpS ⟨am, ac⟩ ⟨bm, bc⟩ = n) :
    Calls Try.prog 15 #[.agg #[.int .i64 am, .int .i64 ac], .agg #[.int .i64 bm, .int .i64 bc]] w fun e w' => e = .returned (.int .i64 n) ∧ Chg [] w w' := by
  subst h; exact compare_any _ _ _ _ _
theorem refCompare_to (w : World) (am ac bm bc n : Int) (h : cmpS ⟨am, ac⟩ ⟨bm, bc⟩ = n) :
    Calls Try.prog 21 #[.agg #[.int .i64 am, .int .i64 ac], .agg #[.int .i64 bm, .int .i64 bc]] w fun e w' => e = .returned (.int .i64 n) ∧ Chg [] w w' := by
  subst h; exact refCompare_any _ _ _ _ _
theorem pack_by (m c : Int) : ∃ x e : Int, (∀ w : World, Calls Try.prog 23 #[.agg #[.int .i64 m, .int .i64 c]] w fun en w' => en = .returned (.tuple #[.int .u64 x, .int .i64 e]) ∧ Chg [] w w') ∧ (e = 1 ∨ (e = 0 ∧ isS m c = true ∧ x = m * 65536 + c)) := by
  by_cases h : isS m c = true
  · exact ⟨_, _, fun w => pack_yes w m c h, .inr ⟨rfl, h, rfl⟩⟩
  · exact ⟨_, _, fun w => pack_no w m c (by simpa using h), .inl rfl⟩

set_option maxHeartbeats 3200000 in
theorem hlcOrders_walk (w : World) (am ac : Int) (_ : (Lit.int .i64 am).wf = true) (_ : (Lit.int .i64 ac).wf = true) (bm bc : Int) (_ : (Lit.int .i64 bm).wf = true) (_ : (Lit.int .i64 bc).wf = true) :
    Calls Try.prog 6 #[.agg #[.int .i64 am, .int .i64 ac], .agg #[.int .i64 bm, .int .i64 bc]] w fun e w' => e = .returned (.bool true) ∧ Chg [] w w' := by
  obtain ⟨n, HN⟩ : ∃ n, Hid (cmpS ⟨am, ac⟩ ⟨bm, bc⟩ = n) := ⟨_, rfl⟩
  have HM : Hid (cmpS ⟨bm, bc⟩ ⟨am, ac⟩ = -n) := by unfold Hid; rw [cmpS_neg, HN.out]
  have hr : n = -1 ∨ n = 0 ∨ n = 1 := by have := cmpS_rng ⟨am, ac⟩ ⟨bm, bc⟩; rw [HN.out] at this; omega
  obtain ⟨x, ea, HPa, hda⟩ := pack_by am ac
  obtain ⟨y, eb, HPb, hdb⟩ := pack_by bm bc
  have HPa := Lib.hid HPa
  have HPb := Lib.hid HPb
  have hs1 := (At.new w 24 #[.int .i64 am, .int .i64 ac]).keep ((Chg.refl [] _).alloc (.cells #[.int .i64 bm, .int .i64 bc] 24)) (by simp)
  have ht1 : At ((w.alloc (.cells #[.int .i64 am, .int .i64 ac] 24)).alloc (.cells #[.int .i64 bm, .int .i64 bc] 24)) (w.heap.size + 1) 24 #[.int .i64 bm, .int .i64 bc] := by simpa using At.new (w.alloc (.cells #[.int .i64 am, .int .i64 ac] 24)) 24 #[.int .i64 bm, .int .i64 bc]
  go_enter Try.func6, Try.ntmps6
  go_wp2_with (fail)
  refine (compare_to _ am ac bm bc n HN.out).mono ?_
  rintro e w2 ⟨rfl, hch2⟩
  have hs2 := hs1.keep hch2 (by simp)
  have ht2 := ht1.keep hch2 (by simp)
  obtain ⟨p0, p1, p2⟩ := hs2.st
  obtain ⟨q0, q1, q2⟩ := ht2.st
  go_wp2_with (fail)
  refine (refCompare_to _ am ac bm bc n HN.out).mono ?_
  rintro e w3 ⟨rfl, hch3⟩
  have hs3 := hs2.keep hch3 (by simp)
  have ht3 := ht2.keep hch3 (by simp)
  obtain ⟨p0, p1, p2⟩ := hs3.st
  obtain ⟨q0, q1, q2⟩ := ht3.st
  have n0 : -1 ≤ n := by omega
  have n1 : n ≤ 1 := by omega
  go_wp2_with (fail)
  refine (compare_to _ bm bc am ac (-n) HM.out).mono ?_
  rintro e w4 ⟨rfl, hch4⟩
  have hs4 := hs3.keep hch4 (by simp)
  have ht4 := ht3.keep hch4 (by simp)
  obtain ⟨p0, p1, p2⟩ := hs4.st
  obtain ⟨q0, q1, q2⟩ := ht4.st
  go_wp2_with (fail)
  refine (HPa.out _).mono ?_
  rintro e w5 ⟨rfl, hch5⟩
  have hs5 := hs4.keep hch5 (by simp)
  have ht5 := ht4.keep hch5 (by simp)
  obtain ⟨p0, p1, p2⟩ := hs5.st
  obtain ⟨q0, q1, q2⟩ := ht5.st
  go_wp2_with (fail)
  refine (HPb.out _).mono ?_
  rintro e w6 ⟨rfl, hch6⟩
  have hs6 := hs5.keep hch6 (by simp)
  have ht6 := ht5.keep hch6 (by simp)
  obtain ⟨p0, p1, p2⟩ := hs6.st
  obtain ⟨q0, q1, q2⟩ := ht6.st
  have hch : Chg [] w w6 := (((((((Chg.refl _ _).alloc _).alloc _).trans hch2 (by simp)).trans hch3 (by simp)).trans hch4 (by simp)).trans hch5 (by simp)).trans hch6 (by simp)
  rcases hda with rfl | ⟨rfl, sa, ex⟩
  · go_wp2_with (go_at_call 16; refine (known_any _).mono ?_; rintro e w7 ⟨rfl, hch7⟩)
    go_ret
    exact ⟨rfl, hch.trans hch7 (by simp)⟩
  · rcases hdb with rfl | ⟨rfl, sb, ey⟩
    · clear ex
      go_wp2_with (go_at_call 16; refine (known_any _).mono ?_; rintro e w7 ⟨rfl, hch7⟩)
      go_ret
      exact ⟨rfl, hch.trans hch7 (by simp)⟩
    · obtain ⟨a0, a1, a2, a3⟩ := isS_iff.1 sa
      obtain ⟨b0, b1, b2, b3⟩ := isS_iff.1 sb
      clear sa sb
      rcases hr with rfl | rfl | rfl
      · have h1 := cmpS_lt.1 (show cmpS ⟨am, ac⟩ ⟨bm, bc⟩ < 0 by rw [HN.out]; omega)
        simp only at h1
        have hxy : decide (x < y) = true := by simp; omega
        have hxe : (x == y) = false := beq_eq_false_iff_ne.2 (by omega)
        clear h1 ex ey
        go_wp2_with (go_at_call 16; refine (known_any _).mono ?_; rintro e w7 ⟨rfl, hch7⟩)
        go_ret
        exact ⟨rfl, hch.trans hch7 (by simp)⟩
      · have h1 := cmpS_eq.1 HN.out
        simp only at h1
        obtain rfl : x = y := by omega
        clear h1 ex ey
        go_wp2_with (go_at_call 16; refine (known_any _).mono ?_; rintro e w7 ⟨rfl, hch7⟩)
        go_ret
        exact ⟨rfl, hch.trans hch7 (by simp)⟩
      · have h1 := cmpS_gt.1 (show 0 < cmpS ⟨am, ac⟩ ⟨bm, bc⟩ by rw [HN.out]; omega)
        simp only at h1
        have hxy : decide (x < y) = false := by simp; omega
        have hxe : (x == y) = false := beq_eq_false_iff_ne.2 (by omega)
        clear h1 ex ey
        go_wp2_with (go_at_call 16; refine (known_any _).mono ?_; rintro e w7 ⟨rfl, hch7⟩)
        go_ret
        exact ⟨rfl, hch.trans hch7 (by simp)⟩
end Go.Proofs.Ytaamdgimjbgeeaa

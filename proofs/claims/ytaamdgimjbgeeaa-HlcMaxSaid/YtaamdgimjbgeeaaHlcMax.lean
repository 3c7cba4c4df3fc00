/-
  HlcMax: what the function tells is one of the stamps, and none goes beyond it.
-/
import Derived.Test.YtaamdgimjbgeeaaHlcN
import Derived.Test.YtaamdgimjbgeeaaSeenS
namespace Go.Proofs.Ytaamdgimjbgeeaa
open Go.RowKit
attribute [local go_sem ↓] Go.wp_at_zero Go.wp_at_succ

set_option maxRecDepth 100000 in
set_option maxHeartbeats 3200000 in
theorem hlcMax_walk (w : World) (A : Option Addr) (c : Nat) (l : List St) (hr : Rd w 2 A l.length (cS l)) (_ : l.length ≤ c) (_ : c ≤ maxLen) (_ : ∀ s ∈ l, s.wf) :
    Calls Try.prog 3 #[.slice A l.length c] w fun e w' => e = .returned (.bool true) ∧ Chg [] w w' := by
  by_cases hbig : 500 < l.length
  · go_enter Try.func3, Try.ntmps3
    go_wp2_with (fail)
    go_ret
    exact ⟨rfl, Chg.refl _ _⟩
  · have hl : l.length ≤ 500 := by omega
    clear hbig
    obtain ⟨i0, hi, hz0, hz1, hz2⟩ := info_parts info_st
    have HM := Lib.hid (maxS_spec l)
    obtain ⟨M, HMe⟩ : ∃ M, Hid (maxS l = M) := ⟨_, rfl⟩
    rw [HMe.out] at HM
    have Hfin := Lib.hid (seenB_all l M HM.out.1)
    by_cases hz : l.length = 0
    · have eM : M = ⟨0, 0⟩ := by rw [← HMe.out, List.eq_nil_of_length_eq_zero hz]; rfl
      subst eM
      obtain rfl := List.eq_nil_of_length_eq_zero hz
      clear hz
      simp only [List.length_nil] at *
      go_enter Try.func3, Try.ntmps3
      go_wp2_with (first
        | (at_builtin; refine wpList_append_rd _ rfl (.tmp 9) (.tmp 10) 22 (by rfl) w.heap.size 24 i0 (.agg #[.int .i64 0, .int .i64 0]) 2 16 Try.underlying22 hi hz0 hz1 hz2 rfl (by omega) (.slice (some ⟨w.heap.size, 0, none⟩) 0 0) 0 [] (by rfl) (World.ownsRow_made w #[] 0 (Nat.le_refl _) (by simp [maxLen]) rfl) A 0 c (cS []) (by rfl) (hr.alloc _) (cS_one _) (by unfold maxLen; omega) (by omega) (by simp) ?_; intro A3 c3 w3 hown3 hg3 hb3; simp only [Nat.zero_add, List.nil_append] at hown3; have hch3 : Chg [] w w3 := ((Chg.refl [] w).alloc _).grown hg3 (fun k hk => .inr (by simp [Value.ownBlock] at hk; omega)))
        | (go_at_call 14; refine (max_any _ A3 _ c3 [] (by simp) (Rd.of_own hown3) (by simp)).mono ?_; rw [HMe.out]; rintro e w4 ⟨rfl, hch4⟩; have hch : Chg [] w w4 := hch3.trans hch4 (by simp)))
      go_loopw [5, 4] (fun i v wr => i = .int .i64 0 ∧ v = .bool true ∧ Chg [] w wr) (fun i _ _ => 0)
      case atStart => exact ⟨rfl, rfl, hch.alloc _⟩
      case round =>
        clear hch
        obtain ⟨rfl, rfl, hch⟩ := hrel
        go_wp2_with (go_at_call 16; refine (known_any _).mono ?_; rintro e w6 ⟨rfl, hch6⟩)
        go_ret
        exact ⟨rfl, hch.trans hch6 (by simp)⟩
    · have e0 : ((l.length : Int) == 0) = false := by simpa using hz
      have HS0 : Hid (false = seenB l M 0) := by unfold Hid; rw [seenB_zero]; simpa using hz
      clear hz
      go_enter Try.func3, Try.ntmps3
      go_wp2_with (first
        | (at_builtin; refine wpList_append_rd _ rfl (.tmp 9) (.tmp 10) 22 (by rfl) w.heap.size 24 i0 (.agg #[.int .i64 0, .int .i64 0]) 2 16 Try.underlying22 hi hz0 hz1 hz2 rfl (by omega) (.slice (some ⟨w.heap.size, 0, none⟩) 0 0) 0 [] (by rfl) (World.ownsRow_made w #[] 0 (Nat.le_refl _) (by simp [maxLen]) rfl) A l.length c (cS l) (by rfl) (hr.alloc _) (cS_one _) (by unfold maxLen; omega) (by omega) (by simp) ?_; intro A3 c3 w3 hown3 hg3 hb3; simp only [Nat.zero_add, List.nil_append] at hown3; have hch3 : Chg [] w w3 := ((Chg.refl [] w).alloc _).grown hg3 (fun k hk => .inr (by simp [Value.ownBlock] at hk; omega)))
        | (go_at_call 14; refine (max_any _ A3 _ c3 l (by simp) (Rd.of_own hown3) (by omega)).mono ?_; rw [HMe.out]; rintro e w4 ⟨rfl, hch4⟩; have hch : Chg [] w w4 := hch3.trans hch4 (by simp)))
      have hm4 := At.new w4 24 #[.int .i64 M.m, .int .i64 M.c]
      have Hch0 := Lib.hid (hch.alloc (.cells #[.int .i64 M.m, .int .i64 M.c] 24))
      clear hown3 hg3 hb3 hch3 hch4 hch e0
      go_loopw [5, 4] (fun i v wr => ∃ (k : Nat) (b : Bool), k ≤ l.length ∧ i = .int .i64 k ∧ v = .bool b ∧ Hid (b = seenB l M k) ∧ At wr w4.heap.size 24 #[.int .i64 M.m, .int .i64 M.c] ∧ Chg [] w wr) (fun i _ _ => l.length - (intOf i).toNat)
      case atStart => exact ⟨0, false, Nat.zero_le _, rfl, rfl, HS0, hm4, Hch0.out⟩
      case round =>
        clear HS0 hm4
        obtain ⟨k, b, hk, rfl, rfl, HB, hm, hch⟩ := hrel
        obtain ⟨p0, p1, p2⟩ := hm.st
        by_cases hlt : k < l.length
        · obtain ⟨ad, rfl, had, hc0, hc1⟩ := (hr.keep0 hch).getS hlt
          have HN := Lib.hid (seenB_succ l M hlt)
          have HC := Lib.hid (HM.out.2 _ (List.getElem_mem hlt))
          generalize l[k] = s at *
          have hle : cmpS ⟨s.m, s.c⟩ ⟨M.m, M.c⟩ ≤ 0 := HC.out
          have Hle := Lib.hid hle
          clear hle
          have hnb : Hid ((b || St.eqB s M) = seenB l M (k + 1)) := by unfold Hid; rw [HN.out, HB.out]
          have i0' : (0 : Int) ≤ (k : Int) := by omega
          have i1' : (k : Int) < (l.length : Int) := by omega
          cases b
          · by_cases heq : s = M
            · subst heq
              have hnb2 : Hid (true = seenB l s (k + 1)) := by have h := hnb.out; rw [show St.eqB s s = true from St.eqB_iff.2 rfl] at h; exact h
              clear hnb
              go_wp2_with (fail)
              go_quiet (fail)
              have hm1 := hm.drewN nq
              go_wp2_with (fail)
              go_region_held3 (fun w' => w'.cell? (ad.add (k * 2)) = some (.int .i64 s.m) ∧ w'.cell? ⟨(ad.add (k * 2)).block, (ad.add (k * 2)).off + 1, none⟩ = some (.int .i64 s.c) ∧ w'.cell? ⟨w4.heap.size, 0, none⟩ = some (.int .i64 s.m) ∧ w'.cell? ⟨w4.heap.size, 1, none⟩ = some (.int .i64 s.c)) (go_keep)
                ((go_at_call 15; refine (compare_any _ _ _ _ _).mono ?_; rintro e w5 ⟨rfl, hch5a⟩; have hch5 : Chg [] wr w5 := ((Chg.refl _ wr).drewN (nq + 1)).trans hch5a (by simp); have hc0' := (hch5.cell (p := ad.add (k * 2)) (by rw [add_block]; exact had) (by simp)).trans hc0; have hc1' := (hch5.cell (p := ⟨(ad.add (k * 2)).block, (ad.add (k * 2)).off + 1, none⟩) (by rw [add_block]; exact had) (by simp)).trans hc1; have hm5 := hm.keep hch5 (by simp); obtain ⟨q0, q1, q2⟩ := hm5.st))
              have hle := Hle.out
              go_wp2_with (fail)
              go_roundw
              case rel => exact ⟨k + 1, true, by omega, by go_num, rfl, hnb2, hm5, hch.trans hch5 (by simp)⟩
              case measure => simp [intOf]; omega
            · have hne : (s.m == M.m && s.c == M.c) = false := by
                have h := mt (St.eqB_iff (a := s) (b := M)).1 heq; unfold St.eqB at h; simpa using h
              have hnb2 : Hid (false = seenB l M (k + 1)) := by have h := hnb.out; rw [show St.eqB s M = false from hne] at h; exact h
              clear hnb
              have hd : (s.m == M.m) = false ∨ (s.m == M.m) = true ∧ (s.c == M.c) = false := by
                cases h1 : (s.m == M.m)
                · exact .inl rfl
                · rw [h1] at hne; exact .inr ⟨rfl, by simpa using hne⟩
              clear hne heq
              rcases hd with hd | ⟨hd, hd2⟩
              · go_wp2_with (fail)
                go_quiet (fail)
                have hm1 := hm.drewN nq
                go_wp2_with (fail)
                go_region_held3 (fun w' => w'.cell? (ad.add (k * 2)) = some (.int .i64 s.m) ∧ w'.cell? ⟨(ad.add (k * 2)).block, (ad.add (k * 2)).off + 1, none⟩ = some (.int .i64 s.c) ∧ w'.cell? ⟨w4.heap.size, 0, none⟩ = some (.int .i64 M.m) ∧ w'.cell? ⟨w4.heap.size, 1, none⟩ = some (.int .i64 M.c)) (go_keep)
                  ((go_at_call 15; refine (compare_any _ _ _ _ _).mono ?_; rintro e w5 ⟨rfl, hch5a⟩; have hch5 : Chg [] wr w5 := ((Chg.refl _ wr).drewN (nq + 1)).trans hch5a (by simp); have hc0' := (hch5.cell (p := ad.add (k * 2)) (by rw [add_block]; exact had) (by simp)).trans hc0; have hc1' := (hch5.cell (p := ⟨(ad.add (k * 2)).block, (ad.add (k * 2)).off + 1, none⟩) (by rw [add_block]; exact had) (by simp)).trans hc1; have hm5 := hm.keep hch5 (by simp); obtain ⟨q0, q1, q2⟩ := hm5.st))
                have hle := Hle.out
                go_wp2_with (fail)
                go_roundw
                case rel => exact ⟨k + 1, false, by omega, by go_num, rfl, hnb2, hm5, hch.trans hch5 (by simp)⟩
                case measure => simp [intOf]; omega
              · go_wp2_with (fail)
                go_quiet (fail)
                have hm1 := hm.drewN nq
                go_wp2_with (fail)
                go_region_held3 (fun w' => w'.cell? (ad.add (k * 2)) = some (.int .i64 s.m) ∧ w'.cell? ⟨(ad.add (k * 2)).block, (ad.add (k * 2)).off + 1, none⟩ = some (.int .i64 s.c) ∧ w'.cell? ⟨w4.heap.size, 0, none⟩ = some (.int .i64 M.m) ∧ w'.cell? ⟨w4.heap.size, 1, none⟩ = some (.int .i64 M.c)) (go_keep)
                  ((go_at_call 15; refine (compare_any _ _ _ _ _).mono ?_; rintro e w5 ⟨rfl, hch5a⟩; have hch5 : Chg [] wr w5 := ((Chg.refl _ wr).drewN (nq + 1)).trans hch5a (by simp); have hc0' := (hch5.cell (p := ad.add (k * 2)) (by rw [add_block]; exact had) (by simp)).trans hc0; have hc1' := (hch5.cell (p := ⟨(ad.add (k * 2)).block, (ad.add (k * 2)).off + 1, none⟩) (by rw [add_block]; exact had) (by simp)).trans hc1; have hm5 := hm.keep hch5 (by simp); obtain ⟨q0, q1, q2⟩ := hm5.st))
                have hle := Hle.out
                go_wp2_with (fail)
                go_roundw
                case rel => exact ⟨k + 1, false, by omega, by go_num, rfl, hnb2, hm5, hch.trans hch5 (by simp)⟩
                case measure => simp [intOf]; omega
          · have hnb2 : Hid (true = seenB l M (k + 1)) := by have h := hnb.out; simp at h; exact h.symm
            clear hnb
            go_wp2_with (fail)
            go_quiet (fail)
            have hm1 := hm.drewN nq
            go_wp2_with (fail)
            go_region_held3 (fun w' => w'.cell? (ad.add (k * 2)) = some (.int .i64 s.m) ∧ w'.cell? ⟨(ad.add (k * 2)).block, (ad.add (k * 2)).off + 1, none⟩ = some (.int .i64 s.c) ∧ w'.cell? ⟨w4.heap.size, 0, none⟩ = some (.int .i64 M.m) ∧ w'.cell? ⟨w4.heap.size, 1, none⟩ = some (.int .i64 M.c)) (go_keep)
              ((go_at_call 15; refine (compare_any _ _ _ _ _).mono ?_; rintro e w5 ⟨rfl, hch5a⟩; have hch5 : Chg [] wr w5 := ((Chg.refl _ wr).drewN (nq + 1)).trans hch5a (by simp); have hc0' := (hch5.cell (p := ad.add (k * 2)) (by rw [add_block]; exact had) (by simp)).trans hc0; have hc1' := (hch5.cell (p := ⟨(ad.add (k * 2)).block, (ad.add (k * 2)).off + 1, none⟩) (by rw [add_block]; exact had) (by simp)).trans hc1; have hm5 := hm.keep hch5 (by simp); obtain ⟨q0, q1, q2⟩ := hm5.st))
            have hle := Hle.out
            go_wp2_with (fail)
            go_roundw
            case rel => exact ⟨k + 1, true, by omega, by go_num, rfl, hnb2, hm5, hch.trans hch5 (by simp)⟩
            case measure => simp [intOf]; omega
        · obtain rfl : k = l.length := by omega
          have hb : b = true := by rw [HB.out, Hfin.out]
          subst hb
          go_wp2_with (go_at_call 16; refine (known_any _).mono ?_; rintro e w6 ⟨rfl, hch6⟩)
          go_ret
          exact ⟨rfl, hch.trans hch6 (by simp)⟩
end Go.Proofs.Ytaamdgimjbgeeaa

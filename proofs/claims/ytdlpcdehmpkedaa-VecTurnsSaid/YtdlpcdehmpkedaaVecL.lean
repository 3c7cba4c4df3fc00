/-
  The least stamp: vec.Least, the reference's Least.
-/
import Derived.Test.YtdlpcdehmpkedaaStW
namespace Go.Proofs.Ytdlpcdehmpkedaa
open Go.RowKit
attribute [local go_sem ↓] Go.wp_at_zero Go.wp_at_succ

set_option maxHeartbeats 1600000 in
theorem least_any (w : World) (A : Option Addr) (n c : Nat) (l : List St) (hn : l.length = n) (hr : Rd w 2 A l.length (cS l)) (hl : l.length ≤ 4611686018427387904) :
    Calls Try.prog 8 #[.slice A n c] w fun e w' => e = .returned (.agg #[.int .i64 (minS l).m, .int .i64 (minS l).c]) ∧ Chg [] w w' := by
  subst hn
  go_enter Try.func8, Try.ntmps8
  go_wp2_with (fail)
  go_loopw [8] (fun i wr => ∃ k : Nat, k ≤ l.length ∧ i = .int .i64 k ∧ At wr w.heap.size 24 #[.int .i64 0, .int .i64 0] ∧ At wr (w.heap.size + 1) 24 #[.int .i64 (minS (l.take k)).m, .int .i64 (minS (l.take k)).c] ∧ Chg [] w wr) (fun i _ => l.length - (intOf i).toNat)
  case atStart => exact ⟨0, Nat.zero_le _, rfl, (At.new _ _ _).keep ((Chg.refl [] _).alloc _) (by simp), (by simpa [minS, St.z] using At.new (w.alloc (.cells #[.int .i64 0, .int .i64 0] 24)) 24 #[.int .i64 0, .int .i64 0]), ((Chg.refl _ _).alloc _).alloc _⟩
  case round =>
    obtain ⟨k, hk, rfl, h2, h3, hch⟩ := hrel
    by_cases hlt : k < l.length
    · obtain ⟨ad, rfl, had, hc0, hc1⟩ := (hr.keep0 hch).getS hlt
      have HT : Hid (l.take (k + 1) = l.take k ++ [l[k]]) := List.take_succ_eq_append_getElem hlt
      generalize l[k] = s at *
      have hs1 := h3.lt
      have ha0 := h3.cell 0
      have ha1 := h3.cell 1
      have hf0 := h3.free 0
      have hf1 := h3.free 1
      by_cases hk0 : k = 0
      · have e0 : ((k : Int) == 0) = true := by simp [hk0]
        have HK := Lib.hid hk0
        clear hk0
        go_wp2_with (fail)
        go_roundw
        case rel =>
          have hm : minS (l.take (k + 1)) = s := by rw [HT.out, HK.out]; rfl
          refine ⟨k + 1, by omega, by go_num, h2.keep (((Chg.refl [w.heap.size + 1] _).set2 (.inl (by simp)) _ _).alloc _) (by simp), ?_, (hch.set2 (.inr (by omega)) _ _).alloc _⟩
          rw [hm]
          exact (h3.set2 _ _).keep ((Chg.refl [] _).alloc _) (by simp)
        case measure => simp [intOf]; omega
      · have e0 : ((k : Int) == 0) = false := beq_eq_false_iff_ne.2 (by omega)
        go_wp2_with (fail)
        refine (compare_any _ _ _ _ _).mono ?_
        rintro e w3 ⟨rfl, hch3⟩
        have hchA : Chg [] wr w3 := ((Chg.refl [] _).alloc _).trans hch3 (by simp)
        have h23 := h2.keep hchA (by simp)
        have h33 := h3.keep hchA (by simp)
        have h53 := (At.new wr 24 #[.int .i64 s.m, .int .i64 s.c]).keep hch3 (by simp)
        have hb0 := h33.cell 0
        have hb1 := h33.cell 1
        have hg0 := h33.free 0
        have hg1 := h33.free 1
        have hd0 := h53.cell 0
        have hd1 := h53.cell 1
        have Hm : Hid (minS (l.take (k + 1)) = minS2 (minS (l.take k)) s) := by unfold Hid; rw [HT.out, minS_snoc (by simp; omega)]
        clear ha0 ha1 hf0 hf1 hk0
        by_cases hgt : cmpS ⟨s.m, s.c⟩ ⟨(minS (l.take k)).m, (minS (l.take k)).c⟩ < 0
        · have Hgt := Lib.hid hgt
          go_wp2_with (fail)
          go_roundw
          case rel =>
            have hm : minS (l.take (k + 1)) = s := by rw [Hm.out]; unfold minS2; rw [if_pos Hgt.out]
            refine ⟨k + 1, by omega, by go_num, h23.keep ((Chg.refl [w.heap.size + 1] _).set2 (.inl (by simp)) _ _) (by simp), ?_, (hch.trans hchA (by simp)).set2 (.inr (by omega)) _ _⟩
            rw [hm]
            exact h33.set2 _ _
          case measure => simp [intOf]; omega
        · have Hgt := Lib.hid hgt
          go_wp2_with (fail)
          go_roundw
          case rel =>
            have hm : minS (l.take (k + 1)) = minS (l.take k) := by rw [Hm.out]; unfold minS2; exact if_neg (Int.not_lt.2 Hgt.out)
            refine ⟨k + 1, by omega, by go_num, h23, ?_, hch.trans hchA (by simp)⟩
            rw [hm]
            exact h33
          case measure => simp [intOf]; omega
    · obtain rfl : k = l.length := by omega
      have HT : Hid (l.take l.length = l) := by unfold Hid; rw [List.take_length]
      rw [HT.out] at h3
      have ha0 := h3.cell 0
      have ha1 := h3.cell 1
      have hb0 := h2.cell 0
      have hb1 := h2.cell 1
      have hf0 := h2.free 0
      have hf1 := h2.free 1
      go_wp2_with (fail)
      exact ret_st Try.results8 rfl (h2.set2 _ _) ⟨rfl, hch.set2 (.inr (by omega)) _ _⟩

set_option maxHeartbeats 1600000 in
theorem refLeast_any (w : World) (A : Option Addr) (n c : Nat) (l : List St) (hn : l.length = n) (hr : Rd w 2 A l.length (cS l)) (hl : l.length ≤ 4611686018427387904) :
    Calls Try.prog 27 #[.slice A n c] w fun e w' => e = .returned (.agg #[.int .i64 (minS l).m, .int .i64 (minS l).c]) ∧ Chg [] w w' := by
  subst hn
  go_enter Try.func27, Try.ntmps27
  go_wp2_with (fail)
  go_loopw [4] (fun i wr => ∃ k : Nat, k ≤ l.length ∧ i = .int .i64 k ∧ At wr w.heap.size 24 #[.int .i64 0, .int .i64 0] ∧ At wr (w.heap.size + 1) 24 #[.int .i64 (minS (l.take k)).m, .int .i64 (minS (l.take k)).c] ∧ Chg [] w wr) (fun i _ => l.length - (intOf i).toNat)
  case atStart => exact ⟨0, Nat.zero_le _, rfl, (At.new _ _ _).keep ((Chg.refl [] _).alloc _) (by simp), (by simpa [minS, St.z] using At.new (w.alloc (.cells #[.int .i64 0, .int .i64 0] 24)) 24 #[.int .i64 0, .int .i64 0]), ((Chg.refl _ _).alloc _).alloc _⟩
  case round =>
    obtain ⟨k, hk, rfl, h2, h3, hch⟩ := hrel
    by_cases hlt : k < l.length
    · obtain ⟨ad, rfl, had, hc0, hc1⟩ := (hr.keep0 hch).getS hlt
      have HT : Hid (l.take (k + 1) = l.take k ++ [l[k]]) := List.take_succ_eq_append_getElem hlt
      generalize l[k] = s at *
      have hs1 := h3.lt
      have ha0 := h3.cell 0
      have ha1 := h3.cell 1
      have hf0 := h3.free 0
      have hf1 := h3.free 1
      have i0 : (0 : Int) ≤ (k : Int) := by omega
      have i1 : (k : Int) < (l.length : Int) := by omega
      by_cases hk0 : k = 0
      · have e0 : ((k : Int) == 0) = true := by simp [hk0]
        have HK := Lib.hid hk0
        clear hk0
        go_wp2_with (fail)
        go_quiet (fail)
        go_wp2_with (fail)
        go_roundw
        case rel =>
          have hm : minS (l.take (k + 1)) = s := by rw [HT.out, HK.out]; rfl
          refine ⟨k + 1, by omega, by go_num, (h2.drewN _).keep ((Chg.refl [w.heap.size + 1] _).set2 (.inl (by simp)) _ _) (by simp), ?_, (hch.drewN _).set2 (.inr (by omega)) _ _⟩
          rw [hm]
          exact (h3.drewN _).set2 _ _
        case measure => simp [intOf]; omega
      · have e0 : ((k : Int) == 0) = false := beq_eq_false_iff_ne.2 (by omega)
        have Hm : Hid (minS (l.take (k + 1)) = minS2 (minS (l.take k)) s) := by unfold Hid; rw [HT.out, minS_snoc (by simp; omega)]
        clear hk0
        go_wp2_with (fail)
        go_region_held3 (fun w' => w'.cell? (ad.add (k * 2)) = some (.int .i64 s.m) ∧ w'.cell? ⟨(ad.add (k * 2)).block, (ad.add (k * 2)).off + 1, none⟩ = some (.int .i64 s.c) ∧ w'.cell? ⟨w.heap.size + 1, 0, none⟩ = some (.int .i64 (minS (l.take k)).m) ∧ w'.cell? ⟨w.heap.size + 1, 1, none⟩ = some (.int .i64 (minS (l.take k)).c)) (go_keep)
          ((go_at_call 9; refine (refCompare_any _ _ _ _ _).mono ?_; rintro e w3 ⟨rfl, hch3a⟩; have hch3 : Chg [] wr w3 := (Chg.refl _ wr).drew.trans hch3a (by simp); have hc0' := (hch3.cell (p := ad.add (k * 2)) (by rw [add_block]; exact had) (by simp)).trans hc0; have hc1' := (hch3.cell (p := ⟨(ad.add (k * 2)).block, (ad.add (k * 2)).off + 1, none⟩) (by rw [add_block]; exact had) (by simp)).trans hc1; have h33 := h3.keep hch3 (by simp); have hb0 := h33.cell 0; have hb1 := h33.cell 1; have hg0 := h33.free 0; have hg1 := h33.free 1))
        have hch4 := hch.trans hch3 (by simp)
        have h23 := h2.keep hch3 (by simp)
        clear hc0 hc1 ha0 ha1 hf0 hf1
        by_cases hgt : cmpS ⟨s.m, s.c⟩ ⟨(minS (l.take k)).m, (minS (l.take k)).c⟩ < 0
        · have Hgt := Lib.hid hgt
          go_wp2_with (fail)
          go_roundw
          case rel =>
            have hm : minS (l.take (k + 1)) = s := by rw [Hm.out]; unfold minS2; rw [if_pos Hgt.out]
            refine ⟨k + 1, by omega, by go_num, h23.keep ((Chg.refl [w.heap.size + 1] _).set2 (.inl (by simp)) _ _) (by simp), ?_, hch4.set2 (.inr (by omega)) _ _⟩
            rw [hm]
            exact h33.set2 _ _
          case measure => simp [intOf]; omega
        · have Hgt := Lib.hid hgt
          go_wp2_with (fail)
          go_roundw
          case rel =>
            have hm : minS (l.take (k + 1)) = minS (l.take k) := by rw [Hm.out]; unfold minS2; exact if_neg Hgt.out
            refine ⟨k + 1, by omega, by go_num, h23, ?_, hch4⟩
            rw [hm]
            exact h33
          case measure => simp [intOf]; omega
    · obtain rfl : k = l.length := by omega
      have HT : Hid (l.take l.length = l) := by unfold Hid; rw [List.take_length]
      rw [HT.out] at h3
      have ha0 := h3.cell 0
      have ha1 := h3.cell 1
      have hb0 := h2.cell 0
      have hb1 := h2.cell 1
      have hf0 := h2.free 0
      have hf1 := h2.free 1
      go_wp2_with (fail)
      exact ret_st Try.results27 rfl (h2.set2 _ _) ⟨rfl, hch.set2 (.inr (by omega)) _ _⟩
end Go.Proofs.Ytdlpcdehmpkedaa

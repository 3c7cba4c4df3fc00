/-
  HlcStill: with an error nothing is changed.
-/
import Derived.Test.YtaamdgimjbgeeaaHlcN
import Derived.Deep.RegionLaw
namespace Go.Proofs.Ytaamdgimjbgeeaa
open Go.RowKit

theorem hearF_vals (n : Int) (xs : List St) : hearF n xs = 0 ∨ hearF n xs = 1 ∨ hearF n xs = 16 := by
  unfold hearF; split
  · exact .inr (.inl rfl)
  · split
    · exact .inr (.inl rfl)
    · split
      · exact .inr (.inr rfl)
      · exact .inl rfl
theorem still_send (b n : Int) : ∃ e, (e = 1 ∨ e = 18) ∧ sendF ⟨b, 0⟩ b n = (⟨0, 0⟩, e) ∧ sendL ⟨b, 0⟩ b n = ⟨b, 0⟩ := by
  unfold sendL
  by_cases h : n < 0 ∨ 281474976710655 < n
  · have e : sendF ⟨b, 0⟩ b n = (⟨0, 0⟩, 1) := by unfold sendF; rw [if_pos h]; rfl
    rw [e]; exact ⟨1, .inl rfl, rfl, rfl⟩
  · have e : sendF ⟨b, 0⟩ b n = (⟨0, 0⟩, 18) := by
      unfold sendF nextS
      rw [if_neg h]
      by_cases h2 : n ≤ b
      · simp [h2, St.z]
      · simp only [h2, if_false]; rw [if_neg (by simp), if_pos (by omega)]; rfl
    rw [e]; exact ⟨18, .inr rfl, rfl, rfl⟩
set_option maxHeartbeats 3200000 in
theorem hlcStill_walk (w : World) (b : Int) (_ : (Lit.int .i64 b).wf = true) (n : Int) (_ : (Lit.int .i64 n).wf = true) (m c : Int) (_ : (Lit.int .i64 m).wf = true) (_ : (Lit.int .i64 c).wf = true) :
    Calls Try.prog 13 #[.int .i64 b, .int .i64 n, .agg #[.int .i64 m, .int .i64 c]] w fun e w' => e = .returned (.bool true) ∧ Chg [] w w' := by
  by_cases hb : b < 0
  · go_enter Try.func13, Try.ntmps13
    go_wp2_with (go_at_call 16; refine (known_any _).mono ?_; rintro e w' ⟨rfl, hch⟩)
    go_ret
    exact ⟨rfl, ((Chg.refl _ _).alloc _).trans hch (by simp)⟩
  · have h0 : 0 ≤ b := by omega
    by_cases hb1 : 281474976710655 < b
    · go_enter Try.func13, Try.ntmps13
      go_wp2_with (go_at_call 16; refine (known_any _).mono ?_; rintro e w' ⟨rfl, hch⟩)
      go_ret
      exact ⟨rfl, ((Chg.refl _ _).alloc _).trans hch (by simp)⟩
    · have h1 : b ≤ 281474976710655 := by omega
      go_enter Try.func13, Try.ntmps13
      go_wp2_with (fail)
      refine (new_yes b _ h0 h1).mono ?_
      rintro e w1 ⟨rfl, rfl⟩
      have hs1 := (At.new w 24 #[.int .i64 m, .int .i64 c]).keep ((Chg.refl [] _).alloc (.cells #[.int .i64 b, .int .i64 0, .int .i64 b] 75)) (by simp)
      have hA1 : At ((w.alloc (.cells #[.int .i64 m, .int .i64 c] 24)).alloc (.cells #[.int .i64 b, .int .i64 0, .int .i64 b] 75)) (w.heap.size + 1) 75 (clkC ⟨b, 0⟩ b) := by simpa [clkC] using At.new (w.alloc (.cells #[.int .i64 m, .int .i64 c] 24)) 75 #[.int .i64 b, .int .i64 0, .int .i64 b]
      go_wp2_with (fail)
      refine (last_any _ _ ⟨b, 0⟩ b hA1).mono ?_
      rintro e w2 ⟨rfl, hch2⟩
      have hA2 := hA1.keep hch2 (by simp)
      go_wp2_with (fail)
      refine (bound_any _ _ ⟨b, 0⟩ b hA2).mono ?_
      rintro e w' ⟨rfl, rfl⟩
      have hsz2 := hch2.size
      simp only [World.size_alloc] at hsz2
      obtain ⟨er, her, hF, hL⟩ := still_send b n
      have HF := Lib.hid hF
      have HL := Lib.hid hL
      clear hF hL
      go_wp2_with (fail)
      have ha3 := At.new w2 24 #[.int .i64 b, .int .i64 0]
      refine (send_to _ (w.heap.size + 1) ⟨b, 0⟩ b n (hA2.keep ((Chg.refl [] _).alloc _) (by simp)) (ClkI.mk' (by omega)) HF.out HL.out).mono ?_
      rintro e w4 ⟨rfl, hA4, hch4⟩
      have ha4 := ha3.keep hch4 (by simp; omega)
      have hs4 := ((hs1.keep hch2 (by simp)).keep ((Chg.refl [] _).alloc (.cells #[.int .i64 b, .int .i64 0] 24)) (by simp)).keep hch4 (by simp)
      obtain ⟨p0, p1, p2⟩ := ha4.st
      obtain ⟨q0, q1, q2⟩ := hs4.st
      have er0 : (er == 0) = false := by rcases her with rfl | rfl <;> rfl
      clear her
      go_wp2_with (fail)
      have hA5 : At ((w4.alloc (.cells #[.int .i64 0, .int .i64 0] 24)).drew) (w.heap.size + 1) 75 (clkC ⟨b, 0⟩ b) := hA4.keep (((Chg.refl [] _).alloc _).drew) (by simp)
      go_region_held3 (fun w' => w'.cell? ⟨w2.heap.size, 0, none⟩ = some (.int .i64 b) ∧ w'.cell? ⟨w2.heap.size, 1, none⟩ = some (.int .i64 0)) (go_keep)
        (first
          | (go_at_call 25; refine (last_any _ (w.heap.size + 1) ⟨b, 0⟩ b hA5).mono ?_; rintro e w5 ⟨rfl, hch5⟩; have hA6 := hA5.keep hch5 (by simp); have ha6 := (ha4.keep (((Chg.refl [] _).alloc _).drew) (by simp)).keep hch5 (by simp); have r0 := ha6.cell 0; have r1 := ha6.cell 1)
          | (go_at_call 33; refine (bound_any _ (w.heap.size + 1) ⟨b, 0⟩ b hA6).mono ?_; rintro e w' ⟨rfl, rfl⟩))
      all_goals go_wp2_with (fail)
      have hs5 := (hs4.keep (((Chg.refl [] _).alloc (.cells #[.int .i64 0, .int .i64 0] 24)).drew) (by simp)).keep hch5 (by simp)
      obtain ⟨u0, u1, u2⟩ := hs5.st
      have hl5 := hA6.lt
      have hl6 := ha6.lt
      have hch05 : Chg [] w w5 := ((((((((Chg.refl [] w).alloc _).alloc _).trans hch2 (by simp)).alloc _).trans hch4 (by simp)).alloc _).drew).trans hch5 (by simp)
      clear p0 p1 p2 q0 q1 q2 hA5
      obtain ⟨l2, HR2⟩ : ∃ l2, Hid (hearL ⟨b, 0⟩ n [⟨m, c⟩] = l2) := ⟨_, rfl⟩
      obtain ⟨r, HR1⟩ : ∃ r, Hid (hearF n [⟨m, c⟩] = r) := ⟨_, rfl⟩
      have hf1 : raiseF b (b - 1) = 1 := by unfold raiseF; rw [if_pos (by omega)]
      have hf2 : raiseB b (b - 1) = b := by unfold raiseB; rw [if_pos (by omega)]
      have HF1 := Lib.hid hf1
      have HF2 := Lib.hid hf2
      clear hf1 hf2
      have hv : r = 0 ∨ r = 1 ∨ r = 16 := by rw [← HR1.out]; exact hearF_vals _ _
      rcases hv with rfl | hv
      · first
          | go_region_with
              (first
                | (go_at_call 19; refine (hear_to _ (w.heap.size + 1) ⟨b, 0⟩ b n (some ⟨w5.heap.size, 0, none⟩) 1 1 [⟨m, c⟩] (hA6.keep (((Chg.refl [] _).alloc (.cells #[.int .i64 m, .int .i64 c] 24)).drew) (by simp)) rfl ((Rd.new' rfl rfl rfl).keep0 ((Chg.refl _ _).drew)) (Away.at (by simp; omega)) (by simp) (by simp) HR1.out HR2.out).mono ?_; rintro e w7 ⟨rfl, hA7, hch7⟩; have hs7 := (hs5.keep (((Chg.refl [] _).alloc (.cells #[.int .i64 m, .int .i64 c] 24)).drew) (by simp)).keep hch7 (by simp); have s0 := hs7.cell 0; have s1 := hs7.cell 1; have ha7 := (ha6.keep (((Chg.refl [] _).alloc (.cells #[.int .i64 m, .int .i64 c] 24)).drew) (by simp)).keep hch7 (by simp; omega); have v0 := ha7.cell 0; have v1 := ha7.cell 1))
          | fail
        all_goals
          go_wp2_with (fail)
          refine (raise_to _ (w.heap.size + 1) l2 b (b - 1) hA7 HF1.out HF2.out).mono ?_
          rintro e w8 ⟨rfl, hA8, hch8⟩
          go_wp2_with (first
            | (go_at_call 33; refine (bound_any _ (w.heap.size + 1) l2 b hA8).mono ?_; rintro e w' ⟨rfl, rfl⟩)
            | (go_at_call 16; refine (known_any _).mono ?_; rintro e w9 ⟨rfl, hch9⟩))
          go_ret
          exact ⟨rfl, ((((hch05.alloc _).drew).trans hch7 (by simp)).trans hch8 (by simp)).trans hch9 (by simp)⟩
      · have hl2 : l2 = ⟨b, 0⟩ := by
          rw [← HR2.out]; unfold hearL; rw [HR1.out, if_neg (by omega)]
        subst hl2
        rcases hv with rfl | rfl
        · go_region_held3 (fun w' => w'.cell? ⟨w.heap.size, 0, none⟩ = some (.int .i64 m) ∧ w'.cell? ⟨w.heap.size, 1, none⟩ = some (.int .i64 c) ∧ w'.cell? ⟨w2.heap.size, 0, none⟩ = some (.int .i64 b) ∧ w'.cell? ⟨w2.heap.size, 1, none⟩ = some (.int .i64 0)) (go_keep)
            (first
              | (go_at_call 19; refine (hear_to _ (w.heap.size + 1) ⟨b, 0⟩ b n (some ⟨w5.heap.size, 0, none⟩) 1 1 [⟨m, c⟩] (hA6.keep (((Chg.refl [] _).alloc (.cells #[.int .i64 m, .int .i64 c] 24)).drew) (by simp)) rfl ((Rd.new' rfl rfl rfl).keep0 ((Chg.refl _ _).drew)) (Away.at (by simp; omega)) (by simp) (by simp) HR1.out HR2.out).mono ?_; rintro e w7 ⟨rfl, hA7, hch7⟩; have hs7 := (hs5.keep (((Chg.refl [] _).alloc (.cells #[.int .i64 m, .int .i64 c] 24)).drew) (by simp)).keep hch7 (by simp); have s0 := hs7.cell 0; have s1 := hs7.cell 1; have ha7 := (ha6.keep (((Chg.refl [] _).alloc (.cells #[.int .i64 m, .int .i64 c] 24)).drew) (by simp)).keep hch7 (by simp; omega); have v0 := ha7.cell 0; have v1 := ha7.cell 1)
              | (go_at_call 25; refine (last_any _ (w.heap.size + 1) ⟨b, 0⟩ b hA7).mono ?_; rintro e w10 ⟨rfl, hch10⟩; have hA10 := hA7.keep hch10 (by simp); have hs10 := hs7.keep hch10 (by simp); have s0 := hs10.cell 0; have s1 := hs10.cell 1; have ha10 := ha7.keep hch10 (by simp); have v0 := ha10.cell 0; have v1 := ha10.cell 1))
          go_wp2_with (fail)
          refine (raise_to _ (w.heap.size + 1) ⟨b, 0⟩ b (b - 1) hA10 HF1.out HF2.out).mono ?_
          rintro e w8 ⟨rfl, hA8, hch8⟩
          go_wp2_with (first
            | (go_at_call 33; refine (bound_any _ (w.heap.size + 1) ⟨b, 0⟩ b hA8).mono ?_; rintro e w' ⟨rfl, rfl⟩)
            | (go_at_call 16; refine (known_any _).mono ?_; rintro e w9 ⟨rfl, hch9⟩))
          go_ret
          exact ⟨rfl, (((((hch05.alloc _).drew).trans hch7 (by simp)).trans hch10 (by simp)).trans hch8 (by simp)).trans hch9 (by simp)⟩
        · go_region_held3 (fun w' => w'.cell? ⟨w.heap.size, 0, none⟩ = some (.int .i64 m) ∧ w'.cell? ⟨w.heap.size, 1, none⟩ = some (.int .i64 c) ∧ w'.cell? ⟨w2.heap.size, 0, none⟩ = some (.int .i64 b) ∧ w'.cell? ⟨w2.heap.size, 1, none⟩ = some (.int .i64 0)) (go_keep)
            (first
              | (go_at_call 19; refine (hear_to _ (w.heap.size + 1) ⟨b, 0⟩ b n (some ⟨w5.heap.size, 0, none⟩) 1 1 [⟨m, c⟩] (hA6.keep (((Chg.refl [] _).alloc (.cells #[.int .i64 m, .int .i64 c] 24)).drew) (by simp)) rfl ((Rd.new' rfl rfl rfl).keep0 ((Chg.refl _ _).drew)) (Away.at (by simp; omega)) (by simp) (by simp) HR1.out HR2.out).mono ?_; rintro e w7 ⟨rfl, hA7, hch7⟩; have hs7 := (hs5.keep (((Chg.refl [] _).alloc (.cells #[.int .i64 m, .int .i64 c] 24)).drew) (by simp)).keep hch7 (by simp); have s0 := hs7.cell 0; have s1 := hs7.cell 1; have ha7 := (ha6.keep (((Chg.refl [] _).alloc (.cells #[.int .i64 m, .int .i64 c] 24)).drew) (by simp)).keep hch7 (by simp; omega); have v0 := ha7.cell 0; have v1 := ha7.cell 1)
              | (go_at_call 25; refine (last_any _ (w.heap.size + 1) ⟨b, 0⟩ b hA7).mono ?_; rintro e w10 ⟨rfl, hch10⟩; have hA10 := hA7.keep hch10 (by simp); have hs10 := hs7.keep hch10 (by simp); have s0 := hs10.cell 0; have s1 := hs10.cell 1; have ha10 := ha7.keep hch10 (by simp); have v0 := ha10.cell 0; have v1 := ha10.cell 1))
          go_wp2_with (fail)
          refine (raise_to _ (w.heap.size + 1) ⟨b, 0⟩ b (b - 1) hA10 HF1.out HF2.out).mono ?_
          rintro e w8 ⟨rfl, hA8, hch8⟩
          go_wp2_with (first
            | (go_at_call 33; refine (bound_any _ (w.heap.size + 1) ⟨b, 0⟩ b hA8).mono ?_; rintro e w' ⟨rfl, rfl⟩)
            | (go_at_call 16; refine (known_any _).mono ?_; rintro e w9 ⟨rfl, hch9⟩))
          go_ret
          exact ⟨rfl, (((((hch05.alloc _).drew).trans hch7 (by simp)).trans hch10 (by simp)).trans hch8 (by simp)).trans hch9 (by simp)⟩
end Go.Proofs.Ytaamdgimjbgeeaa

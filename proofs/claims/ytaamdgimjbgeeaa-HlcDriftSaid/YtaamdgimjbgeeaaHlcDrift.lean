/-
  HlcDrift: what is heard too far ahead, or is no stamp, is refused; else it is taken.
-/
import Derived.Test.YtaamdgimjbgeeaaHlcPl
import Derived.Test.YtaamdgimjbgeeaaHlcLives
import Derived.Test.YtaamdgimjbgeeaaSeenS
import Derived.Deep.RegionLaw
import Derived.Deep.RegionLawGrows
namespace Go.Proofs.Ytaamdgimjbgeeaa
open Go.ChangeShapes Go.WideShapes Go.RowKit
set_option linter.unusedVariables false
attribute [local go_sem ↓] Go.wp_at_zero Go.wp_at_succ

def badB (l : List St) : Bool := !l.all (fun s => isS s.m s.c)
def farB (n d : Int) (l : List St) : Bool := decide (0 < d) || l.any (fun s => decide (n + 60000 < s.m))
theorem badB_succ {l : List St} {k : Nat} (h : k < l.length) : badB (l.take (k + 1)) = (badB (l.take k) || !isS l[k].m l[k].c) := by
  unfold badB
  rw [List.take_succ_eq_append_getElem h, List.all_append]
  simp only [List.all_cons, List.all_nil, Bool.and_true, Bool.not_and]
theorem farB_succ {n d : Int} {l : List St} {k : Nat} (h : k < l.length) : farB n d (l.take (k + 1)) = (farB n d (l.take k) || decide (n + 60000 < l[k].m)) := by
  unfold farB
  rw [List.take_succ_eq_append_getElem h, List.any_append]
  simp only [List.any_cons, List.any_nil, Bool.or_false, Bool.or_assoc]
theorem drift_F {n d : Int} {l : List St} (h0 : 0 ≤ n) (h1 : n ≤ 1099511627776) (h2 : -1073741824 ≤ d) (h3 : d ≤ 1073741824) :
    hearF n (l ++ [⟨max 0 (n + 60000 + d), 3⟩]) = if badB l = true then 1 else if farB n d l = true then 16 else 0 := by
  have hs : isS (max 0 (n + 60000 + d)) 3 = true := isS_iff.2 (by omega)
  have hm : (decide (n + 60000 < max 0 (n + 60000 + d))) = decide (0 < d) := by
    by_cases h : 0 < d
    · rw [decide_eq_true (by omega), decide_eq_true h]
    · rw [decide_eq_false (by omega), decide_eq_false h]
  have hb : ((l ++ [(⟨max 0 (n + 60000 + d), 3⟩ : St)]).all (fun s => isS s.m s.c)) = l.all (fun s => isS s.m s.c) := by simp [hs]
  have hf : ((l ++ [(⟨max 0 (n + 60000 + d), 3⟩ : St)]).any (fun s => decide (n + 60000 < s.m))) = farB n d l := by
    rw [List.any_append]; simp only [List.any_cons, List.any_nil, Bool.or_false]; rw [hm, farB, Bool.or_comm]
  unfold hearF
  rw [hb, hf, if_neg (by omega)]
  unfold badB
  cases l.all (fun s => isS s.m s.c) <;> simp

set_option maxRecDepth 100000 in
set_option maxHeartbeats 6400000 in
theorem hlcDrift_out (w : World) (n d : Int) (A : Option Addr) (c : Nat) (l : List St) (h : n < 0 ∨ 1099511627776 < n ∨ d < -1073741824 ∨ 1073741824 < d ∨ 50 < l.length) :
    Calls Try.prog 7 #[.int .i64 n, .int .i64 d, .slice A l.length c] w fun e w' => e = .returned (.bool true) ∧ Chg [] w w' := by
  by_cases h0 : n < 0
  · clear h
    go_enter Try.func7, Try.ntmps7
    go_wp2_with (go_at_call 16; refine (known_any _).mono ?_; rintro e w9 ⟨rfl, hch9⟩)
    go_ret
    exact ⟨rfl, hch9⟩
  · by_cases h1 : 1099511627776 < n
    · clear h
      go_enter Try.func7, Try.ntmps7
      go_wp2_with (go_at_call 16; refine (known_any _).mono ?_; rintro e w9 ⟨rfl, hch9⟩)
      go_ret
      exact ⟨rfl, hch9⟩
    · by_cases h2 : d < -1073741824
      · clear h
        go_enter Try.func7, Try.ntmps7
        go_wp2_with (go_at_call 16; refine (known_any _).mono ?_; rintro e w9 ⟨rfl, hch9⟩)
        go_ret
        exact ⟨rfl, hch9⟩
      · by_cases h3 : 1073741824 < d
        · clear h
          go_enter Try.func7, Try.ntmps7
          go_wp2_with (go_at_call 16; refine (known_any _).mono ?_; rintro e w9 ⟨rfl, hch9⟩)
          go_ret
          exact ⟨rfl, hch9⟩
        · have h4 : 50 < l.length := by omega
          clear h
          go_enter Try.func7, Try.ntmps7
          go_wp2_with (go_at_call 16; refine (known_any _).mono ?_; rintro e w9 ⟨rfl, hch9⟩)
          go_ret
          exact ⟨rfl, hch9⟩

set_option maxRecDepth 100000 in
set_option maxHeartbeats 6400000 in
theorem hlcDrift_walk (w : World) (n d : Int) (A : Option Addr) (c : Nat) (l : List St) (hr : Rd w 2 A l.length (cS l)) (_ : l.length ≤ c) (_ : c ≤ maxLen) (_ : ∀ s ∈ l, s.wf) :
    Calls Try.prog 7 #[.int .i64 n, .int .i64 d, .slice A l.length c] w fun e w' => e = .returned (.bool true) ∧ Chg [] w w' := by
  by_cases hout : n < 0 ∨ 1099511627776 < n ∨ d < -1073741824 ∨ 1073741824 < d ∨ 50 < l.length
  · exact hlcDrift_out w n d A c l hout
  · have h0 : 0 ≤ n := by omega
    have h1 : n ≤ 1099511627776 := by omega
    have h2 : -1073741824 ≤ d := by omega
    have h3 : d ≤ 1073741824 := by omega
    have hl : l.length ≤ 50 := by omega
    clear hout
    have HF := Lib.hid (drift_F (l := l) h0 h1 h2 h3)
    obtain ⟨i0, hi, hz0, hz1, hz2⟩ := info_parts info_st
    go_enter Try.func7, Try.ntmps7
    go_wp2_with (fail)
    refine (new_yes 7 _ (by omega) (by omega)).mono ?_
    rintro e w1 ⟨rfl, rfl⟩
    have kmax := fun (w : World) (ts : Array TypeId) (t : TypeId) (k k' : IntKind) (x y : Int) => run_max2 (P := Try.prog) w ts t k k' x y
    obtain ⟨sm, hsm⟩ : ∃ sm, max 0 (n + 60000 + d) = sm := ⟨_, rfl⟩
    have hsi : isS sm 3 = true := isS_iff.2 (by omega)
    have hs0 : 0 ≤ sm := by omega
    rw [hsm] at HF
    have hHs := Lib.hid hsm
    go_wp2_with (fail)
    all_goals (try rw [hsm])
    go_loopg [12, 10, 11] l.length (fun g i fv bv wr => ∃ (k : Nat) (bf ff : Bool), g = l.length - k ∧ k ≤ l.length ∧ i = .int .i64 k ∧ fv = .bool ff ∧ bv = .bool bf ∧ Hid (bf = badB (l.take k)) ∧ Hid (ff = farB n d (l.take k)) ∧
      At wr w.heap.size 75 (clkC ⟨7, 0⟩ 7) ∧ At wr (w.heap.size + 1) 24 #[.int .i64 sm, .int .i64 3] ∧ Chg [] w wr)
    case atStart => exact ⟨0, false, decide (0 < d), rfl, Nat.zero_le _, rfl, rfl, rfl, by unfold Hid badB; simp, by unfold Hid farB; simp, (At.new _ _ _).keep ((Chg.refl [] _).alloc _) (by simp), (by simpa using At.new (w.alloc (.cells #[.int .i64 7, .int .i64 0, .int .i64 7] 75)) 24 #[.int .i64 sm, .int .i64 3]), ((Chg.refl _ _).alloc _).alloc _⟩
    case round =>
      obtain ⟨k, bf, ff, hg, hk, rfl, rfl, rfl, HBf, HFf, hA, hS, hch⟩ := hrel
      have Hg := Lib.hid hg
      clear hg
      by_cases hlt : k < l.length
      · obtain ⟨ad, rfl, had, hc0, hc1⟩ := (hr.keep0 hch).getS hlt
        have HB2 := Lib.hid (badB_succ hlt)
        have HF2 := Lib.hid (farB_succ (n := n) (d := d) hlt)
        rw [← HBf.out] at HB2
        rw [← HFf.out] at HF2
        generalize l[k] = s at *
        obtain ⟨q, hq⟩ : ∃ q, isS s.m s.c = q := ⟨_, rfl⟩
        rw [hq] at HB2
        have i0' : (0 : Int) ≤ (k : Int) := by omega
        have i1' : (k : Int) < (l.length : Int) := by omega
        clear HBf HFf
        cases bf <;> cases ff <;> cases q <;>
          (go_wp2_with (first
            | (go_at_call 24; refine (refIs_no _ _ _ hq).mono ?_; rintro e w5 ⟨rfl, hch5⟩; have hA := hA.keep hch5 (by simp); have hS := hS.keep hch5 (by simp); have hc0 := (hch5.cell (p := ad.add (k * 2)) (by rw [add_block]; exact had) (by simp)).trans hc0; have hch := hch.trans hch5 (by simp))
            | (go_at_call 24; refine (refIs_yes _ _ _ hq).mono ?_; rintro e w5 ⟨rfl, hch5⟩; have hA := hA.keep hch5 (by simp); have hS := hS.keep hch5 (by simp); have hc0 := (hch5.cell (p := ad.add (k * 2)) (by rw [add_block]; exact had) (by simp)).trans hc0; have hch := hch.trans hch5 (by simp)))
           go_roundg (l.length - (k + 1))
           (case rel => exact ⟨k + 1, _, _, rfl, by omega, by go_num, rfl, rfl, HB2.out.symm, HF2.out.symm, hA, hS, hch⟩)
           (case measure => have := Hg.out; omega))
      · obtain rfl : k = l.length := by omega
        rw [List.take_length] at HBf HFf
        have hFr := HF.out
        rw [← HBf.out, ← HFf.out] at hFr
        obtain ⟨r, hr0⟩ : ∃ r, hearF n (l ++ [⟨sm, 3⟩]) = r := ⟨_, rfl⟩
        obtain ⟨⟨em, ec⟩, hL0⟩ : ∃ q, hearL ⟨7, 0⟩ n (l ++ [⟨sm, 3⟩]) = q := ⟨_, rfl⟩
        rw [hr0] at hFr
        have hEnd : (bf = true ∧ r = 1 ∧ em = 7 ∧ ec = 0) ∨ (bf = false ∧ ff = true ∧ r = 16 ∧ em = 7 ∧ ec = 0) ∨ (bf = false ∧ ff = false ∧ r = 0 ∧ 0 ≤ cmpS ⟨em, ec⟩ ⟨sm, 3⟩) := by
          unfold hearL at hL0
          rw [hr0] at hL0
          cases bf
          · cases ff
            · right; right
              have hr : r = 0 := by simpa using hFr
              subst hr
              rw [if_pos rfl] at hL0
              have h9 := (maxS_spec (l ++ [⟨sm, 3⟩] ++ [⟨7, 0⟩])).2 ⟨sm, 3⟩ (by simp)
              rw [hL0] at h9
              rw [cmpS_neg] at h9
              exact ⟨rfl, rfl, rfl, by omega⟩
            · right; left
              have hr : r = 16 := by simpa using hFr
              subst hr
              rw [if_neg (by omega)] at hL0
              injection hL0 with e1 e2
              exact ⟨rfl, rfl, rfl, e1.symm, e2.symm⟩
          · left
            have hr : r = 1 := by simpa using hFr
            subst hr
            rw [if_neg (by omega)] at hL0
            injection hL0 with e1 e2
            exact ⟨rfl, rfl, e1.symm, e2.symm⟩
        have HEnd := Lib.hid hEnd
        clear hEnd
        have HR := Lib.hid hr0
        have HL := Lib.hid hL0
        clear hr0 hL0 HF HBf HFf hFr
        have own1 := World.ownsRow_made (base := wr.heap.size) (e := 24) (size := 2) wr #[] 0 (Nat.le_refl _) (by simp [maxLen]) rfl
        have own2 := own1.alloc (.cells #[.int .i64 sm, .int .i64 3] 24)
        have own3' := World.ownsRow_made (base := wr.heap.size) (e := 24) (size := 2) (wr.alloc (.cells #[.int .i64 sm, .int .i64 3] 24)) #[] 0 (by simp) (by simp [maxLen]) rfl
        rw [show (wr.alloc (.cells #[.int .i64 sm, .int .i64 3] 24)).heap.size = wr.heap.size + 1 by simp] at own3'
        have own3 := own3'
        have hrr := hr.keep0 hch
        have q0 := hS.cell 0
        have q1 := hS.cell 1
        have q2 := hS.free 0
        have q3 := hS.free 1
        have hAl := hA.lt
        have hSl := hS.lt
        go_wp2_with (fail)
        go_region_law
          (first
            | (refine step_append_rd _ (by rfl) (.tmp 80) (.tmp 81) 22 (by rfl) wr.heap.size 24 i0 (.agg #[.int .i64 0, .int .i64 0]) 2 16 Try.underlying22 hi hz0 hz1 hz2 rfl (by omega) (.slice (some ⟨wr.heap.size, 0, none⟩) 0 0) 0 [] (by rfl) own1 A l.length c (cS l) (by rfl) (by first | exact (hrr.alloc (.cells #[] 24)).drewN 1 | exact (hrr.alloc (.cells #[] 24)).drewN 2 | exact (hrr.alloc (.cells #[] 24)).drewN 3) (cS_one _) (by unfold maxLen; omega) (by omega) (by first | (simp; done) | (simp; omega)) ?_; intro A3 c3 w3 hown3 hg3 hb3; rw [Nat.zero_add l.length] at hown3 ⊢; rw [List.nil_append] at hown3; have hch3 : Chg [] wr w3 := (by first | exact (((Chg.refl [] wr).alloc (.cells #[] 24)).drewN 1).grown hg3 (fun k hk => .inr (by simp [Value.ownBlock] at hk; omega)) | exact (((Chg.refl [] wr).alloc (.cells #[] 24)).drewN 2).grown hg3 (fun k hk => .inr (by simp [Value.ownBlock] at hk; omega)) | exact (((Chg.refl [] wr).alloc (.cells #[] 24)).drewN 3).grown hg3 (fun k hk => .inr (by simp [Value.ownBlock] at hk; omega))); have hA3 := hA.keep hch3 (by simp); have hS3 := hS.keep hch3 (by simp); have q0 := hS3.cell 0; have q1 := hS3.cell 1; have q2 := hS3.free 0; have q3 := hS3.free 1; have w3l := hch3.size)
            | (refine step_append_rd _ (by rfl) (.tmp 80) (.tmp 81) 22 (by rfl) wr.heap.size 24 i0 (.agg #[.int .i64 0, .int .i64 0]) 2 16 Try.underlying22 hi hz0 hz1 hz2 rfl (by omega) (.slice (some ⟨wr.heap.size, 0, none⟩) 0 0) 0 [] (by rfl) own2 A l.length c (cS l) (by rfl) (by first | exact ((hrr.alloc (.cells #[] 24)).alloc (.cells #[.int .i64 sm, .int .i64 3] 24)).drewN 1 | exact ((hrr.alloc (.cells #[] 24)).alloc (.cells #[.int .i64 sm, .int .i64 3] 24)).drewN 2 | exact ((hrr.alloc (.cells #[] 24)).alloc (.cells #[.int .i64 sm, .int .i64 3] 24)).drewN 3) (cS_one _) (by unfold maxLen; omega) (by omega) (by first | (simp; done) | (simp; omega)) ?_; intro A3 c3 w3 hown3 hg3 hb3; rw [Nat.zero_add l.length] at hown3 ⊢; rw [List.nil_append] at hown3; have hch3 : Chg [] wr w3 := (by first | exact ((((Chg.refl [] wr).alloc (.cells #[] 24)).alloc (.cells #[.int .i64 sm, .int .i64 3] 24)).drewN 1).grown hg3 (fun k hk => .inr (by simp [Value.ownBlock] at hk; omega)) | exact ((((Chg.refl [] wr).alloc (.cells #[] 24)).alloc (.cells #[.int .i64 sm, .int .i64 3] 24)).drewN 2).grown hg3 (fun k hk => .inr (by simp [Value.ownBlock] at hk; omega)) | exact ((((Chg.refl [] wr).alloc (.cells #[] 24)).alloc (.cells #[.int .i64 sm, .int .i64 3] 24)).drewN 3).grown hg3 (fun k hk => .inr (by simp [Value.ownBlock] at hk; omega))); have hA3 := hA.keep hch3 (by simp); have hS3 := hS.keep hch3 (by simp); have q0 := hS3.cell 0; have q1 := hS3.cell 1; have q2 := hS3.free 0; have q3 := hS3.free 1; have w3l := hch3.size; have hRS3 : Rd w3 2 (some ⟨wr.heap.size + 1, 0, none⟩) 1 (cS [⟨sm, 3⟩]) := (by first | exact ((Rd.new' (w := wr.alloc (.cells #[] 24)) (l := cS [⟨sm, 3⟩]) (by simp) rfl rfl).drewN 1).keep ((Chg.refl [wr.heap.size] _).grown hg3 (fun k hk => .inl (by simp [Value.ownBlock] at hk; simp; omega))) (Away.at (by simp)) | exact ((Rd.new' (w := wr.alloc (.cells #[] 24)) (l := cS [⟨sm, 3⟩]) (by simp) rfl rfl).drewN 2).keep ((Chg.refl [wr.heap.size] _).grown hg3 (fun k hk => .inl (by simp [Value.ownBlock] at hk; simp; omega))) (Away.at (by simp))))
            | (refine step_append_rd _ (by rfl) (.tmp 80) (.tmp 81) 22 (by rfl) wr.heap.size 24 i0 (.agg #[.int .i64 0, .int .i64 0]) 2 16 Try.underlying22 hi hz0 hz1 hz2 rfl (by omega) (.slice (some ⟨wr.heap.size + 1, 0, none⟩) 0 0) 0 [] (by rfl) own3 A l.length c (cS l) (by rfl) (by first | exact ((hrr.alloc (.cells #[.int .i64 sm, .int .i64 3] 24)).alloc (.cells #[] 24)).drewN 1 | exact ((hrr.alloc (.cells #[.int .i64 sm, .int .i64 3] 24)).alloc (.cells #[] 24)).drewN 2 | exact ((hrr.alloc (.cells #[.int .i64 sm, .int .i64 3] 24)).alloc (.cells #[] 24)).drewN 3) (cS_one _) (by unfold maxLen; omega) (by omega) (by first | (simp; done) | (simp; omega)) ?_; intro A3 c3 w3 hown3 hg3 hb3; rw [Nat.zero_add l.length] at hown3 ⊢; rw [List.nil_append] at hown3; have hch3 : Chg [] wr w3 := (by first | exact ((((Chg.refl [] wr).alloc (.cells #[.int .i64 sm, .int .i64 3] 24)).alloc (.cells #[] 24)).drewN 1).grown hg3 (fun k hk => .inr (by simp [Value.ownBlock] at hk; omega)) | exact ((((Chg.refl [] wr).alloc (.cells #[.int .i64 sm, .int .i64 3] 24)).alloc (.cells #[] 24)).drewN 2).grown hg3 (fun k hk => .inr (by simp [Value.ownBlock] at hk; omega)) | exact ((((Chg.refl [] wr).alloc (.cells #[.int .i64 sm, .int .i64 3] 24)).alloc (.cells #[] 24)).drewN 3).grown hg3 (fun k hk => .inr (by simp [Value.ownBlock] at hk; omega))); have hA3 := hA.keep hch3 (by simp); have hS3 := hS.keep hch3 (by simp); have q0 := hS3.cell 0; have q1 := hS3.cell 1; have q2 := hS3.free 0; have q3 := hS3.free 1; have w3l := hch3.size; have hRS3 : Rd w3 2 (some ⟨wr.heap.size, 0, none⟩) 1 (cS [⟨sm, 3⟩]) := (by first | exact (((Rd.new' (w := wr) (l := cS [⟨sm, 3⟩]) rfl rfl rfl).alloc (.cells #[] 24)).drewN 1).keep ((Chg.refl [wr.heap.size + 1] _).grown hg3 (fun k hk => .inl (by simp [Value.ownBlock] at hk; simp; omega))) (Away.at (by simp)) | exact (((Rd.new' (w := wr) (l := cS [⟨sm, 3⟩]) rfl rfl rfl).alloc (.cells #[] 24)).drewN 2).keep ((Chg.refl [wr.heap.size + 1] _).grown hg3 (fun k hk => .inl (by simp [Value.ownBlock] at hk; simp; omega))) (Away.at (by simp))))
            | (refine step_append_rd _ (by rfl) (.tmp 82) (.tmp 84) 22 (by rfl) wr.heap.size 24 i0 (.agg #[.int .i64 0, .int .i64 0]) 2 16 Try.underlying22 hi hz0 hz1 hz2 rfl (by omega) (.slice A3 l.length c3) l.length (cS l) (by rfl) (hown3.alloc _) (some ⟨w3.heap.size, 0, none⟩) 1 1 (cS [⟨sm, 3⟩]) (by rfl) (by first | exact Rd.new' rfl rfl rfl | exact (Rd.new' (w := w3) (l := cS [⟨sm, 3⟩]) rfl rfl rfl).drewN 1 | exact (Rd.new' (w := w3) (l := cS [⟨sm, 3⟩]) rfl rfl rfl).drewN 2 | exact (Rd.new' (w := w3) (l := cS [⟨sm, 3⟩]) rfl rfl rfl).drewN 3) (cS_one _) (by unfold maxLen; omega) (by omega) (by first | exact w3l | (simp; omega)) ?_; intro A4 c4 w4 hown4 hg4 hb4; have hch4 : Chg [] wr w4 := (by first | exact (hch3.alloc (.cells #[.int .i64 sm, .int .i64 3] 24)).grown hg4 (fun k hk => .inr (hown3.lt k hk).1) | exact ((hch3.alloc (.cells #[.int .i64 sm, .int .i64 3] 24)).drewN 1).grown hg4 (fun k hk => .inr (hown3.lt k hk).1) | exact ((hch3.alloc (.cells #[.int .i64 sm, .int .i64 3] 24)).drewN 2).grown hg4 (fun k hk => .inr (hown3.lt k hk).1) | exact ((hch3.alloc (.cells #[.int .i64 sm, .int .i64 3] 24)).drewN 3).grown hg4 (fun k hk => .inr (hown3.lt k hk).1)); have hA4 := hA.keep hch4 (by simp); have hS4 := hS.keep hch4 (by simp); rw [← cS_app] at hown4)
            | (refine step_append_rd _ (by rfl) (.tmp 82) (.tmp 84) 22 (by rfl) wr.heap.size 24 i0 (.agg #[.int .i64 0, .int .i64 0]) 2 16 Try.underlying22 hi hz0 hz1 hz2 rfl (by omega) (.slice A3 l.length c3) l.length (cS l) (by rfl) hown3 (some ⟨wr.heap.size + 1, 0, none⟩) 1 1 (cS [⟨sm, 3⟩]) (by rfl) (by first | exact hRS3 | exact hRS3.drewN 1 | exact hRS3.drewN 2 | exact hRS3.drewN 3) (cS_one _) (by unfold maxLen; omega) (by omega) (by first | exact w3l | (simp; omega)) ?_; intro A4 c4 w4 hown4 hg4 hb4; have hch4 : Chg [] wr w4 := (by first | exact hch3.grown hg4 (fun k hk => .inr (hown3.lt k hk).1) | exact (hch3.drewN 1).grown hg4 (fun k hk => .inr (hown3.lt k hk).1) | exact (hch3.drewN 2).grown hg4 (fun k hk => .inr (hown3.lt k hk).1) | exact (hch3.drewN 3).grown hg4 (fun k hk => .inr (hown3.lt k hk).1)); have hA4 := hA.keep hch4 (by simp); have hS4 := hS.keep hch4 (by simp); rw [← cS_app] at hown4)
            | (refine step_append_rd _ (by rfl) (.tmp 82) (.tmp 84) 22 (by rfl) wr.heap.size 24 i0 (.agg #[.int .i64 0, .int .i64 0]) 2 16 Try.underlying22 hi hz0 hz1 hz2 rfl (by omega) (.slice A3 l.length c3) l.length (cS l) (by rfl) hown3 (some ⟨wr.heap.size, 0, none⟩) 1 1 (cS [⟨sm, 3⟩]) (by rfl) (by first | exact hRS3 | exact hRS3.drewN 1 | exact hRS3.drewN 2 | exact hRS3.drewN 3) (cS_one _) (by unfold maxLen; omega) (by omega) (by first | exact w3l | (simp; omega)) ?_; intro A4 c4 w4 hown4 hg4 hb4; have hch4 : Chg [] wr w4 := (by first | exact hch3.grown hg4 (fun k hk => .inr (hown3.lt k hk).1) | exact (hch3.drewN 1).grown hg4 (fun k hk => .inr (hown3.lt k hk).1) | exact (hch3.drewN 2).grown hg4 (fun k hk => .inr (hown3.lt k hk).1) | exact (hch3.drewN 3).grown hg4 (fun k hk => .inr (hown3.lt k hk).1)); have hA4 := hA.keep hch4 (by simp); have hS4 := hS.keep hch4 (by simp); rw [← cS_app] at hown4)
            | (go_simp; go_at_call 19; refine (hear_to _ w.heap.size ⟨7, 0⟩ 7 n A4 _ c4 (l ++ [⟨sm, 3⟩]) (by first | exact hA4 | exact hA4.drewN 1) (by simp) (by have hrd := Rd.of_own hown4; simpa using hrd) (fun hn k hk => by have := (own_in hown4 k hk).1; simp; omega) (by simp; omega) (by have := own_cap hown4; simpa using this) HR.out HL.out).mono ?_; rintro e w5 ⟨rfl, hA5, hch5⟩; have hS5 := hS4.keep hch5 (by simp)))
        all_goals
          (have s0 := hS5.cell 0
           have s1 := hS5.cell 1
           have s2 := hS5.free 0
           have s3 := hS5.free 1
           have s4 := hS5.lt
           have s5 := hA5.lt
           have hch6 : Chg [] w w5 := (hch.trans hch4 (by simp)).trans hch5 (by simp)
           rcases HEnd.out with ⟨rfl, rfl, rfl, rfl⟩ | ⟨rfl, rfl, rfl, rfl, rfl⟩ | ⟨rfl, rfl, rfl, hcc⟩)
        all_goals
          (first
            | (obtain ⟨cc, HC⟩ : ∃ q, cmpS ⟨em, ec⟩ ⟨sm, 3⟩ = q := ⟨_, rfl⟩
               rw [HC] at hcc
               have HC := Lib.hid HC
               go_wp2_with (fail)
               go_region_held3 (fun w' => w'.cell? ⟨w.heap.size + 1, 0, none⟩ = some (.int .i64 sm) ∧ w'.cell? ⟨w.heap.size + 1, 1, none⟩ = some (.int .i64 3)) (first | go_keep | exact ⟨s0, s1⟩)
                 (first
                   | (go_at_call 25; refine (last_any _ w.heap.size ⟨em, ec⟩ 7 (by first | exact hA5 | exact hA5.drewN 1 | exact hA5.drewN 2) ).mono ?_; rintro e w6 ⟨rfl, hch7⟩; have hch8 : Chg [] w w6 := (by first | exact hch6.trans hch7 (by simp) | exact (hch6.drewN 1).trans hch7 (by simp)); have hS6 := (hS5.drewN 1).keep hch7 (by simp); have s0 := hS6.cell 0; have s1 := hS6.cell 1; have s2 := hS6.free 0; have s3 := hS6.free 1; have s4 := hS6.lt)
                   | (go_at_call 21; refine (refCompare_gt _ _ _ _ _ cc HC.out).mono ?_; rintro e w7 ⟨rfl, hch9⟩; have hch10 : Chg [] w w7 := (by first | exact hch8.trans hch9 (by simp) | exact (hch8.drewN 1).trans hch9 (by simp)); have hS7 := (by first | exact hS6.keep hch9 (by simp) | exact (hS6.drewN 1).keep hch9 (by simp) : At w7 (w.heap.size + 1) 24 #[.int .i64 sm, .int .i64 3]); have s0 := hS7.cell 0; have s1 := hS7.cell 1; have s2 := hS7.free 0; have s3 := hS7.free 1)
                   | (go_at_call 16; refine (known_any _).mono ?_; rintro e w9 ⟨rfl, hch11⟩; have hch12 : Chg [] w w9 := (by first | exact hch10.trans hch11 (by simp) | exact (hch10.drewN 1).trans hch11 (by simp)); have hS9 := (by first | exact hS7.keep hch11 (by simp) | exact (hS7.drewN 1).keep hch11 (by simp) : At w9 (w.heap.size + 1) 24 #[.int .i64 sm, .int .i64 3]); have s0 := hS9.cell 0; have s1 := hS9.cell 1))
               go_wp2_with (fail)
               go_ret
               exact ⟨rfl, hch12⟩)
            | (go_wp2_with (first
                 | (go_at_call 25; refine (last_any _ w.heap.size ⟨7, 0⟩ 7 hA5).mono ?_; rintro e w6 ⟨rfl, hch7⟩; have hch8 := hch6.trans hch7 (by simp))
                 | (go_at_call 16; refine (known_any _).mono ?_; rintro e w9 ⟨rfl, hch9⟩; have hch10 := hch8.trans hch9 (by simp)))
               go_ret
               exact ⟨rfl, hch10⟩)
)
end Go.Proofs.Ytaamdgimjbgeeaa

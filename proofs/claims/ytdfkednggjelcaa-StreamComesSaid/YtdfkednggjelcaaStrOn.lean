
/-
  StreamOnce: the walk of the law.
-/
import Derived.Test.YtdfkednggjelcaaStrD
import Derived.Test.YtdfkednggjelcaaStrAg
namespace Go.Proofs.Ytdfkednggjelcaa
open Go.RowKit
set_option linter.unusedVariables false

theorem takeN_all {org ap : Int} : ∀ {l : List Rc} {m : Nat}, (∀ r ∈ l, isR r = true ∧ r.o = org) → (∀ i (h : i < l.length), l[i].q = ap + 1 + m + i) → takeN org ap m l = l := by
  intro l
  induction l with
  | nil => intros; rfl
  | cons r l ih =>
    intro m h1 h2
    have e0 : r.q = ap + 1 + m + ((0 : Nat) : Int) := h2 0 (by simp)
    rw [takeN, if_pos ⟨(h1 r (by simp)).1, (h1 r (by simp)).2, by omega⟩, ih (fun q hq => h1 q (by simp [hq])) (fun i hi => by
      have := h2 (i + 1) (by simpa using hi)
      simp only [List.getElem_cons_succ] at this
      rw [this]; push_cast; omega)]
theorem takeN_none {org ap : Int} : ∀ {l : List Rc}, (∀ r ∈ l, r.q ≠ ap + 1) → takeN org ap 0 l = [] := by
  intro l
  induction l with
  | nil => intros; rfl
  | cons r l ih =>
    intro h
    rw [takeN, if_neg (by intro hc; exact h r (by simp) (by have := hc.2.2; simp only [Int.natCast_zero, Int.add_zero] at this; exact this)), if_neg (by omega), ih (fun q hq => h q (by simp [hq]))]

set_option maxRecDepth 100000 in
set_option maxHeartbeats 6400000 in
theorem streamOnce_law (w : World) (f : Int) (hf : (Lit.int .i64 f).wf = true) (n : Int) (hn : (Lit.int .i64 n).wf = true) (g : Int) (hg : (Lit.int .i64 g).wf = true) :
    Calls Try.prog 4 #[.int .i64 f, .int .i64 n, .int .i64 g] w fun e w' => e = .returned (.bool true) ∧ Chg [] w w' := by
  clear hf hn hg
  by_cases hbad : f < 1 ∨ 549755813888 < f ∨ n < 1 ∨ 40 < n ∨ g < 0 ∨ 20 < g
  · have harm : ∀ (b1 : f < 1 ∨ (¬ f < 1 ∧ (549755813888 < f ∨ (¬ 549755813888 < f ∧ (n < 1 ∨ (¬ n < 1 ∧ (40 < n ∨ (¬ 40 < n ∧ (g < 0 ∨ (¬ g < 0 ∧ 20 < g)))))))))), Calls Try.prog 4 #[.int .i64 f, .int .i64 n, .int .i64 g] w fun e w' => e = .returned (.bool true) ∧ Chg [] w w' := by
      clear hbad
      rintro (b1 | ⟨b1, b2 | ⟨b2, b3 | ⟨b3, b4 | ⟨b4, b5 | ⟨b5, b6⟩⟩⟩⟩⟩)
      all_goals
        go_enter Try.func4, Try.ntmps4
        go_wp2_with (go_at_call 11; (with_reducible refine (knownL_any _).mono ?_); rintro e w9 ⟨rfl, hch9⟩)
        go_ret
        exact ⟨rfl, hch9⟩
    exact harm (by omega)
  obtain ⟨N, rfl⟩ := Int.eq_ofNat_of_zero_le (show 0 ≤ n by omega)
  obtain ⟨G, rfl⟩ := Int.eq_ofNat_of_zero_le (show 0 ≤ g by omega)
  have b1 : ¬ f < 1 := by omega
  have b2 : ¬ 549755813888 < f := by omega
  have b3 : ¬ (N : Int) < 1 := by omega
  have b4 : ¬ 40 < (N : Int) := by omega
  have b5 : ¬ (G : Int) < 0 := by omega
  have b6 : ¬ 20 < (G : Int) := by omega
  have n1 : 1 ≤ N := by omega
  have n40 : N ≤ 40 := by omega
  have f1 : 1 ≤ f := by omega
  have f2 : f ≤ 549755813888 := by omega
  clear hbad
  have HT1 : Hid (takeN 1 (f - 1) 0 (someL 1 f N) = someL 1 f N) := takeN_all (fun r hr => okL_iff.1 (okL_some (o := 1) (f := f) (n := N) (by omega) (by omega) (by omega) (by omega)) r hr) (fun i hi => by
    rw [someL_get hi]; show f + (i : Int) = _; push_cast; omega)
  have HT2 : Hid (takeN 1 (f + (N : Int) - 1) 0 (someL 1 f N) = []) := takeN_none (fun r hr => by
    obtain ⟨i, hi, rfl⟩ := List.mem_map.1 hr
    have hi' := List.mem_range.1 hi
    show f + (i : Int) ≠ _
    omega)
  have HD1 : Hid (doneI ⟨3, 1, f - 1⟩ (f + (N : Int) - 1) = ⟨3, 1, f + (N : Int) - 1⟩) := by
    unfold Hid doneI
    simp only [ISt.mk.injEq, true_and]
    omega
  have HD2 : Hid (doneI ⟨3, 1, f + (N : Int) - 1⟩ (f + (N : Int) - 1) = ⟨3, 1, f + (N : Int) - 1⟩) := by
    unfold Hid doneI
    simp only [ISt.mk.injEq, true_and]
    omega
  have hway : isWayS 3 1 (f - 1) = true := isWayS_iff.2 ⟨by omega, by omega, by omega, by omega, by omega, by omega, by omega⟩
  have hok1 : ISt.Ok ⟨3, 1, f - 1⟩ := ⟨by show (0 : Int) ≤ 3; omega, by show (3 : Int) < 5; omega, by show (0 : Int) ≤ 1; omega, by show (1 : Int) < 5; omega, by show 0 ≤ f - 1; omega, by show f - 1 ≤ _; omega⟩
  have hok2 : ISt.Ok ⟨3, 1, f + (N : Int) - 1⟩ := ⟨by show (0 : Int) ≤ 3; omega, by show (3 : Int) < 5; omega, by show (0 : Int) ≤ 1; omega, by show (1 : Int) < 5; omega, by show 0 ≤ f + (N : Int) - 1; omega, by show f + (N : Int) - 1 ≤ _; omega⟩
  have HK1 := Lib.hid hok1
  have HK2 := Lib.hid hok2
  have HW := Lib.hid hway
  have hackl : Hid ((ackB 1 (f + (N : Int) - 1)).length ≤ 1000000) := by
    have h := bodyW_len (isW_ack2 (o := 1) (q := f + (N : Int) - 1) (by omega) (by omega) (by omega) (by omega))
    unfold Hid ackB
    rw [encF_len]
    omega
  clear hok1 hok2 hway
  go_enter Try.func4, Try.ntmps4
  go_wp2_with (fail)
  refine (newIn_yes _ 3 1 (f - 1) HW.out).mono ?_
  rintro e w1 ⟨gi, rfl, hgi, hI1, hch1⟩
  have hgi1 : gi < w1.heap.size := hI1.lt
  go_wp2_with (fail)
  refine (some_any w1 1 f (N : Int) (by omega) (by omega) (by omega)).mono ?_
  rintro e w2 ⟨A2, c2, l2, rfl, hl2, hown2, hV2, hch2⟩
  rw [Int.toNat_natCast] at hl2
  have hI2 := hI1.keep hch2 (by simp)
  have hc2 := hch1.trans hch2 (by simp)
  have HL2 : Hid (l2.length = N) := by
    have h := congrArg List.length hl2.out
    rw [List.length_map, someL_len] at h
    exact h
  have HL40 : l2.length ≤ 40 := by have := HL2.out; omega
  have HVL : Hid (∀ x ∈ l2, x.r.val.length ≤ 140737488351232) := fun x hx => by
    have h1 : x.r ∈ someL 1 f N := by rw [← hl2.out]; exact List.mem_map_of_mem hx
    obtain ⟨i, _, h2⟩ := List.mem_map.1 h1
    rw [← h2]; simp [recO]
  have RL : Hid (∀ w', Chg [gi] w2 w' → Rd w' 9 A2 l2.length (cRc l2) ∧ ∀ x ∈ l2, Rd w' 1 x.A x.r.val.length (cB x.r.val)) := fun w' hc => by
    refine ⟨(Rd.of_own hown2).keep hc (fun _ k hk hm => ?_), fun x hx => ?_⟩
    · have := (own_in hown2 k hk).1
      simp at hm
      omega
    · obtain ⟨gx, h1, h2, h3⟩ := hV2.out x hx
      have h4 : NewV w' w1.heap.size x := ⟨gx, h1, h2, h3.keep hc (by simp; omega)⟩
      exact h4.rd
  clear hI1 hch1 hch2 hown2 hV2
  go_wp2_with (fail)
  refine (take_any w2 gi 3 1 (f - 1) hI2 (by omega) (by omega) A2 _ c2 l2 rfl (RL.out w2 (Chg.refl _ _)).1 (RL.out w2 (Chg.refl _ _)).2 (by omega) HVL.out).mono ?_
  rw [hl2.out, HT1.out]
  rintro e w3 ⟨A3, c3, l3, rfl, hl3, hown3, hO3, hch3⟩
  have hI3 := hI2.keep hch3 (by simp)
  have hc3 := hc2.trans hch3 (by simp)
  have hg3 : Chg [gi] w2 w3 := hch3.mono (by simp)
  have R3 := Lib.hid (Rd.of_own hown3)
  have O3 : Hid (∀ x ∈ l3, Rd w3 1 x.A x.r.val.length (cB x.r.val)) := fun x hx => Rd.of_own (hO3.out x hx)
  have HL3 : Hid (l3.length = N) := by
    have h := congrArg List.length hl3.out
    rw [List.length_map, someL_len] at h
    exact h
  clear hI2 hc2 hch3 hown3 hO3
  go_wp2_with (fail)
  refine (records_yes w3 A3 A2 _ _ c3 c2 l3 l2 (by rw [hl3.out, hl2.out]) rfl rfl R3.out (RL.out w3 hg3).1 O3.out (RL.out w3 hg3).2 (by have := HL3.out; omega)).mono ?_
  rintro e w4 ⟨rfl, hch4⟩
  have hI4 := hI3.keep hch4 (by simp)
  have hc4 := hc3.trans hch4 (by simp)
  have hg4 : Chg [gi] w2 w4 := hg3.trans (hch4.mono (by simp) : Chg [gi] w3 w4) (by simp)
  clear hI3 hc3 hg3 hch4 R3 O3 hl3 HL3
  go_wp2_with (fail)
  refine (done_any w4 gi ⟨3, 1, f - 1⟩ hI4 HK1.out (f + (N : Int) - 1)).mono ?_
  rw [HD1.out]
  rintro e w5 ⟨A5, c5, ms, rfl, hm5, hn5, hI5, hch5⟩
  simp only at hm5
  have hg5 : Chg [gi] w2 w5 := hg4.trans hch5 (by simp)
  have hc5 : Chg [] w w5 := hc4.trans hch5 (by simp; omega)
  have HM5 : Hid (ms.length = 1) := by
    have h := congrArg List.length hm5.1.out
    rw [List.length_map] at h
    exact h
  have HMS : Hid (∀ w', Chg [gi] w5 w' → MsgsAt w' A5 ms [(3, 1, ackB 1 (f + (N : Int) - 1))]) := fun w' hc => hm5.keepS hn5 hc (by simp; have := hI4.lt; omega)
  clear hI4 hg4 hch5 hc4 hm5 hn5 HD1 HT1
  go_wp2_with (fail)
  go_loopw [11] (fun i wr => ∃ k : Nat, k ≤ G ∧ i = .int .i64 k ∧ Hid (At wr gi 84 (ISt.cells ⟨3, 1, f + (N : Int) - 1⟩)) ∧ Hid (Chg [gi] w5 wr)) (fun i _ => G - (intOf i).toNat)
  case atStart => exact ⟨0, Nat.zero_le _, rfl, hI5, Chg.refl _ _⟩
  case round =>
    clear hI5
    obtain ⟨k, hk, rfl, HI, HC⟩ := hrel
    have hgw := HI.out.lt
    have hg2 : Chg [gi] w2 wr := hg5.trans HC.out (by simp)
    by_cases hlt : (k : Int) < (G : Int)
    · go_wp2_with (fail)
      refine (take_any wr gi 3 1 (f + (N : Int) - 1) HI.out (by omega) (by omega) A2 _ c2 l2 rfl (RL.out wr hg2).1 (RL.out wr hg2).2 (by omega) HVL.out).mono ?_
      rw [hl2.out, HT2.out]
      rintro e w6 ⟨A6, c6, l6, rfl, hl6, -, -, hch6⟩
      have hz : l6.length = 0 := by
        have h := congrArg List.length hl6.out
        rw [List.length_map] at h
        exact h
      have hI6 := HI.out.keep hch6 (by simp)
      have hg6 : Chg [gi] w5 w6 := HC.out.trans (hch6.mono (by simp) : Chg [gi] wr w6) (by simp)
      obtain rfl := List.eq_nil_of_length_eq_zero hz
      clear hch6 hl6 hz HI HC hg2
      go_wp2_with (first
        | (go_at_call 20; (with_reducible refine (applied_any w6 gi ⟨3, 1, f + (N : Int) - 1⟩ hI6).mono ?_); rintro e w7 ⟨rfl, rfl⟩)
        | (go_at_call 18; (with_reducible refine (done_any _ gi ⟨3, 1, f + (N : Int) - 1⟩ hI6 HK2.out (f + (N : Int) - 1)).mono ?_); rw [HD2.out]; rintro e w8 ⟨A8, c8, ms8, rfl, hm8, -, hI8, hch8⟩; have hg8 : Hid (Chg [gi] w5 w8) := hg6.trans hch8 (by simp); have HM8 := Lib.hid hm8; clear hch8 hm8)
        | (go_at_call 17; (with_reducible refine (messages_yes w8 A8 A5 _ _ c8 c5 ms8 ms [(3, 1, ackB 1 (f + (N : Int) - 1))] rfl rfl HM8.out (HMS.out w8 hg8.out) (by simp) (by intro x hx; obtain rfl := List.mem_singleton.1 hx; exact hackl.out)).mono ?_); rintro e w9 ⟨rfl, hch9⟩))
      go_roundw
      case rel => exact ⟨k + 1, by omega, by go_num, hI8.keep hch9 (by simp), hg8.out.trans (hch9.mono (by simp) : Chg [gi] w8 w9) (by simp)⟩
      case measure => simp [intOf]; omega
    · obtain rfl : k = G := by omega
      have hml : (ms.length : Int) = 1 := by rw [HM5.out]; rfl
      have hcw : Chg [] w wr := hc5.trans HC.out (by simp; omega)
      go_wp2_with (first
        | (go_at_call 20; (with_reducible refine (applied_any wr gi ⟨3, 1, f + (N : Int) - 1⟩ HI.out).mono ?_); rintro e w7 ⟨rfl, rfl⟩)
        | (go_at_call 11; (with_reducible refine (knownL_any _).mono ?_); rintro e w9 ⟨rfl, hch9⟩))
      go_ret
      exact ⟨rfl, hcw.trans hch9 (by simp)⟩
end Go.Proofs.Ytdfkednggjelcaa

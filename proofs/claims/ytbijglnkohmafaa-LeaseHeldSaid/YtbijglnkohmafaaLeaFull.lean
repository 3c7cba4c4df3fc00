
/-
  LeaseFull: the walk of the law.
-/
import Derived.Test.YtbijglnkohmafaaLeaK
namespace Go.Proofs.Ytbijglnkohmafaa
open Go.RowKit Go.Maps
set_option linter.unusedVariables false
attribute [local go_sem ↓] run_min2 run_max2

theorem fndL_app (l : List LV) (x : LV) (k : Int) : fndL (l ++ [x]) k = (fndL l k).or (if x.id = k then some x else none) := by
  unfold fndL
  rw [List.find?_append]
  congr 1
  by_cases e : x.id = k <;> simp [e]
theorem wf_small {k : Int} (h0 : 0 ≤ k) (h1 : k ≤ 4611686018427387904) : (Lit.int .i64 k).wf = true := WalkArith.wf_i64 (by omega)
set_option maxRecDepth 100000 in
set_option maxHeartbeats 6400000 in
theorem leaseFull_law (w : World) (a : Int) (ha : (Lit.int .i64 a).wf = true) (c : Int) (hc : (Lit.int .i64 c).wf = true) :
    Calls Try.prog 3 #[.int .i64 a, .int .i64 c] w fun e w' => e = .returned (.bool true) ∧ Chg [] w w' := by
  by_cases hok : 0 ≤ a ∧ a ≤ 100 ∧ 0 ≤ c ∧ c ≤ 100
  rotate_left
  · have HK := Lib.hid (fun w => knownLe_any w)
    cases h1 : decide (a < 0)
    rotate_left
    · go_enter Try.func3, Try.ntmps3
      go_wp2_with (fail)
      refine (HK.out _).mono ?_
      rintro e w9 ⟨rfl, hch9⟩
      go_wp2_with (fail)
      go_ret
      exact ⟨rfl, hch9⟩
    cases h2 : decide ((100 : Int) < a)
    rotate_left
    · go_enter Try.func3, Try.ntmps3
      go_wp2_with (fail)
      refine (HK.out _).mono ?_
      rintro e w9 ⟨rfl, hch9⟩
      go_wp2_with (fail)
      go_ret
      exact ⟨rfl, hch9⟩
    cases h3 : decide (c < 0)
    rotate_left
    · go_enter Try.func3, Try.ntmps3
      go_wp2_with (fail)
      refine (HK.out _).mono ?_
      rintro e w9 ⟨rfl, hch9⟩
      go_wp2_with (fail)
      go_ret
      exact ⟨rfl, hch9⟩
    have h4 : decide ((100 : Int) < c) = true := decide_eq_true (by
      have d1 := of_decide_eq_false h1
      have d2 := of_decide_eq_false h2
      have d3 := of_decide_eq_false h3
      have : ¬ c ≤ 100 := fun h => hok ⟨by omega, by omega, by omega, h⟩
      omega)
    go_enter Try.func3, Try.ntmps3
    go_wp2_with (fail)
    refine (HK.out _).mono ?_
    rintro e w9 ⟨rfl, hch9⟩
    go_wp2_with (fail)
    go_ret
    exact ⟨rfl, hch9⟩
  obtain ⟨a0, a1, c0, c1⟩ := hok
  obtain ⟨n, rfl⟩ := Int.eq_ofNat_of_zero_le a0
  obtain ⟨d, rfl⟩ := Int.eq_ofNat_of_zero_le c0
  have h1 : decide ((n : Int) < 0) = false := decide_eq_false (by omega)
  have h2 : decide ((100 : Int) < (n : Int)) = false := decide_eq_false (by omega)
  have h3 : decide ((d : Int) < 0) = false := decide_eq_false (by omega)
  have h4 : decide ((100 : Int) < (d : Int)) = false := decide_eq_false (by omega)
  have hn : n ≤ 100 := by omega
  have hd : d ≤ 100 := by omega
  clear a0 a1 c0 c1 ha hc
  go_enter Try.func3, Try.ntmps3
  go_wp2_with (fail)
  refine (lnew_all w).mono ?_
  rintro e w1 ⟨gl, b, rfl, H1⟩
  have HH := Lib.hid H1
  clear H1
  go_wp2_with (fail)
  clear h1 h2 h3 h4
  go_loopw [6] (fun i wr => ∃ (k : Nat), k ≤ n ∧ i = .int .i64 k ∧ Hid (∃ l : List LV, LsH w wr gl b l (min k 64) ∧ l.length = min k 64 ∧ ∀ j : Int, (fndL l j).isSome = decide (0 ≤ j ∧ j < (min k 64 : Nat)))) (fun i _ => n - (intOf i).toNat)
  case atStart => exact ⟨0, Nat.zero_le _, rfl, [], HH.out, rfl, fun j => by
    have : ¬ (0 ≤ j ∧ j < ((min 0 64 : Nat) : Int)) := by omega
    rw [decide_eq_false this]; rfl⟩
  case round =>
    clear HH
    obtain ⟨k, hk, rfl, HR⟩ := hrel
    obtain ⟨l, hL, hl, hF⟩ := HR.out
    by_cases hlt : k < n
    · have hki : (k : Int) < (n : Int) := by omega
      by_cases h64 : k < 64
      · have e0 : min k 64 = k := by omega
        rw [e0] at hL hl hF
        have hnone : fndL l (k : Int) = none := by
          have := hF k
          rw [decide_eq_false (by omega)] at this
          cases h9 : fndL l (k : Int) with
          | none => rfl
          | some x => rw [h9] at this; cases this
        have HO := Lib.hid (open_yes hL (k : Int) 0 9 (isS_iff.2 ⟨by omega, by omega, by omega, by omega⟩) (by omega) (by omega) (by omega) hnone)
        have HF := Lib.hid hF
        have hkb : decide ((k : Int) < 64) = true := decide_eq_true (by omega)
        clear HR hL hF hnone
        go_wp2_with (fail)
        refine HO.out.mono ?_
        rintro e w3 ⟨rfl, H3, hc3⟩
        have HR3 : Hid (∃ l : List LV, LsH w w3 gl b l (min (k + 1) 64) ∧ l.length = min (k + 1) 64 ∧ ∀ j : Int, (fndL l j).isSome = decide (0 ≤ j ∧ j < (min (k + 1) 64 : Nat))) := by
          have e1 : min (k + 1) 64 = k + 1 := by omega
          rw [e1]
          refine ⟨_, H3, by rw [List.length_append, hl]; rfl, fun j => ?_⟩
          rw [fndL_app]
          have h9 := HF.out j
          by_cases hj : 0 ≤ j ∧ j < (k : Int)
          · rw [decide_eq_true hj] at h9
            rw [decide_eq_true (by omega)]
            obtain ⟨x, hx⟩ := Option.isSome_iff_exists.1 h9
            rw [hx]; rfl
          · rw [decide_eq_false hj] at h9
            have h8 : fndL l j = none := by
              cases h7 : fndL l j with
              | none => rfl
              | some x => rw [h7] at h9; cases h9
            rw [h8]
            by_cases hjk : (k : Int) = j
            · rw [decide_eq_true (by omega)]; simp [hjk]
            · rw [decide_eq_false (by omega)]; simp [hjk]
        clear H3 HO HF
        go_wp2_with (fail)
        go_roundw
        case rel => exact ⟨k + 1, by omega, by go_num, HR3⟩
        case measure => simp [intOf]; omega
      · have e0 : min k 64 = 64 := by omega
        have e1 : min (k + 1) 64 = 64 := by omega
        rw [e0] at hL hl hF
        have HO := Lib.hid (open_full hL (k : Int) 0 9 (isS_iff.2 ⟨by omega, by omega, by omega, by omega⟩) (by omega) (by omega) (by omega))
        have HF := Lib.hid hF
        have HL := Lib.hid hL
        have hkb : decide ((k : Int) < 64) = false := decide_eq_false (by omega)
        clear HR hL hF
        go_wp2_with (fail)
        refine HO.out.mono ?_
        rintro e w3 ⟨rfl, hc3⟩
        have HR3 : Hid (∃ l : List LV, LsH w w3 gl b l (min (k + 1) 64) ∧ l.length = min (k + 1) 64 ∧ ∀ j : Int, (fndL l j).isSome = decide (0 ≤ j ∧ j < (min (k + 1) 64 : Nat))) := by
          rw [e1]
          exact ⟨l, HL.out.k0 hc3, hl, HF.out⟩
        clear HO HF e0 e1
        go_wp2_with (fail)
        go_roundw
        case rel => exact ⟨k + 1, by omega, by go_num, HR3⟩
        case measure => simp [intOf]; omega
    · obtain rfl : k = n := by omega
      have hki : ¬ (k : Int) < (k : Int) := by omega
      obtain ⟨hh, hhe⟩ : ∃ hh, Hid (min k 64 = hh) := ⟨_, rfl⟩
      rw [hhe.out] at hL hl hF
      have hh64 : hh ≤ 64 := by have := hhe.out; omega
      have hmin : min (k : Int) 64 = (hh : Int) := by have := hhe.out; omega
      have HL := Lib.hid (hL.k0 ((Chg.refl [] wr).alloc (.cells #[.int .i64 d] 3)))
      have HI : Hid (∀ w', Chg [b] (wr.alloc (.cells #[.int .i64 d] 3)) w' → Rd w' 1 (some ⟨wr.heap.size, 0, none⟩) [(d : Int)].length (cLI [(d : Int)])) := fun w' hc' =>
        Rd.of_at (l := cLI [(d : Int)]) ((At.new wr 3 #[.int .i64 d]).keep hc' (by have := hL.map.lt; simp; omega)) (cLI_len _)
      have HCl := Lib.hid (close_all HL.out (some ⟨wr.heap.size, 0, none⟩) 1 1 [(d : Int)] rfl HI.out (fun z hz => by
        obtain rfl := List.mem_singleton.1 hz; exact wf_small (by omega) (by omega)) (by simp) (by omega))
      have HF := Lib.hid hF
      have HDl := Lib.hid (delL_len hL.map.nd (d : Int))
      have hdef : delAll l [(d : Int)] = delL l d := rfl
      rw [hdef] at HCl
      clear HR hL hF hdef
      go_wp2_with (fail)
      refine HCl.out.mono ?_
      rintro e w4 ⟨rfl, H4, hc4⟩
      have HL4 := Lib.hid H4
      clear H4 HCl HI HL
      have hnone : Hid (fndL (delL l d) hh = none) := by
        by_cases e : (hh : Int) = d
        · rw [e]; exact fndL_del_same l d
        · have h9 := HF.out hh
          rw [decide_eq_false (by omega)] at h9
          unfold Hid
          rw [fndL_del_other e]
          cases h7 : fndL l (hh : Int) with
          | none => rfl
          | some x => rw [h7] at h9; cases h9
      by_cases hdh : d < hh
      · have h9 := HF.out d
        rw [decide_eq_true (by omega)] at h9
        have h8 := HDl.out
        rw [h9, hl] at h8
        have h7 : (delL l d).length + 1 = hh := h8
        have hsub : (l.length : Int) - ((delL l d).length : Int) = 1 := by omega
        rw [hsub]
        have HO := Lib.hid (open_yes HL4.out 0 0 9 (by decide) (by omega) (by omega) (by omega) hnone.out)
        have hdb : decide ((d : Int) < (hh : Int)) = true := decide_eq_true (by omega)
        have hsb : decide ((hh : Int) - 1 < 64) = true := decide_eq_true (by omega)
        have hC4 := Lib.hid HL4.out.chg
        clear HF HDl h9 h8 h7 hsub
        go_wp2_with (fail)
        refine HO.out.mono ?_
        rintro e w5 ⟨rfl, H5, hc5⟩
        have HC5 := Lib.hid H5.chg
        clear H5
        go_wp2_with (fail)
        refine (knownLe_any _).mono ?_
        rintro e w6 ⟨rfl, hc6⟩
        go_wp2_with (fail)
        go_ret
        exact ⟨rfl, HC5.out.trans hc6 (by simp)⟩
      · have h9 := HF.out d
        rw [decide_eq_false (by omega)] at h9
        have h8 := HDl.out
        rw [h9, hl] at h8
        have h7 : (delL l d).length = hh := h8
        have hsub : (l.length : Int) - ((delL l d).length : Int) = 0 := by omega
        rw [hsub]
        have hdb : decide ((d : Int) < (hh : Int)) = false := decide_eq_false (by omega)
        by_cases hlast : hh < 64
        · have HO := Lib.hid (open_yes HL4.out 0 0 9 (by decide) (by omega) (by omega) (by omega) hnone.out)
          have hsb : decide ((hh : Int) < 64) = true := decide_eq_true (by omega)
          clear HF HDl h9 h8 h7 hsub
          go_wp2_with (fail)
          refine HO.out.mono ?_
          rintro e w5 ⟨rfl, H5, hc5⟩
          have HC5 := Lib.hid H5.chg
          clear H5
          go_wp2_with (fail)
          refine (knownLe_any _).mono ?_
          rintro e w6 ⟨rfl, hc6⟩
          go_wp2_with (fail)
          go_ret
          exact ⟨rfl, HC5.out.trans hc6 (by simp)⟩
        · have HO := Lib.hid (open_full HL4.out 0 0 9 (by decide) (by omega) (by omega) (by omega))
          have hsb : decide ((hh : Int) < 64) = false := decide_eq_false (by omega)
          have HC4 := Lib.hid HL4.out.chg
          clear HF HDl h9 h8 h7 hsub
          go_wp2_with (fail)
          refine HO.out.mono ?_
          rintro e w5 ⟨rfl, hc5⟩
          have HC5 : Hid (Chg [] w w5) := HC4.out.trans hc5 (by simp)
          clear hc5
          go_wp2_with (fail)
          refine (knownLe_any _).mono ?_
          rintro e w6 ⟨rfl, hc6⟩
          go_wp2_with (fail)
          go_ret
          exact ⟨rfl, HC5.out.trans hc6 (by simp)⟩
end Go.Proofs.Ytbijglnkohmafaa

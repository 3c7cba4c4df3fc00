/-
  OctetNums: the walk of the law.
-/
import Derived.Test.YtghabhhnhalpgaaLawO2
import Derived.Test.YtghabhhnhalpgaaRef1
import Derived.OpenShut
import Derived.Deep.RegionWith
namespace Go.Proofs.Ytghabhhnhalpgaa
open Go.RowKit
attribute [local go_sem ↓] run_min2 run_max2
set_option linter.unusedVariables false

theorem numsSt_encs : ∀ (ns : List Nat) (b : Bool), (∀ n ∈ ns, n ≤ 4611686018427387904) → ∀ k, k ≤ ns.length → numsSt (encs ns) b k = (encs (ns.drop k), b) := by
  intro ns b h k
  induction k with
  | zero => intro _; rfl
  | succ k ih =>
    intro hk
    have e := ih (by omega)
    rw [numsSt, e]
    have hd : ns.drop k = ns[k] :: ns.drop (k + 1) := List.drop_eq_getElem_cons (by omega)
    rw [hd, encs_cons]
    rw [take_some (dec_enc (h _ (List.getElem_mem (by omega))) _)]
theorem takeNum_encs {ns : List Nat} {b : Bool} (h : ∀ n ∈ ns, n ≤ 4611686018427387904) {k : Nat} (hk : k < ns.length) : takeNum (encs (ns.drop k)) b = (ns[k], encs (ns.drop (k + 1)), b) := by
  have hd : ns.drop k = ns[k] :: ns.drop (k + 1) := List.drop_eq_getElem_cons hk
  rw [hd, encs_cons]
  exact take_some (dec_enc (h _ (List.getElem_mem hk)) _)
theorem encs_len : ∀ (ns : List Nat), (∀ n ∈ ns, n ≤ 4611686018427387904) → (encs ns).length ≤ 9 * ns.length := by
  intro ns
  induction ns with
  | nil => intro _; simp [encs]
  | cons n ns ih =>
    intro h
    have h1 := ih (fun m hm => h m (List.mem_cons_of_mem _ hm))
    have h2 := enc_len9 (h n (by simp))
    rw [encs_cons]
    simp
    omega

set_option maxRecDepth 100000 in
set_option maxHeartbeats 3200000 in
theorem nums_law (w : World) (A : Option Addr) (n c : Nat) (ns : List Int) (hn : ns.length = n) (hr : Rd w 1 A n (ns.map (Value.int .i64))) (_hlc : n ≤ c) (hcm : c ≤ maxLen) (hw : ∀ z ∈ ns, (Lit.int .i64 z).wf = true) :
    Calls Try.prog 4 #[.slice A n c] w fun e w' => e = .returned (.bool true) ∧ Chg [] w w' := by
  subst hn
  unfold maxLen at hcm
  have hr : Rd w 1 A ns.length (cI ns) := hr
  by_cases h500 : 500 < ns.length
  · go_enter Try.func4, Try.ntmps4
    go_wp2_with (fail)
    go_ret
    exact ⟨rfl, Chg.refl _ _⟩
  · have HW := Lib.hid (fun z hz => bounds_i64 (hw z hz))
    clear hw
    have hcl : ∀ m ∈ ns.map clamp, m ≤ 4611686018427387904 := by
      intro m hm
      obtain ⟨z, _, rfl⟩ := List.mem_map.1 hm
      exact clamp_le z
    have hEl := encs_len _ hcl
    rw [List.length_map] at hEl
    have HT : Hid (∀ k (h : k < ns.length), takeNum (encs ((ns.map clamp).drop k)) false = (clamp ns[k], encs ((ns.map clamp).drop (k + 1)), false)) := by
      intro k h
      have := takeNum_encs (b := false) hcl (k := k) (by simpa using h)
      simpa using this
    have HD0 : Hid ((ns.map clamp).drop 0 = ns.map clamp) := rfl
    have HDn : Hid (encs ((ns.map clamp).drop ns.length) = []) := by unfold Hid; rw [List.drop_eq_nil_of_le (by simp)]; rfl
    have HL : Hid (∀ k, (encs ((ns.map clamp).drop k)).length ≤ 4500) := by
      intro k
      have h1 := encs_len ((ns.map clamp).drop k) (fun m hm => hcl m (List.mem_of_mem_drop hm))
      simp at h1
      omega
    clear hcl
    go_enter Try.func4, Try.ntmps4
    go_wp2_with (fail)
    refine (nums_any w.heap.size [] w _ none 0 A c ns [] (Wr.new w) (hr.alloc _) (by omega) (by simp) (Away.old hr (by simp [blk]))).mono ?_
    rintro e w1 ⟨rfl, A1, c1, h1⟩
    rw [List.nil_append] at h1
    have HE : Hid (encs (ns.map clamp) = encs (ns.map clamp)) := rfl
    have hc1 : Chg [] w w1 := h1.chg.mono (by simp)
    go_wp2_with (fail)
    refine (out_any w.heap.size w [] _ A1 c1 _ h1 (by omega)).mono ?_
    rintro e w2 ⟨A2, c2, rfl, hown2, hch2⟩
    have h2 := h1.keep0 hch2
    have hc2 : Chg [] w w2 := hc1.trans hch2 (by simp)
    go_wp2_with (fail)
    refine (refNums_any _ A ns.length c ns rfl (hr.keep0 hc2) (by omega) HW.out).mono ?_
    rintro e w3 ⟨A3, c3, rfl, hown3, hch3⟩
    have hc3 := hc2.trans hch3 (by simp)
    have hown23 := own_keep hown2 hch3 (by simp)
    go_wp2_with (fail)
    refine (same_any _ A2 A3 _ _ c2 c3 _ _ rfl rfl (Rd.of_own hown23) (Rd.of_own hown3) (by omega)).mono ?_
    rintro e w4 ⟨rfl, hch4⟩
    have hc4 := hc3.trans hch4 (by simp)
    have hown24 := own_keep hown23 hch4 (by simp)
    rw [decide_eq_true rfl]
    go_wp2_with (fail)
    refine (newReader_any _ A2 _ c2 _ rfl (Rd.of_own hown24) (by omega)).mono ?_
    rintro e w5 ⟨B5, S5, A5, c5, rfl, hr5, hch5, hB5, hS5⟩
    have hc5 := hc4.trans hch5 (by simp)
    have hown25 := own_keep hown24 hch5 (by simp)
    go_wp2_with (fail)
    refine (spoil_any _ _ A2 _ c2 _ hown25 (by omega) (Nat.le_trans (hch2.size) (Nat.le_trans hch3.size (Nat.le_trans hch4.size hch5.size)))).mono ?_
    rintro e w6 ⟨rfl, hch6⟩
    have hin2 := own_in hown2
    have hc6 : Chg [] w w6 := hc5.trans hch6 (fun x hx => .inr (Nat.le_trans hc1.size (hin2 x hx).1))
    have h5 := ((h2.keep0 hch3).keep0 hch4).keep0 hch5
    have h6 := h5.keep hch6 (fun hm => by have := h1.at_.lt; have := (hin2 _ hm).1; omega) (fun k hk hm => by have := (own_in h1.own _ hk).2; have := (hin2 _ hm).1; omega) (fun k hk => .inr (Nat.le_trans hc1.size (hin2 k hk).1))
    go_wp2_with (fail)
    refine (out_any w.heap.size w [] _ A1 c1 _ h6 (by omega)).mono ?_
    rintro e w7 ⟨A7, c7, rfl, hown7, hch7⟩
    have hc7 := hc6.trans hch7 (by simp)
    go_wp2_with (fail)
    refine (newReader_any _ A7 _ c7 _ rfl (Rd.of_own hown7) (by omega)).mono ?_
    rintro e w8 ⟨B8, S8, A8, c8, rfl, hr8, hch8, hB8, hS8⟩
    have hc8 := hc7.trans hch8 (by simp)
    have hB8w : w.heap.size ≤ B8 := Nat.le_trans hc7.size hB8
    clear hr5 hown2 hown23 hown24 hown25 hown3 hown7 h1 h2 h5 h6 hc1 hc2 hc3 hc4 hc5 hc6 hc7 hch2 hch3 hch4 hch5 hch6 hch7 hch8 hin2 hS5 hB5
    go_wp2_with (fail)
    go_loopw [6] (fun i wr => ∃ (k : Nat) (A' : Option Addr) (c' : Nat), k ≤ ns.length ∧ i = .int .i64 k ∧ Chg [] w wr ∧ RrG 62 w8 B8 S8 wr A' c' (encs ((ns.map clamp).drop k)) false) (fun i _ => ns.length - (intOf i).toNat)
    case atStart => exact ⟨0, A8, c8, Nat.zero_le _, rfl, hc8, hr8⟩
    case round =>
      obtain ⟨k, A9, c9, hk, rfl, hcr, hrr⟩ := hrel
      by_cases hlt : k < ns.length
      · have HTk := Lib.hid (HT.out k hlt)
        obtain ⟨ad, u, rfl, had, hu, hc⟩ := (hr.keep0 hcr).get hlt
        rw [cI_get hlt] at hu
        have HLk := Lib.hid (HL.out k)
        generalize ns[k] = z at *
        obtain rfl : Value.int .i64 z = u := by simpa using hu
        clear hu
        have hadl : ad.block < w.heap.size := by
          obtain ⟨ad', h1, h2, _⟩ := hr.at_ (by omega)
          cases h1
          exact h2
        have hrd := (hrr.keep0 ((Chg.refl [] wr).drew)).here
        have hki : (k : Int) < (ns.length : Int) := by omega
        have hneq : ((clamp z : Int) != max 0 (min z 4611686018427387904)) = false := by rw [clampI]; simp
        go_wp2_with (fail)
        go_region_with (go_at_call 18; refine (num_any B8 S8 wr.drew wr.drew A9 c9 _ _ hrd (by have := HLk.out; omega)).mono ?_; rw [HTk.out]; rintro e w' ⟨rfl, A', c', h'⟩; have hc' := (h'.chg.cell (p := ad.add k) (by rw [add_block]; exact had) (by rw [add_block]; simp; omega)).trans hc)
        all_goals
          go_wp2_with (fail)
          go_roundw
          case rel => exact ⟨k + 1, A', c', by omega, by go_num, hcr.drew.trans h'.chg (by simp; omega), (hrr.keep0 ((Chg.refl [] wr).drew)).trans h'⟩
          case measure => simp [intOf]; omega
      · obtain rfl : k = ns.length := by omega
        rw [HDn.out] at hrr
        go_wp2_with (first
          | (go_at_call 19; refine (good_any B8 S8 w8 _ A9 c9 _ _ hrr).mono ?_; rintro e w' ⟨rfl, rfl⟩)
          | (go_at_call 20; refine (whole_any B8 S8 w8 _ A9 c9 _ _ hrr).mono ?_; rintro e w' ⟨rfl, rfl⟩)
          | (go_at_call 11; refine (known_any _).mono ?_; rintro e wk ⟨rfl, hchk⟩))
        go_ret
        exact ⟨rfl, hcr.trans hchk (by simp)⟩
end Go.Proofs.Ytghabhhnhalpgaa

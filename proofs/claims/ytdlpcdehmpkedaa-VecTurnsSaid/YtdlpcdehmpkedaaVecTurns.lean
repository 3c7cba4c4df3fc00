/-
  VecTurns: in whatever order it is told how far places are known, the same is known in the end.
-/
import Derived.Test.YtdlpcdehmpkedaaVecPlays
namespace Go.Proofs.Ytdlpcdehmpkedaa
open Go.RowKit
attribute [local go_sem ↓] Go.wp_at_zero Go.wp_at_succ
set_option linter.unusedVariables false

def r1 (a s : St) : St := if isS s.m s.c = true ∧ 0 < cmpS s a then s else a
theorem r1_comm (a s t : St) : r1 (r1 a s) t = r1 (r1 a t) s := by
  have key : ∀ x y : St, cmpS x y = 0 → x = y := fun x y h => St.ext' (cmpS_eq.1 h).1 (cmpS_eq.1 h).2
  unfold r1
  by_cases hs : isS s.m s.c = true
  · by_cases ht : isS t.m t.c = true
    · simp only [hs, ht, true_and]
      by_cases h1 : 0 < cmpS s a
      · by_cases h2 : 0 < cmpS t a
        · rw [if_pos h1, if_pos h2]
          by_cases h3 : 0 < cmpS t s
          · rw [if_pos h3, if_neg (by have := cmpS_neg s t; omega)]
          · rw [if_neg h3]
            by_cases h4 : 0 < cmpS s t
            · rw [if_pos h4]
            · rw [if_neg h4]; exact key _ _ (by have := cmpS_neg s t; omega)
        · rw [if_pos h1, if_neg h2, if_pos h1, if_neg]
          rw [cmpS_gt] at h1 h2 ⊢; omega
      · by_cases h2 : 0 < cmpS t a
        · rw [if_neg h1, if_pos h2, if_neg]
          rw [cmpS_gt] at h1 h2 ⊢; omega
        · rw [if_neg h1, if_neg h2, if_neg h1]
    · simp [ht]
  · simp [hs]
theorem raiseL_mod (l : List St) (i : Int) (s : St) : raiseL l i s = if 0 ≤ i then l.modify i.toNat (fun a => r1 a s) else l := by
  by_cases hi : 0 ≤ i
  · rw [if_pos hi]
    obtain ⟨k, rfl⟩ := Int.eq_ofNat_of_zero_le hi
    rw [Int.toNat_natCast]
    apply List.ext_getElem?
    intro j
    rw [List.getElem?_modify]
    unfold raiseL raiseOk
    rw [Int.toNat_natCast]
    by_cases hk : k < l.length
    · have hg : l.getD k .z = l[k] := by rw [List.getD_eq_getElem?_getD, List.getElem?_eq_getElem hk]; rfl
      rw [hg, decide_eq_true (show (0 : Int) ≤ (k : Int) ∧ (k : Int) < (l.length : Int) by omega), Bool.and_true]
      by_cases hw : isS s.m s.c = true ∧ 0 < cmpS s l[k]
      · rw [if_pos (by rw [hw.1, decide_eq_true hw.2]; rfl)]
        by_cases hj : k = j
        · subst hj
          simp [hk, r1, hw]
        · simp [List.getElem?_set_ne hj, hj]
      · rw [if_neg (by simpa using hw)]
        by_cases hj : k = j
        · subst hj
          have hr : r1 l[k] s = l[k] := by unfold r1; exact if_neg hw
          simp [hk, hr]
        · simp [hj]
    · have hd : decide ((0 : Int) ≤ (k : Int) ∧ (k : Int) < (l.length : Int)) = false := by simp; omega
      rw [hd]
      simp only [Bool.and_false, Bool.false_and, if_false, Bool.false_eq_true]
      by_cases hj : k = j
      · subst hj; simp [List.getElem?_eq_none (by omega : l.length ≤ k)]
      · simp [hj]
  · rw [if_neg hi]
    unfold raiseL raiseOk
    have hd : decide ((0 : Int) ≤ i ∧ i < (l.length : Int)) = false := by simp; omega
    rw [hd]; simp
theorem mod_comm (l : List St) (i j : Nat) (s t : St) : (l.modify i (fun a => r1 a s)).modify j (fun a => r1 a t) = (l.modify j (fun a => r1 a t)).modify i (fun a => r1 a s) := by
  apply List.ext_getElem?
  intro k
  simp only [List.getElem?_modify]
  cases l[k]? with
  | none => simp
  | some a =>
    by_cases h1 : i = k <;> by_cases h2 : j = k <;> simp [h1, h2, r1_comm]
theorem raiseL_comm (l : List St) (i j : Int) (s t : St) : raiseL (raiseL l i s) j t = raiseL (raiseL l j t) i s := by
  simp only [raiseL_mod]
  by_cases hi : 0 ≤ i <;> by_cases hj : 0 ≤ j <;> simp [hi, hj, mod_comm]
def raiseAll (z : List St) (l : List (Int × St)) : List St := l.foldl (fun ks a => raiseL ks a.1 a.2) z
theorem raiseAll_snoc (z : List St) (l : List (Int × St)) (a : Int × St) : raiseAll z (l ++ [a]) = raiseL (raiseAll z l) a.1 a.2 := by simp [raiseAll]
theorem raiseAll_out (l : List (Int × St)) : ∀ (z : List St) (a : Int × St), raiseAll (raiseL z a.1 a.2) l = raiseL (raiseAll z l) a.1 a.2 := by
  induction l with
  | nil => intro z a; rfl
  | cons b l ih => intro z a; show raiseAll (raiseL (raiseL z a.1 a.2) b.1 b.2) l = _; rw [raiseL_comm, ih]; rfl
theorem raiseAll_rev (z : List St) (l : List (Int × St)) : raiseAll z l.reverse = raiseAll z l := by
  induction l with
  | nil => rfl
  | cons a l ih => rw [List.reverse_cons, raiseAll_snoc, ih]; exact (raiseAll_out l z a).symm
theorem raiseAll_len (z : List St) (l : List (Int × St)) : (raiseAll z l).length = z.length := by
  induction l generalizing z with
  | nil => rfl
  | cons a l ih => show (raiseAll (raiseL z a.1 a.2) l).length = _; rw [ih, raiseL_len]
theorem list_of {α : Type} (n : Nat) (P : Nat → α → Prop) (h : ∀ k, k < n → ∃ a, P k a) : ∃ l : List α, l.length = n ∧ ∀ (k : Nat) (hk : k < l.length), P k l[k] := by
  induction n with
  | zero => exact ⟨[], rfl, fun k hk => absurd hk (by simp)⟩
  | succ n ih =>
    obtain ⟨l, h1, h2⟩ := ih (fun k hk => h k (by omega))
    obtain ⟨a, ha⟩ := h n (by omega)
    refine ⟨l ++ [a], by simp [h1], fun k hk => ?_⟩
    by_cases hkl : k < l.length
    · rw [List.getElem_append_left hkl]; exact h2 k hkl
    · have : k = n := by simp at hk; omega
      subst this
      rw [List.getElem_append_right (by omega)]
      simp [h1]; exact ha

set_option maxRecDepth 100000 in
set_option maxHeartbeats 6400000 in
theorem vecTurns_walk (w : World) (pl : Int) (_ : (Lit.int .i64 pl).wf = true) (A : Option Addr) (n c : Nat) (hr : RdI w 4 A n) (_ : n ≤ c) (hcm : c ≤ maxLen) :
    Calls Try.prog 7 #[.int .i64 pl, .slice A n c] w fun e w' => e = .returned (.bool true) ∧ Chg [] w w' := by
  have hnm : n ≤ 9223372036854775807 := by unfold maxLen at hcm; omega
  by_cases hin : 1 ≤ pl ∧ pl ≤ 5 ∧ n ≤ 200
  · obtain ⟨h0, h1, hn2⟩ := hin
    obtain ⟨acts, hal, hacts⟩ := list_of (α := Int × St) n (fun k a => ∃ ad : Addr, A = some ad ∧ ad.block < w.heap.size ∧ w.cell? ⟨(ad.add (k * 4)).block, (ad.add (k * 4)).off + 1, none⟩ = some (.int .i64 a.1) ∧ w.cell? ⟨(ad.add (k * 4)).block, (ad.add (k * 4)).off + 2, none⟩ = some (.int .i64 a.2.m) ∧ w.cell? ⟨(ad.add (k * 4)).block, (ad.add (k * 4)).off + 3, none⟩ = some (.int .i64 a.2.c)) (fun k hk => by
        obtain ⟨ad, a, b, c, d, e, h2, h3, h4, h5, h6⟩ := hr.get4 hk
        exact ⟨(b, ⟨c, d⟩), ad, e, h2, h4, h5, h6⟩)
    have HAL := Lib.hid hal
    have HACT := Lib.hid hacts
    clear hal hacts
    obtain ⟨np, Hnp⟩ : ∃ np, Hid (pl.toNat = np) := ⟨_, rfl⟩
    have hnp : np ≤ 5 := by rw [← Hnp.out]; omega
    have hpl : pl = (np : Int) := by rw [← Hnp.out]; omega
    subst hpl
    obtain ⟨Z, HZ⟩ : ∃ Z, Hid (List.replicate np St.z = Z) := ⟨_, rfl⟩
    have HZl : Hid (Z.length = np) := by unfold Hid; rw [← HZ.out]; simp
    go_enter Try.func7, Try.ntmps7
    go_wp2_with (fail)
    refine (new_yes _ (np : Int) h0 h1).mono ?_
    rw [Int.toNat_natCast]
    rintro e w1 ⟨B1, k1, f1, rfl, hV1, a1, a2, a3, hch1⟩
    rw [HZ.out] at hV1
    have b1 := hV1.at_.lt
    have b2 := At.lt hV1.ks_
    have b3 := At.lt hV1.fs_
    go_wp2_with (fail)
    refine (new_yes _ (np : Int) h0 h1).mono ?_
    rw [Int.toNat_natCast]
    rintro e w2 ⟨B2, k2, f2, rfl, hX2, a4, a5, a6, hch2⟩
    rw [HZ.out] at hX2
    have hV2 := hV1.keep0 hch2
    have b4 := hX2.at_.lt
    have b5 := At.lt hX2.ks_
    have b6 := At.lt hX2.fs_
    have hsz1 := hch1.size
    have hch12 := hch1.trans hch2 (by simp)
    clear hch1 hch2 hV1
    have n1 : B1 < w1.heap.size ∧ k1 < w1.heap.size ∧ f1 < w1.heap.size ∧ w1.heap.size ≤ B2 ∧ w1.heap.size ≤ k2 ∧ w1.heap.size ≤ f2 ∧ w.heap.size ≤ B1 ∧ w.heap.size ≤ k1 ∧ w.heap.size ≤ f1 := ⟨b1, b2, b3, a4, a5, a6, a1, a2, a3⟩
    obtain ⟨m1, m2, m3, m4, m5, m6, m7, m8, m9⟩ := n1
    have HS1 : Hid (VecAt w2 45 B1 k1 f1 (raiseAll Z (acts.take 0)) (raiseAll Z (acts.take 0))) := hV2
    have HS2 : Hid (VecAt w2 45 B2 k2 f2 (raiseAll Z (acts.reverse.take 0)) (raiseAll Z (acts.reverse.take 0))) := hX2
    clear hV2 hX2 b1 b2 b3 b4 b5 b6 a1 a2 a3 a4 a5 a6
    go_wp2_with (fail)
    go_loopg [9] n (fun g i wr => ∃ k : Nat, g = n - k ∧ k ≤ n ∧ i = .int .i64 k ∧ Hid (VecAt wr 45 B1 k1 f1 (raiseAll Z (acts.take k)) (raiseAll Z (acts.take k))) ∧ Hid (VecAt wr 45 B2 k2 f2 (raiseAll Z (acts.reverse.take k)) (raiseAll Z (acts.reverse.take k))) ∧ Chg [] w wr)
    case atStart => exact ⟨0, rfl, Nat.zero_le _, rfl, HS1, HS2, hch12⟩
    case round =>
      clear HS1 HS2 hch12
      obtain ⟨k, hg, hk, rfl, HV1, HV2, hch⟩ := hrel
      have Hg := Lib.hid hg
      clear hg
      by_cases hlt : k < n
      · have hka : k < acts.length := by rw [HAL.out]; exact hlt
        obtain ⟨m, hm⟩ : ∃ m, n - 1 - k = m := ⟨_, rfl⟩
        have hma : m < acts.length := by rw [HAL.out]; omega
        have hmn : m < n := by omega
        have Hm : Hid (acts.length - 1 - k = m) := by unfold Hid; rw [HAL.out]; exact hm
        have hmi : ((n : Int) - 1 - (k : Int)) = (m : Int) := by omega
        obtain ⟨ad, rfl, had, hx1, hx2, hx3⟩ := HACT.out k hka
        obtain ⟨ad', had', _, hy1, hy2, hy3⟩ := HACT.out m hma
        injection had' with had'
        subst had'
        have HK1 : Hid (raiseL (raiseAll Z (acts.take k)) acts[k].1 acts[k].2 = raiseAll Z (acts.take (k + 1))) := by unfold Hid; rw [List.take_succ_eq_append_getElem hka, raiseAll_snoc]
        have HK3 : Hid (raiseL (raiseAll Z (acts.reverse.take k)) acts[m].1 acts[m].2 = raiseAll Z (acts.reverse.take (k + 1))) := by
          have hkr : k < acts.reverse.length := by rw [List.length_reverse]; exact hka
          have hme : acts.reverse[k] = acts[m] := by rw [List.getElem_reverse]; congr 1
          unfold Hid; rw [List.take_succ_eq_append_getElem hkr, raiseAll_snoc, hme]
        generalize acts[k] = ak at *
        generalize acts[m] = am at *
        obtain ⟨ni, ⟨si, ci⟩⟩ := ak
        obtain ⟨nj, ⟨sj, cj⟩⟩ := am
        simp only at hx1 hx2 hx3 hy1 hy2 hy3
        have HCk : Hid (∀ wX : World, Chg [] w wX → wX.cell? ⟨(ad.add (k * 4)).block, (ad.add (k * 4)).off + 1, none⟩ = some (.int .i64 ni) ∧ wX.cell? ⟨(ad.add (k * 4)).block, (ad.add (k * 4)).off + 2, none⟩ = some (.int .i64 si) ∧ wX.cell? ⟨(ad.add (k * 4)).block, (ad.add (k * 4)).off + 3, none⟩ = some (.int .i64 ci)) := fun wX h =>
          ⟨(h.cell (p := ⟨(ad.add (k * 4)).block, _, none⟩) (by rw [add_block]; exact had) (by simp)).trans hx1, (h.cell (p := ⟨(ad.add (k * 4)).block, _, none⟩) (by rw [add_block]; exact had) (by simp)).trans hx2, (h.cell (p := ⟨(ad.add (k * 4)).block, _, none⟩) (by rw [add_block]; exact had) (by simp)).trans hx3⟩
        have HCm : Hid (∀ wX : World, Chg [] w wX → wX.cell? ⟨(ad.add (m * 4)).block, (ad.add (m * 4)).off + 1, none⟩ = some (.int .i64 nj) ∧ wX.cell? ⟨(ad.add (m * 4)).block, (ad.add (m * 4)).off + 2, none⟩ = some (.int .i64 sj) ∧ wX.cell? ⟨(ad.add (m * 4)).block, (ad.add (m * 4)).off + 3, none⟩ = some (.int .i64 cj)) := fun wX h =>
          ⟨(h.cell (p := ⟨(ad.add (m * 4)).block, _, none⟩) (by rw [add_block]; exact had) (by simp)).trans hy1, (h.cell (p := ⟨(ad.add (m * 4)).block, _, none⟩) (by rw [add_block]; exact had) (by simp)).trans hy2, (h.cell (p := ⟨(ad.add (m * 4)).block, _, none⟩) (by rw [add_block]; exact had) (by simp)).trans hy3⟩
        clear hx1 hx2 hx3 hy1 hy2 hy3 hm Hm
        have HK2 := HK1
        have HK4 := HK3
        obtain ⟨q1, HR1⟩ : ∃ r, Hid (raiseOk (raiseAll Z (acts.take k)) ni ⟨si, ci⟩ = r) := ⟨_, rfl⟩
        have HR2 := HR1
        obtain ⟨q3, HR3⟩ : ∃ r, Hid (raiseOk (raiseAll Z (acts.reverse.take k)) nj ⟨sj, cj⟩ = r) := ⟨_, rfl⟩
        have HR4 := HR3
        have i0 : (0 : Int) ≤ (k : Int) := by omega
        have i1 : (k : Int) < (n : Int) := by omega
        have i2 : (0 : Int) ≤ (m : Int) := by omega
        have i3 : (m : Int) < (n : Int) := by omega
        have e1 : IntKind.i64.wrap ((n : Int) - 1) = (n : Int) - 1 := IntWalk.i64_in _ (by omega)
        have e2 : IntKind.i64.wrap ((n : Int) - 1 - (k : Int)) = (m : Int) := by rw [hmi]; exact IntWalk.i64_in _ (by omega)
        have e3 : IntKind.i64.wrap (m : Int) = (m : Int) := IntWalk.i64_in _ (by omega)
        clear hka hma
        obtain ⟨x1, x2, x3⟩ := HCk.out _ hch
        have hpl := hch.size
        go_wp2_with (fail)
        go_region_held3 (fun w' => w'.cell? ⟨(ad.add (k * 4)).block, (ad.add (k * 4)).off + 1, none⟩ = some (.int .i64 ni) ∧ w'.cell? ⟨(ad.add (k * 4)).block, (ad.add (k * 4)).off + 2, none⟩ = some (.int .i64 si) ∧ w'.cell? ⟨(ad.add (k * 4)).block, (ad.add (k * 4)).off + 3, none⟩ = some (.int .i64 ci)) (first | go_keep | exact HCk.out _ hch3)
          (first
            | (go_at_call 12; refine (reach_to _ B1 k1 f1 _ _ ni si ci (HV1.out.keep0 ((Chg.refl _ _).drewN 1)) HR1.out HK1.out).mono ?_; rintro e w3 ⟨rfl, hVn, hchn⟩; have hO := (HV2.out.keep0 ((Chg.refl _ _).drewN 1)).keep hchn (by simp; omega) (by simp; omega) (by simp; omega); have hch3 : Chg [] w w3 := (hch.drewN 1).trans hchn (by simp; omega)))
        have HV1 := Lib.hid hVn
        have HV2 := Lib.hid hO
        clear hVn hO hchn x1 x2 x3
        obtain ⟨x1, x2, x3⟩ := HCk.out _ hch3
        have hpl := hch3.size
        go_wp2_with (fail)
        go_region_held3 (fun w' => w'.cell? ⟨(ad.add (k * 4)).block, (ad.add (k * 4)).off + 1, none⟩ = some (.int .i64 ni) ∧ w'.cell? ⟨(ad.add (k * 4)).block, (ad.add (k * 4)).off + 2, none⟩ = some (.int .i64 si) ∧ w'.cell? ⟨(ad.add (k * 4)).block, (ad.add (k * 4)).off + 3, none⟩ = some (.int .i64 ci)) (first | go_keep | exact HCk.out _ hch4)
          (first
            | (go_at_call 18; refine (floor_to _ B1 k1 f1 _ _ ni si ci (HV1.out.keep0 ((Chg.refl _ _).drewN 1)) HR2.out HK2.out).mono ?_; rintro e w4 ⟨rfl, hVn, hchn⟩; have hO := (HV2.out.keep0 ((Chg.refl _ _).drewN 1)).keep hchn (by simp; omega) (by simp; omega) (by simp; omega); have hch4 : Chg [] w w4 := (hch3.drewN 1).trans hchn (by simp; omega)))
        have HV1 := Lib.hid hVn
        have HV2 := Lib.hid hO
        clear hVn hO hchn x1 x2 x3
        obtain ⟨x1, x2, x3⟩ := HCm.out _ hch4
        have hpl := hch4.size
        go_wp2_with (fail)
        go_region_held3 (fun w' => w'.cell? ⟨(ad.add (m * 4)).block, (ad.add (m * 4)).off + 1, none⟩ = some (.int .i64 nj) ∧ w'.cell? ⟨(ad.add (m * 4)).block, (ad.add (m * 4)).off + 2, none⟩ = some (.int .i64 sj) ∧ w'.cell? ⟨(ad.add (m * 4)).block, (ad.add (m * 4)).off + 3, none⟩ = some (.int .i64 cj)) (first | go_keep | exact HCm.out _ hch5)
          (first
            | (go_at_call 12; refine (reach_to _ B2 k2 f2 _ _ nj sj cj (HV2.out.keep0 ((Chg.refl _ _).drewN 1)) HR3.out HK3.out).mono ?_; rintro e w5 ⟨rfl, hVn, hchn⟩; have hO := (HV1.out.keep0 ((Chg.refl _ _).drewN 1)).keep hchn (by simp; omega) (by simp; omega) (by simp; omega); have hch5 : Chg [] w w5 := (hch4.drewN 1).trans hchn (by simp; omega)))
        have HV2 := Lib.hid hVn
        have HV1 := Lib.hid hO
        clear hVn hO hchn x1 x2 x3
        obtain ⟨x1, x2, x3⟩ := HCm.out _ hch5
        have hpl := hch5.size
        go_wp2_with (fail)
        go_region_held3 (fun w' => w'.cell? ⟨(ad.add (m * 4)).block, (ad.add (m * 4)).off + 1, none⟩ = some (.int .i64 nj) ∧ w'.cell? ⟨(ad.add (m * 4)).block, (ad.add (m * 4)).off + 2, none⟩ = some (.int .i64 sj) ∧ w'.cell? ⟨(ad.add (m * 4)).block, (ad.add (m * 4)).off + 3, none⟩ = some (.int .i64 cj)) (first | go_keep | exact HCm.out _ hch6)
          (first
            | (go_at_call 18; refine (floor_to _ B2 k2 f2 _ _ nj sj cj (HV2.out.keep0 ((Chg.refl _ _).drewN 1)) HR4.out HK4.out).mono ?_; rintro e w6 ⟨rfl, hVn, hchn⟩; have hO := (HV1.out.keep0 ((Chg.refl _ _).drewN 1)).keep hchn (by simp; omega) (by simp; omega) (by simp; omega); have hch6 : Chg [] w w6 := (hch5.drewN 1).trans hchn (by simp; omega)))
        have HV2 := Lib.hid hVn
        have HV1 := Lib.hid hO
        clear hVn hO hchn x1 x2 x3
        go_wp2_with (fail)
        go_roundg (n - (k + 1))
        case rel => exact ⟨k + 1, rfl, by omega, by go_num, HV1, HV2, hch6⟩
        case measure => have := Hg.out; omega
      · obtain rfl : k = n := by omega
        obtain ⟨K, HK⟩ : ∃ K, Hid (raiseAll Z acts = K) := ⟨_, rfl⟩
        have hV := HV1.out
        have hX := HV2.out
        rw [List.take_of_length_le (by rw [HAL.out]; exact Nat.le_refl _), HK.out] at hV
        rw [List.take_of_length_le (by rw [List.length_reverse, HAL.out]; exact Nat.le_refl _), raiseAll_rev, HK.out] at hX
        have hKl : K.length ≤ 65536 := by have h := raiseAll_len Z acts; rw [HK.out, HZl.out] at h; omega
        obtain ⟨⟨Mm, Mc⟩, HM⟩ : ∃ M, Hid (minS K = M) := ⟨_, rfl⟩
        clear HV1 HV2
        go_wp2_with (fail)
        go_loopg [10] np (fun g i wr => ∃ j : Nat, g = np - j ∧ j ≤ np ∧ i = .int .i64 j ∧ VecAt wr 45 B1 k1 f1 K K ∧ VecAt wr 45 B2 k2 f2 K K ∧ Chg [] w wr)
        case atStart => exact ⟨0, rfl, Nat.zero_le _, rfl, hV, hX, hch⟩
        case round =>
          clear hV hX hch Hg
          obtain ⟨j, hg, hj, rfl, hV, hX, hch⟩ := hrel
          have Hg := Lib.hid hg
          clear hg
          by_cases hlt2 : j < np
          · obtain ⟨⟨qm, qc⟩, HQ⟩ : ∃ q, Hid (knownF K (j : Int) = q) := ⟨_, rfl⟩
            go_wp2_with (fail)
            refine (known_to _ B1 k1 f1 K K (j : Int) hV HQ.out).mono ?_
            rintro e w3 ⟨rfl, hch3⟩
            go_wp2_with (fail)
            refine (known_to _ B2 k2 f2 K K (j : Int) (hX.keep0 hch3) HQ.out).mono ?_
            rintro e w4 ⟨rfl, hch4⟩
            have hch34 := hch3.trans hch4 (by simp)
            go_wp2_with (fail)
            go_roundg (np - (j + 1))
            case rel => exact ⟨j + 1, rfl, by omega, by go_num, hV.keep0 hch34, hX.keep0 hch34, hch.trans hch34 (by simp)⟩
            case measure => have := Hg.out; omega
          · obtain rfl : j = np := by omega
            go_wp2_with (fail)
            refine (stable_to _ B1 k1 f1 K K hV hKl HM.out).mono ?_
            rintro e w3 ⟨rfl, hch3⟩
            go_wp2_with (fail)
            refine (stable_to _ B2 k2 f2 K K (hX.keep0 hch3) hKl HM.out).mono ?_
            rintro e w4 ⟨rfl, hch4a⟩
            have hch4 := hch3.trans hch4a (by simp)
            go_wp2_with (fail)
            refine (mark_to _ B1 k1 f1 K K (hV.keep0 hch4) hKl HM.out).mono ?_
            rintro e w5 ⟨rfl, hch5a⟩
            have hch5 := hch4.trans hch5a (by simp)
            go_wp2_with (fail)
            refine (mark_to _ B2 k2 f2 K K (hX.keep0 hch5) hKl HM.out).mono ?_
            rintro e w6 ⟨rfl, hch6a⟩
            have hch6 := hch5.trans hch6a (by simp)
            go_wp2_with (fail)
            refine (stable_to _ B1 k1 f1 K K (hV.keep0 hch6) hKl HM.out).mono ?_
            rintro e w7 ⟨rfl, hch7a⟩
            have hch7 := hch6.trans hch7a (by simp)
            go_wp2_with (fail)
            refine (mark_to _ B1 k1 f1 K K (hV.keep0 hch7) hKl HM.out).mono ?_
            rintro e w8 ⟨rfl, hch8a⟩
            have hch8 := hch7.trans hch8a (by simp)
            go_wp2_with (go_at_call 10; refine (known_any _).mono ?_; rintro e w9 ⟨rfl, hch9⟩)
            go_ret
            exact ⟨rfl, (hch.trans hch8 (by simp)).trans hch9 (by simp)⟩
  · have hfin : ∀ b0 : Int, b0 = pl → pl < 1 ∨ (1 ≤ pl ∧ 5 < pl) ∨ (1 ≤ pl ∧ pl ≤ 5 ∧ 200 < n) := fun _ _ => by omega
    have h := hfin pl rfl
    clear hfin hin
    rcases h with h | ⟨h0, h⟩ | ⟨h0, h1, h⟩
    all_goals
      go_enter Try.func7, Try.ntmps7
      go_wp2_with (go_at_call 10; refine (known_any _).mono ?_; rintro e w7 ⟨rfl, hch7⟩)
      go_ret
      exact ⟨rfl, hch7⟩
end Go.Proofs.Ytdlpcdehmpkedaa

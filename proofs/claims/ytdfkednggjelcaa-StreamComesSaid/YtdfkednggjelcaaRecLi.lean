
/-
  rec.List; the reference's List.
-/
import Derived.Test.YtdfkednggjelcaaRecS
import Derived.Test.YtdfkednggjelcaaMRecF
namespace Go.Proofs.Ytdfkednggjelcaa
open Go.RowKit
set_option linter.unusedVariables false

/-- What List tells: the bytes, the error. -/
def lstR (l : List Rc) : List UInt8 × Nat := if 64 < l.length then ([], 5) else if l.all isR then (encL l, 0) else ([], 1)
theorem lstR_5 {l : List Rc} (h : 64 < l.length) : lstR l = ([], 5) := by unfold lstR; rw [if_pos h]
theorem lstR_1 {l : List Rc} (h : l.length ≤ 64) {r : Rc} (hr : r ∈ l) (hn : isR r = false) : lstR l = ([], 1) := by
  unfold lstR; rw [if_neg (by omega), if_neg]
  rw [List.all_eq_true]; intro h1; rw [h1 r hr] at hn; cases hn
theorem lstR_0 {l : List Rc} (h : l.length ≤ 64) (hr : ∀ r ∈ l, isR r = true) : lstR l = (encL l, 0) := by
  unfold lstR; rw [if_neg (by omega), if_pos (List.all_eq_true.2 hr)]
def ListPost (w : World) (t : List UInt8 × Nat) (e : Ending) (w' : World) : Prop := ∃ A c, e = .returned (.tuple #[.slice A t.1.length c, .int .i64 t.2]) ∧ w'.ownsRow w.heap.size 5 1 (.slice A t.1.length c) t.1.length (cB t.1) ∧ Chg [] w w'
theorem ListPost.bad {w w' : World} {t : List UInt8 × Nat} (n : Nat) (ht : t = ([], n)) (h : Chg [] w w') : ListPost w t (.returned (.tuple #[.slice none 0 0, .int .i64 n])) w' := by
  subst ht
  exact ⟨none, 0, rfl, own_none _ _ _ _, h⟩
theorem rows_le (l : List Rc) (h : ∀ r ∈ l, isR r = true) : (encRows (l.map encR)).length ≤ 1200 * l.length := by
  induction l with
  | nil => simp [encRows]
  | cons r l ih =>
    have h1 := ih (fun q hq => h q (List.mem_cons_of_mem _ hq))
    have h2 := encR_small (isR_iff.1 (h r (by simp)))
    have h3 := enc_len9 (show (encR r).length ≤ 4611686018427387904 by omega)
    rw [List.map_cons, encRows_cons', List.length_append, List.length_append, List.length_cons]
    omega
theorem encRows_snoc1 (l : List (List UInt8)) (r : List UInt8) : encRows (l ++ [r]) = encRows l ++ encRows [r] := by simp [encRows]
theorem take_r {ls : List RcV} {k : Nat} (hk : k < ls.length) : (ls.take (k + 1)).map RcV.r = (ls.take k).map RcV.r ++ [ls[k].r] := by
  rw [List.take_succ_eq_append_getElem hk, List.map_append, List.map_singleton]

set_option maxRecDepth 100000 in
set_option maxHeartbeats 6400000 in
theorem recList_any (w : World) (A : Option Addr) (n c : Nat) (ls : List RcV) (hn : ls.length = n) (hr : Rd w 9 A ls.length (cRc ls)) (hrs : ∀ x ∈ ls, Rd w 1 x.A x.r.val.length (cB x.r.val)) (hls : ls.length ≤ 1099511627776) :
    Calls Try.prog 55 #[.slice A n c] w (ListPost w (lstR (ls.map RcV.r))) := by
  subst hn
  have HR := Lib.hid hr
  have HRS := Lib.hid hrs
  clear hr hrs
  by_cases h64 : 64 < ls.length
  · go_enter Try.func55, Try.ntmps55
    go_wp2_with (fail)
    go_ret2
    exact ListPost.bad 5 (lstR_5 (by simpa using h64)) (Chg.refl _ _)
  have h64' : ls.length ≤ 64 := by omega
  clear h64 hls
  have h1 : All w (w.alloc (.cells #[.slice none 0 0] 110)) [rWr w.heap.size none 0 []] := (All.start w).newWr rfl
  go_enter Try.func55, Try.ntmps55
  go_wp2_with (fail)
  have h2 := h1.quiet ((Chg.refl [] _).alloc (.cells #[.int .i64 (ls.length : Int)] 3))
  refine (nums_any w.heap.size [] _ _ none 0 (some ⟨w.heap.size + 1, 0, none⟩) 1 [(ls.length : Int)] [] (h2.get 0 rfl) (Rd.new' (by simp) rfl rfl) (by simp) (by simp) (Away.at (by simp [blk]))).mono ?_
  rintro e w3 ⟨rfl, A3, c3, hw3⟩
  have h3 := h2.wr hw3
  have hE0 : Hid (([] : List UInt8) ++ encs ([(ls.length : Int)].map clamp) = encs ([((ls.map RcV.r).length : Int)].map clamp)) := by unfold Hid; rw [List.length_map]; rfl
  have hE9 : (encs ([((ls.map RcV.r).length : Int)].map clamp)).length ≤ 9 := by
    have h1 := enc_len9 (clamp_le ((ls.map RcV.r).length : Int))
    simpa [encs] using h1
  rw [hE0.out] at h3
  obtain ⟨E0, hE0'⟩ : ∃ E0, Hid (encs ([((ls.map RcV.r).length : Int)].map clamp) = E0) := ⟨_, rfl⟩
  rw [hE0'.out] at h3 hE9
  clear h1 h2 hw3 hE0
  go_wp2_with (fail)
  go_loopw [18] (fun i wr => ∃ (k : Nat) (A4 : Option Addr) (c4 : Nat), k ≤ ls.length ∧ i = .int .i64 k ∧ Hid (∀ r ∈ (ls.take k).map RcV.r, isR r = true) ∧ All w wr [rWr w.heap.size A4 c4 (E0 ++ encRows (((ls.take k).map RcV.r).map encR))]) (fun i _ => ls.length - (intOf i).toNat)
  case atStart => exact ⟨0, A3, c3, Nat.zero_le _, rfl, by simp [Hid], by simpa [encRows] using h3⟩
  case round =>
    obtain ⟨k, A4, c4, hk, rfl, HI, h4⟩ := hrel
    by_cases hlt : k < ls.length
    · obtain ⟨ad, rfl, had, hc0, hc⟩ := (HR.out.keep0 h4.chg).getR hlt
      have hmem := List.getElem_mem hlt
      have HV := Lib.hid ((HRS.out _ hmem).keep0 h4.chg)
      have HT := Lib.hid (take_r hlt)
      have HME : Hid (ls[k].r ∈ ls.map RcV.r) := List.mem_map_of_mem hmem
      have hc1 := hc 1 _ (by omega) rfl
      have hc2 := hc 2 _ (by omega) rfl
      have hc3 := hc 3 _ (by omega) rfl
      have hc4 := hc 4 _ (by omega) rfl
      have hc5 := hc 5 _ (by omega) rfl
      have hc6 := hc 6 _ (by omega) rfl
      have hc7 := hc 7 _ (by omega) rfl
      have hc8 := hc 8 _ (by omega) rfl
      generalize ls[k] = r at *
      clear hc hmem
      obtain ⟨⟨o, q, key, m, c', vo, val, gone, ttl⟩, A', cp⟩ := r
      simp only at hc0 hc1 hc2 hc3 hc4 hc5 hc6 hc7 hc8 HT HV HME
      have hki : (k : Int) < (ls.length : Int) := by omega
      obtain ⟨s, hs⟩ : ∃ s, Hid (isR ⟨o, q, key, m, c', vo, val, gone, ttl⟩ = s) := ⟨_, rfl⟩
      cases s
      · go_wp2_with (fail)
        refine (recEncode_no _ o q key m c' vo A' val cp gone ttl hs.out).mono ?_
        rintro e w5 ⟨rfl, hch5⟩
        go_wp2_with (fail)
        go_ret2
        exact ListPost.bad 1 (lstR_1 (by simpa using h64') HME.out hs.out) ((h4.chg.alloc _).trans hch5 (by simp))
      · go_wp2_with (fail)
        refine (recEncode_yes _ o q key m c' vo A' val cp gone ttl hs.out (HV.out.alloc _)).mono ?_
        rintro e w5 ⟨A5, c5, rfl, hown5, hch5⟩
        have h5 := ((h4.quiet ((Chg.refl [] wr).alloc (.cells #[.int .i64 o, .int .i64 q, .string ⟨key.toArray⟩, .int .i64 m, .int .i64 c', .int .i64 vo, .slice A' val.length cp, .bool gone, .int .i64 ttl] 51))).row hch5 hown5).front 1 rfl
        have hsm := encR_small (isR_iff.1 hs.out)
        have HI2 : Hid (∀ r ∈ (ls.take (k + 1)).map RcV.r, isR r = true) := by
          intro r hr
          rw [HT.out] at hr
          rcases List.mem_append.1 hr with hr | hr
          · exact HI.out r hr
          · obtain rfl := List.mem_singleton.1 hr; exact hs.out
        have HE2 : Hid ((E0 ++ encRows (((ls.take k).map RcV.r).map encR)) ++ encRows [encR ⟨o, q, key, m, c', vo, val, gone, ttl⟩] = E0 ++ encRows (((ls.take (k + 1)).map RcV.r).map encR)) := by
          unfold Hid; rw [HT.out, List.map_append, List.map_singleton, encRows_snoc1, List.append_assoc]
        have hlb : (E0 ++ encRows (((ls.take k).map RcV.r).map encR)).length ≤ 100000 := by
          have h1 := rows_le _ HI.out
          have h2 : ((ls.take k).map RcV.r).length ≤ 64 := by simp; omega
          rw [List.length_append]; omega
        obtain ⟨E, hE⟩ : ∃ E, Hid (encR ⟨o, q, key, m, c', vo, val, gone, ttl⟩ = E) := ⟨_, rfl⟩
        rw [hE.out] at h5 hsm HE2 ⊢
        clear hc0 hc1 hc2 hc3 hc4 hc5 hc6 hc7 hc8 HT h4 hch5 hown5 hE HV HME had
        generalize E0 ++ encRows (((ls.take k).map RcV.r).map encR) = P at *
        have zB := (h5.rng 0 rfl w.heap.size (by simp [rWr])).2
        go_wp2_with (fail)
        have h6 := h5.quiet ((Chg.refl [] _).alloc (.cells #[.slice A5 E.length c5] 47))
        have hrE := Rd.of_own (h6.get 1 rfl)
        refine (bytes_any w.heap.size (blk A4) _ _ A4 c4 (some ⟨w5.heap.size, 0, none⟩) 1 [⟨A5, c5, E⟩] P (h6.get 0 rfl) (Rd.new' rfl rfl rfl) ?_ ?_ ?_ ?_ (by simp)).mono ?_
        · intro r hr
          obtain rfl := List.mem_singleton.1 hr
          exact hrE
        · intro j hj
          have h1 := enc_len9 (show E.length ≤ 4611686018427387904 by omega)
          have h01 : j = 0 ∨ j = 1 := by simp at hj; omega
          rcases h01 with rfl | rfl
          · simp [encRows]; omega
          · simp [encRows]; omega
        · refine Away.at (fun hx => ?_)
          have := (h5.rng 0 rfl _ hx).2
          omega
        · intro r hr
          obtain rfl := List.mem_singleton.1 hr
          intro _ x hx hm
          exact h5.apart 0 rfl x hx hm
        rintro e w7 ⟨rfl, A7, c7, hw7⟩
        have h7 := h6.wr hw7
        have hE8 : Hid (P ++ encRows (List.map SlB.bs [⟨A5, c5, E⟩]) = P ++ encRows [E]) := rfl
        rw [hE8.out, HE2.out] at h7
        go_wp2_with (fail)
        go_roundw
        case rel => exact ⟨k + 1, A7, c7, by omega, by go_num, HI2, (h7.front 1 rfl).tail⟩
        case measure => simp [intOf]; omega
    · obtain rfl : k = ls.length := by omega
      rw [List.take_length] at HI h4
      have HL : Hid (lstR (ls.map RcV.r) = (E0 ++ encRows ((ls.map RcV.r).map encR), 0)) := by
        unfold Hid; rw [lstR_0 (by simpa using h64') HI.out, ← hE0'.out]; rfl
      have hlb : (E0 ++ encRows ((ls.map RcV.r).map encR)).length ≤ 100000 := by
        have h1 := rows_le _ HI.out
        have h2 : (ls.map RcV.r).length ≤ 64 := by simp; omega
        rw [List.length_append]; omega
      generalize E0 ++ encRows ((ls.map RcV.r).map encR) = P at *
      go_wp2_with (fail)
      refine (out_any w.heap.size wr (blk A4) _ A4 c4 P (h4.get 0 rfl) (by omega)).mono ?_
      rintro e w8 ⟨A8, c8, rfl, hown8, hch8⟩
      go_wp2_with (fail)
      go_ret2
      rw [HL.out]
      exact ⟨A8, c8, rfl, own_up hown8 h4.chg.size, h4.chg.trans hch8 (by simp)⟩
end Go.Proofs.Ytdfkednggjelcaa

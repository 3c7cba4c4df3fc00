
/-
  RecMost: the walk of the law.
-/
import Derived.Test.YtlccjdcmhfhoeaaRecLists
namespace Go.Proofs.Ytlccjdcmhfhoeaa
open Go.RowKit
set_option linter.unusedVariables false

theorem cRc_rep (x : RcV) (k : Nat) : cRc (List.replicate k x) ++ cRc [x] = cRc (List.replicate (k + 1) x) := by
  rw [← cRc_app, List.replicate_succ']

set_option maxRecDepth 100000 in
set_option maxHeartbeats 6400000 in
theorem recMost_law (w : World) (n : Int) (hn : (Lit.int .i64 n).wf = true) (x : RcV) (hx : x.In w) :
    Calls Try.prog 10 #[.int .i64 n, .agg x.cells.toArray] w fun e w' => e = .returned (.bool true) ∧ Chg [] w w' := by
  rw [x.arr]
  obtain ⟨i1, hi1, hy0, hy1, hy2⟩ := info_parts info_rec
  obtain ⟨⟨o, q, key, m, c, vo, val, gone, ttl⟩, A, cp⟩ := x
  obtain ⟨rx, _, _, kx, vx, _⟩ := hx
  simp only at rx kx vx ⊢
  have RX := Lib.hid rx
  clear rx hn
  have h1 := (All.start w).newAt 28 #[.int .i64 o, .int .i64 q, .string ⟨key.toArray⟩, .int .i64 m, .int .i64 c, .int .i64 vo, .slice A val.length cp, .bool gone, .int .i64 ttl] rfl
  by_cases c1 : n < 0
  · go_enter Try.func10, Try.ntmps10
    go_wp2_with (go_at_call 14; (with_reducible refine (knownR_any _).mono ?_); rintro e w9 ⟨rfl, hch9⟩)
    go_ret
    exact ⟨rfl, h1.chg.trans hch9 (by simp)⟩
  by_cases c2 : 80 < n
  · go_enter Try.func10, Try.ntmps10
    go_wp2_with (go_at_call 14; (with_reducible refine (knownR_any _).mono ?_); rintro e w9 ⟨rfl, hch9⟩)
    go_ret
    exact ⟨rfl, h1.chg.trans hch9 (by simp)⟩
  by_cases c3 : 50 < key.length
  · have c3' : (50 : Int) < (key.length : Int) := by omega
    go_enter Try.func10, Try.ntmps10
    go_wp2_with (go_at_call 14; (with_reducible refine (knownR_any _).mono ?_); rintro e w9 ⟨rfl, hch9⟩)
    go_ret
    exact ⟨rfl, h1.chg.trans hch9 (by simp)⟩
  by_cases c4 : 50 < val.length
  · have c3' : ¬ (50 : Int) < (key.length : Int) := by omega
    have c4' : (50 : Int) < (val.length : Int) := by omega
    go_enter Try.func10, Try.ntmps10
    go_wp2_with (go_at_call 14; (with_reducible refine (knownR_any _).mono ?_); rintro e w9 ⟨rfl, hch9⟩)
    go_ret
    exact ⟨rfl, h1.chg.trans hch9 (by simp)⟩
  have c3' : ¬ (50 : Int) < (key.length : Int) := by omega
  have c4' : ¬ (50 : Int) < (val.length : Int) := by omega
  obtain ⟨nn, rfl⟩ := Int.eq_ofNat_of_zero_le (show 0 ≤ n by omega)
  have hn80 : nn ≤ 80 := by omega
  clear c1 c2 c3 c4 kx vx
  go_enter Try.func10, Try.ntmps10
  go_wp2_with (fail)
  obtain ⟨s, hs⟩ : ∃ s, Hid (isR ⟨o, q, key, m, c, vo, val, gone, ttl⟩ = s) := ⟨_, rfl⟩
  (with_reducible refine (refIsR_to _ o q key m c vo A val cp gone ttl s hs.out).mono ?_)
  rintro e w1 ⟨rfl, hch1⟩
  have h2 := h1.quiet hch1
  clear h1 hch1
  cases s
  · go_wp2_with (go_at_call 14; (with_reducible refine (knownR_any _).mono ?_); rintro e w9 ⟨rfl, hch9⟩)
    go_ret
    exact ⟨rfl, h2.chg.trans hch9 (by simp)⟩
  · go_wp2_with (fail)
    go_loopw [5, 6] (fun s i wr => ∃ (k : Nat) (A2 : Option Addr) (c2 : Nat), k ≤ nn ∧ i = .int .i64 k ∧ s = .slice A2 k c2 ∧ wr.ownsRow w1.heap.size 28 9 (.slice A2 k c2) k (cRc (List.replicate k ⟨⟨o, q, key, m, c, vo, val, gone, ttl⟩, A, cp⟩)) ∧ Chg [] w1 wr) (fun _ i _ => nn - (intOf i).toNat)
    case atStart => exact ⟨0, none, 0, Nat.zero_le _, rfl, rfl, own_none _ _ _ _, Chg.refl _ _⟩
    case round =>
      obtain ⟨k, A2, c2, hk, rfl, rfl, hown, hch⟩ := hrel
      by_cases hlt : k < nn
      · have h3 := h2.quiet hch
        have hat := h3.get 0 rfl
        have zb := hat.lt
        have a0 := hat.cell 0
        have a1 := hat.cell 1
        have a2 := hat.cell 2
        have a3 := hat.cell 3
        have a4 := hat.cell 4
        have a5 := hat.cell 5
        have a6 := hat.cell 6
        have a7 := hat.cell 7
        have a8 := hat.cell 8
        simp only [List.getElem?_toArray, List.getElem?_cons_zero, List.getElem?_cons_succ] at a0 a1 a2 a3 a4 a5 a6 a7 a8
        have hki : (k : Int) < (nn : Int) := by omega
        have hsz := hch.size
        clear hat
        go_wp2_with (at_builtin; refine wpList_append_rd _ rfl (.tmp 41) (.tmp 43) 30 (by rfl) w1.heap.size 28 i1 _ 9 96 Try.underlying30 hi1 hy0 hy1 hy2 rfl (by omega) (.slice A2 k c2) k (cRc (List.replicate k ⟨⟨o, q, key, m, c, vo, val, gone, ttl⟩, A, cp⟩)) (by rfl) (hown.alloc _) (some ⟨wr.heap.size, 0, none⟩) 1 1 (cRc [⟨⟨o, q, key, m, c, vo, val, gone, ttl⟩, A, cp⟩]) (by rfl) (Rd.new' rfl rfl rfl) (cRc_one _) (by unfold maxLen; omega) (by omega) (by simp; omega) ?_; intro A3 c3 w3 hown3 hg3 hb3)
        rw [cRc_rep] at hown3
        go_roundw
        case rel => exact ⟨k + 1, A3, c3, by omega, by go_num, rfl, hown3, (hch.alloc _).grown hg3 (fun j hj => .inr (hown.lt j hj).1)⟩
        case measure => simp [intOf]; omega
      · obtain rfl : k = nn := by omega
        have hcw := h2.chg.trans hch (by simp)
        have hRX : Hid (∀ w', Chg [] wr w' → ∀ x ∈ List.replicate k (⟨⟨o, q, key, m, c, vo, val, gone, ttl⟩, A, cp⟩ : RcV), Rd w' 1 x.A x.r.val.length (cB x.r.val)) := fun w' hc x hx => by
          obtain rfl := (List.mem_replicate.1 hx).2
          exact RX.out.keep0 (hcw.trans hc (by simp))
        have hlen : Hid ((List.replicate k (⟨⟨o, q, key, m, c, vo, val, gone, ttl⟩, A, cp⟩ : RcV)).length = k) := by simp [Hid]
        have hmp : Hid ((List.replicate k (⟨⟨o, q, key, m, c, vo, val, gone, ttl⟩, A, cp⟩ : RcV)).map RcV.r = List.replicate k ⟨o, q, key, m, c, vo, val, gone, ttl⟩) := by simp [Hid]
        have h5 := Lib.hid (fun h => lstR_5 (l := List.replicate k (⟨o, q, key, m, c, vo, val, gone, ttl⟩ : Rc)) h)
        have h0 := Lib.hid (fun h => lstR_0 (l := List.replicate k (⟨o, q, key, m, c, vo, val, gone, ttl⟩ : Rc)) h (fun r hr => by obtain rfl := (List.mem_replicate.1 hr).2; exact hs.out))
        have hL : Hid (Calls Try.prog 28 #[.slice A2 k c2] wr (ListPost wr (lstR (List.replicate k ⟨o, q, key, m, c, vo, val, gone, ttl⟩)))) := by
          have h := recList_any wr A2 k c2 _ hlen.out (by rw [hlen.out]; exact Rd.of_own hown) (hRX.out wr (Chg.refl _ _)) (by rw [hlen.out]; omega)
          rw [hmp.out] at h; exact h
        have hll := lstR_len (l := List.replicate k (⟨o, q, key, m, c, vo, val, gone, ttl⟩ : Rc))
        have hbk := Lib.hid (fun h => lstR_back (l := List.replicate k (⟨o, q, key, m, c, vo, val, gone, ttl⟩ : Rc)) h)
        have hml : Hid ((List.replicate k (⟨o, q, key, m, c, vo, val, gone, ttl⟩ : Rc)).length = k) := by simp [Hid]
        rw [hml.out] at h5 h0
        obtain ⟨t, ht⟩ : ∃ t, Hid (lstR (List.replicate k (⟨o, q, key, m, c, vo, val, gone, ttl⟩ : Rc)) = t) := ⟨_, rfl⟩
        rw [ht.out] at h5 h0 hL hll hbk
        obtain ⟨E, z⟩ := t
        unfold ListPost at hL
        simp only at hL hll hbk
        have hrr := Rd.of_own hown
        clear ht
        by_cases h64 : 64 < k
        · have h6 := h5.out h64
          simp only [Prod.mk.injEq] at h6
          obtain ⟨rfl, rfl⟩ := h6
          have h64I : (64 : Int) < (k : Int) := by omega
          go_wp2_with (fail)
          refine hL.out.mono ?_
          rintro e w3 ⟨A3, c3, rfl, _, hch3⟩
          clear h5 h0 hbk hL
          go_wp2_with (go_at_call 14; (with_reducible refine (knownR_any _).mono ?_); rintro e w9 ⟨rfl, hch9⟩)
          go_ret
          exact ⟨rfl, hcw.trans (hch3.trans hch9 (by simp)) (by simp)⟩
        · have h6 := h0.out (by omega)
          simp only [Prod.mk.injEq] at h6
          have hz := h6.2
          subst hz
          have hdl := Lib.hid (hbk.out rfl).1
          have h64I : ¬ (64 : Int) < (k : Int) := by omega
          clear h6 h5 h0 hbk
          go_wp2_with (fail)
          refine hL.out.mono ?_
          rintro e w3 ⟨A3, c3, rfl, hown3, hch3⟩
          have HRL := Lib.hid (recReadList_any w3 A3 _ c3 E rfl (Rd.of_own hown3) (by omega))
          unfold RListPost at HRL
          rw [hdl.out] at HRL
          simp only [Option.isSome_some, if_true, Option.getD_some] at HRL
          clear hL hown3
          go_wp2_with (fail)
          refine HRL.out.mono ?_
          rintro e w6 ⟨A6, c6, ls6, rfl, hls6, hown6, hO6, hch6⟩
          have r6 := Lib.hid (Rd.of_own hown6)
          have R6 := Lib.hid (fun (x : RcV) (hx : x ∈ ls6) => (Rd.of_own (hO6 x hx) : Rd w6 1 x.A x.r.val.length (cB x.r.val)))
          have HLS := Lib.hid (hls6.trans hmp.out.symm)
          have hc36 := hch3.trans hch6 (by simp)
          have RV6 := Lib.hid (hRX.out w6 hc36)
          have hl6 : ls6.length ≤ 300 := by have := congrArg List.length hls6; simp at this; omega
          have hr6 := hrr.keep0 hc36
          clear hown6 hO6 hls6 HRL
          go_wp2_with (fail)
          (with_reducible refine (records_yes _ _ _ _ _ _ _ ls6 _ HLS.out rfl hlen.out r6.out (by rw [hlen.out]; exact hr6) R6.out RV6.out (by omega)).mono ?_)
          rintro e w7 ⟨rfl, hch7⟩
          go_wp2_with (go_at_call 14; (with_reducible refine (knownR_any _).mono ?_); rintro e w9 ⟨rfl, hch9⟩)
          go_ret
          exact ⟨rfl, hcw.trans (hc36.trans (hch7.trans hch9 (by simp)) (by simp)) (by simp)⟩
end Go.Proofs.Ytlccjdcmhfhoeaa

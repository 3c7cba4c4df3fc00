
/-
  The reference's ReadList.
-/
import Derived.Test.YtlccjdcmhfhoeaaRecRd
namespace Go.Proofs.Ytlccjdcmhfhoeaa
open Go.RowKit
set_option linter.unusedVariables false

theorem takeRow_bad (X : List UInt8) (h : X = []) : takeRow X true = ([], [], true) := by subst h; decide

/-- What has been read up to now: the records; or something was none. -/
def ReadSo (L : List UInt8) (nn : Nat) (L1 : List UInt8) (b1 : Bool) (k : Nat) (ls : List Rc) (X : List UInt8) (b' : Bool) : Prop :=
  nn ≤ 64 → takeRs k L1 b1 = some (ls, X, b') ∨ (b' = true ∧ takeRs nn L1 b1 = none)

set_option maxRecDepth 100000 in
set_option maxHeartbeats 6400000 in
theorem refReadList_any (w : World) (A : Option Addr) (n c : Nat) (L : List UInt8) (hn : L.length = n) (hr : Rd w 1 A L.length (cB L)) (hlc : L.length ≤ c) (hl : L.length ≤ 1000000) :
    Calls Try.prog 26 #[.slice A n c] w (RListPost w (decL L)) := by
  subst hn
  obtain ⟨i1, hi1, hy0, hy1, hy2⟩ := info_parts info_rec
  have HR := Lib.hid hr
  clear hr
  obtain ⟨nn, L1, b1, t1⟩ : ∃ nn L1 b1, takeNum L false = (nn, L1, b1) := ⟨_, _, _, rfl⟩
  have hl1 : L1.length ≤ L.length := by have := takeNum_len L false; rw [t1] at this; exact this
  have hnn : nn ≤ 4611686018427387904 := by have := takeNum_le L false; rw [t1] at this; exact this
  have T1 := Lib.hid t1
  clear t1
  obtain ⟨S, hS⟩ : ∃ S, Hid ((if L.length = 0 then [] else blk A) = S) := ⟨_, rfl⟩
  have hS' : Hid (∀ k ∈ S, k < w.heap.size) := fun k hk => by
    rw [← hS.out] at hk
    split at hk
    · simp at hk
    · rename_i h0
      obtain ⟨ad, rfl, hb, _⟩ := HR.out.at_ (by omega)
      simp [blk] at hk; omega
  have r0 : RrG 73 (w.alloc (.cells #[.slice A L.length c, .bool false] 73)) w.heap.size S (w.alloc (.cells #[.slice A L.length c, .bool false] 73)) A c L false :=
    ⟨At.new w _ _, HR.out.alloc _, hlc, Chg.refl _ _, fun h0 k hk => by rw [← hS.out, if_neg (by omega)]; exact hk, fun hm => by have := hS'.out _ hm; omega, by simp⟩
  clear hS
  go_enter Try.func26, Try.ntmps26
  go_wp2_with (fail)
  refine (fnum_any w.heap.size S _ _ A c L false r0 (by omega)).mono ?_
  rw [T1.out]
  rintro e w5 ⟨rfl, A2, c2, r5⟩
  simp only at r5 ⊢
  have hc5 : Chg [] w w5 := ((Chg.refl [] w).alloc _).trans r5.chg (by simp)
  have hs5 : w.heap.size + 1 ≤ w5.heap.size := by have := r5.chg.size; simp at this; omega
  clear r0
  go_wp2_with (fail)
  go_loopw [6, 7] (fun s i wr => ∃ (k : Nat) (A6 A7 : Option Addr) (c6 c7 : Nat) (ls : List RcV) (X : List UInt8) (b' : Bool), k ≤ 65 ∧ i = .int .i64 k ∧ s = .slice A6 ls.length c6 ∧ Hid (ReadSo L nn L1 b1 k (ls.map RcV.r) X b') ∧ Hid (ls.length = k) ∧ X.length ≤ 1000000 ∧ (nn ≤ 64 → k ≤ nn) ∧
      RrG 73 wr w.heap.size S wr A7 c7 X b' ∧ wr.ownsRow (w.heap.size + 1) 28 9 (.slice A6 ls.length c6) ls.length (cRc ls) ∧ Hid (∀ x ∈ ls, OwnV wr (w.heap.size + 1) x) ∧ Chg [] w wr ∧ w.heap.size + 1 ≤ wr.heap.size) (fun _ i _ => 65 - (intOf i).toNat)
  case atStart => exact ⟨0, none, A2, 0, c2, [], L1, b1, by omega, rfl, rfl, fun _ => .inl rfl, rfl, by omega, by omega, r5.here, own_none _ _ _ _, by simp [Hid], hc5, hs5⟩
  case round =>
    obtain ⟨k, A6, A7, c6, c7, ls, X, b', hk, rfl, rfl, HT, HL, hX, hkn, r6, hown6, HO6, hc6, hs6⟩ := hrel
    have x0 := r6.at_.cell 0
    have x1 := r6.at_.cell 1
    have zB := r6.at_.lt
    simp only [List.getElem?_toArray, List.getElem?_cons_zero, List.getElem?_cons_succ] at x0 x1
    by_cases hgo : k < nn ∧ k ≤ 64 ∧ b' = false
    · obtain ⟨hlt, hk64, rfl⟩ := hgo
      have hlr := takeRow_len X false
      have HS := Lib.hid (fun h => takeRs_some (k := k) (L := L1) (b := b1) (l := ls.map RcV.r) (X := X) (b' := false) (r := (decR (takeRow X false).1).getD Rc.z) h)
      have HN := Lib.hid (fun h => takeRs_none (k := k) (L := L1) (b := b1) (l := ls.map RcV.r) (X := X) (b' := false) h)
      obtain ⟨row, X2, b2, t2⟩ : ∃ row X2 b2, takeRow X false = (row, X2, b2) := ⟨_, _, _, rfl⟩
      rw [t2] at HS HN hlr
      simp only at HS HN hlr
      obtain ⟨hlX2, hlrow⟩ := hlr
      have T2 := Lib.hid t2
      clear t2
      have hki : (k : Int) < (nn : Int) := by omega
      have hki2 : (k : Int) ≤ 64 := by omega
      go_wp2_with (fail)
      refine (fbytes_any w.heap.size S wr _ A7 c7 X false r6 (by omega)).mono ?_
      rw [T2.out]
      rintro e w8 ⟨A8, c8, rfl, hown8, A9, c9, r8⟩
      simp only at hown8 r8 ⊢
      have hc8 : Chg [] w w8 := hc6.trans r8.chg (by simp)
      have hown68 := own_keep hown6 r8.chg (fun j hj hm => by have := (hown6.lt j hj).1; simp at hm; omega)
      have HO8 : Hid (∀ x ∈ ls, OwnV w8 (w.heap.size + 1) x) := fun x hx => own_keep (HO6.out x hx) r8.chg (fun j hj hm => by have := ((HO6.out x hx).lt j hj).1; simp at hm; omega)
      have hs8 := r8.chg.size
      have r8' := r8.here
      have hcap8 := own_cap hown8
      have HD := Lib.hid (refDecR_any w8 A8 _ c8 row rfl (Rd.of_own hown8) hcap8 (by omega))
      obtain ⟨o, ho⟩ : ∃ o, Hid (decR row = o) := ⟨_, rfl⟩
      rw [ho.out] at HD HS HN
      clear r6 r8 hown6 HO6 hc6 hown8 hcap8 x0 x1 zB
      go_wp2_with (fail)
      refine HD.out.mono ?_
      rintro e w9 ⟨⟨r9, A10, cp9⟩, rfl, hr9, hown9, hch9⟩
      simp only at hr9 hown9
      have HR9 := Lib.hid hr9
      clear hr9
      have hs9 := hch9.size
      have hown69 := own_k0 hown68 hch9
      have HO9 : Hid (∀ x ∈ ls ++ [⟨r9, A10, cp9⟩], OwnV w9 (w.heap.size + 1) x) := by
        intro x hx
        rcases List.mem_append.1 hx with hx | hx
        · exact own_k0 (HO8.out x hx) hch9
        · obtain rfl := List.mem_singleton.1 hx
          exact own_up hown9 (by omega)
      have r9' := r8'.stay hch9 (by simp)
      have hc9 := hc8.trans hch9 (by simp)
      clear HD hown9 HO8 hown68 r8' hc8 T2
      have hll : ls.length ≤ 64 := by have := HL.out; omega
      cases o with
      | none =>
        have HF : Hid (nn ≤ 64 → takeRs nn L1 b1 = none) := fun h64 => by
          rcases HT.out h64 with h | h
          · exact takeRs_more (HN.out h rfl) (show k + 1 ≤ nn by omega)
          · exact h.2
        obtain ⟨o, q, key, m, c', vo, val, gone, ttl⟩ := r9
        simp only [RcV.cells, Option.isSome_none] at HO9 ⊢
        clear HS HN ho
        have q9 : Chg [] w9 (w9.alloc (.cells #[.int .i64 o, .int .i64 q, .string ⟨key.toArray⟩, .int .i64 m, .int .i64 c', .int .i64 vo, .slice A10 val.length cp9, .bool gone, .int .i64 ttl] 28)) := (Chg.refl [] w9).alloc _
        go_wp2_with (fail)
        refine (fbad_any w.heap.size S _ _ A9 c9 X2 b2 (r9'.k0 q9)).mono ?_
        rintro e w10 ⟨rfl, r10⟩
        have g1 := ((At.new w9 28 #[.int .i64 o, .int .i64 q, .string ⟨key.toArray⟩, .int .i64 m, .int .i64 c', .int .i64 vo, .slice A10 val.length cp9, .bool gone, .int .i64 ttl])).keep r10.chg (by simp; omega)
        have a0 := g1.cell 0
        have a1 := g1.cell 1
        have a2 := g1.cell 2
        have a3 := g1.cell 3
        have a4 := g1.cell 4
        have a5 := g1.cell 5
        have a6 := g1.cell 6
        have a7 := g1.cell 7
        have a8 := g1.cell 8
        have zg := g1.lt
        simp only [List.getElem?_toArray, List.getElem?_cons_zero, List.getElem?_cons_succ] at a0 a1 a2 a3 a4 a5 a6 a7 a8
        have hown70 := own_keep (own_k0 hown69 q9) r10.chg (fun j hj hm => by have := (hown69.lt j hj).1; simp at hm; omega)
        have HO10 : Hid (∀ x ∈ ls ++ [⟨⟨o, q, key, m, c', vo, val, gone, ttl⟩, A10, cp9⟩], OwnV w10 (w.heap.size + 1) x) := fun x hx => own_keep (own_k0 (HO9.out x hx) q9) r10.chg (fun j hj hm => by have := ((HO9.out x hx).lt j hj).1; simp at hm; omega)
        have hc10 : Chg [] w w10 := (hc9.t0 q9).trans r10.chg (by simp)
        have hs10 := r10.chg.size
        simp at hs10
        have r10' := r10.here
        clear r9' HO9 hown69 hc9 g1 r10 q9
        go_wp2_with (at_builtin; refine wpList_append_rd _ rfl (.tmp 41) (.tmp 43) 30 (by rfl) (w.heap.size + 1) 28 i1 _ 9 96 Try.underlying30 hi1 hy0 hy1 hy2 rfl (by omega) (.slice A6 ls.length c6) ls.length (cRc ls) (by rfl) (hown70.alloc _) (some ⟨w10.heap.size, 0, none⟩) 1 1 (cRc [⟨⟨o, q, key, m, c', vo, val, gone, ttl⟩, A10, cp9⟩]) (by rfl) (Rd.new' rfl rfl rfl) (cRc_one _) (by unfold maxLen; omega) (by omega) (by simp; omega) ?_; intro A11 c11 w11 hown11 hg11 hb11)
        rw [← cRc_app] at hown11
        go_roundw
        case rel =>
          have q10 : Chg [] w10 (w10.alloc (.cells #[.int .i64 o, .int .i64 q, .string ⟨key.toArray⟩, .int .i64 m, .int .i64 c', .int .i64 vo, .slice A10 val.length cp9, .bool gone, .int .i64 ttl] 28)) := (Chg.refl [] w10).alloc _
          have g11 := Chg.of_grown hg11
          refine ⟨k + 1, A11, none, c11, 0, ls ++ [⟨⟨o, q, key, m, c', vo, val, gone, ttl⟩, A10, cp9⟩], [], true, by omega, by go_num, by rw [List.length_append]; rfl, ?_, ?_, by simp, by omega, ?_, by rw [List.length_append]; exact hown11, ?_, ?_, ?_⟩
          · exact fun h64 => .inr ⟨rfl, HF.out h64⟩
          · unfold Hid; rw [List.length_append, HL.out]; rfl
          · refine (r10'.stay q10 (by simp)).stay g11 (fun j hj => ?_)
            simp only [Option.mem_toList] at hj
            have h1 := (hown70.lt j hj).1
            exact ⟨by omega, fun hm => by have := hS'.out j hm; omega⟩
          · intro x hx
            have h1 := own_k0 (HO10.out x hx) q10
            refine own_keep h1 g11 (fun j hj hm => ?_)
            simp only [Option.mem_toList] at hm
            exact own_ne' h1 (own_k0 hown70 q10) (by decide) j hj hm
          · exact (hc10.t0 q10).grown hg11 (fun j hj => .inr (by have h1 := (hown70.lt j hj).1; omega))
          · have := hg11.size
            simp at this
            omega
        case measure => simp [intOf]; omega
      | some r =>
        have HF : Hid (nn ≤ 64 → takeRs (k + 1) L1 b1 = some (ls.map RcV.r ++ [r], X2, b2) ∨ (b2 = true ∧ takeRs nn L1 b1 = none)) := fun h64 => by
          rcases HT.out h64 with h | h
          · exact .inl (by have := HS.out h rfl; simpa using this)
          · exact absurd h.1 (by simp)
        have hr9 := HR9.out
        simp only [Option.getD_some] at hr9
        subst hr9
        obtain ⟨o, q, key, m, c', vo, val, gone, ttl⟩ := r9
        simp only [RcV.cells, Option.isSome_some, if_true] at HO9 ⊢
        clear HS HN ho HR9
        go_wp2_with (at_builtin; refine wpList_append_rd _ rfl (.tmp 41) (.tmp 43) 30 (by rfl) (w.heap.size + 1) 28 i1 _ 9 96 Try.underlying30 hi1 hy0 hy1 hy2 rfl (by omega) (.slice A6 ls.length c6) ls.length (cRc ls) (by rfl) ((hown69.alloc _).alloc _) (some ⟨w9.heap.size + 1, 0, none⟩) 1 1 (cRc [⟨⟨o, q, key, m, c', vo, val, gone, ttl⟩, A10, cp9⟩]) (by rfl) (Rd.new' (by simp) rfl rfl) (cRc_one _) (by unfold maxLen; omega) (by omega) (by simp; omega) ?_; intro A11 c11 w11 hown11 hg11 hb11)
        rw [← cRc_app] at hown11
        go_roundw
        case rel =>
          have q9 : Chg [] w9 _ := ((Chg.refl [] w9).alloc (.cells #[.int .i64 o, .int .i64 q, .string ⟨key.toArray⟩, .int .i64 m, .int .i64 c', .int .i64 vo, .slice A10 val.length cp9, .bool gone, .int .i64 ttl] 28)).alloc (.cells #[.int .i64 o, .int .i64 q, .string ⟨key.toArray⟩, .int .i64 m, .int .i64 c', .int .i64 vo, .slice A10 val.length cp9, .bool gone, .int .i64 ttl] 28)
          have g11 := Chg.of_grown hg11
          refine ⟨k + 1, A11, A9, c11, c9, ls ++ [⟨⟨o, q, key, m, c', vo, val, gone, ttl⟩, A10, cp9⟩], X2, b2, by omega, by go_num, by rw [List.length_append]; rfl, ?_, ?_, by omega, by omega, ?_, by rw [List.length_append]; exact hown11, ?_, ?_, ?_⟩
          · unfold Hid ReadSo; rw [List.map_append]; exact HF.out
          · unfold Hid; rw [List.length_append, HL.out]; rfl
          · refine (r9'.stay q9 (by simp)).stay g11 (fun j hj => ?_)
            simp only [Option.mem_toList] at hj
            have h1 := (hown69.lt j hj).1
            exact ⟨by omega, fun hm => by have := hS'.out j hm; omega⟩
          · intro x hx
            have h1 := own_k0 (HO9.out x hx) q9
            refine own_keep h1 g11 (fun j hj hm => ?_)
            simp only [Option.mem_toList] at hm
            exact own_ne' h1 (own_k0 hown69 q9) (by decide) j hj hm
          · exact (hc9.t0 q9).grown hg11 (fun j hj => .inr (by have h1 := (hown69.lt j hj).1; omega))
          · have := hg11.size
            simp at this
            omega
        case measure => simp [intOf]; omega
    · have hend : nn ≤ 64 → k = nn ∨ b' = true := fun h => by
        have := hkn h
        cases b'
        · left
          have : ¬ (k < nn ∧ k ≤ 64) := fun h2 => hgo ⟨h2.1, h2.2, rfl⟩
          omega
        · exact .inr rfl
      have HEnd := Lib.hid hend
      have hgo' : (nn ≤ k) ∨ (k < nn ∧ k = 65) ∨ (k < nn ∧ k ≤ 64 ∧ b' = true) := by
        by_cases h1 : nn ≤ k
        · exact .inl h1
        · by_cases h2 : k = 65
          · exact .inr (.inl ⟨by omega, h2⟩)
          · right; right
            cases b'
            · exact absurd ⟨by omega, by omega, rfl⟩ hgo
            · exact ⟨by omega, by omega, rfl⟩
      -- what comes of it
      have HDL : Hid (decL L = if (decide (nn ≤ 64) && (!b' && decide (X = []))) then some (ls.map RcV.r) else none) := by
        unfold Hid
        by_cases h64 : nn ≤ 64
        · rcases HT.out h64 with h | h
          · rcases hend h64 with rfl | hb
            · rw [decL_end T1.out h64 h]; simp [h64]
            · subst hb
              have hXe := r6.err rfl
              subst hXe
              simp only [Bool.not_true, Bool.false_and, Bool.and_false, Bool.false_eq_true, if_false]
              by_cases hkn2 : k = nn
              · subst hkn2; rw [decL_end T1.out h64 h]; simp
              · refine decL_none T1.out (takeRs_more (takeRs_none h ?_) (show k + 1 ≤ nn by have := hkn h64; omega))
                rw [takeRow_bad [] rfl]; exact decR_nil
          · rw [decL_none T1.out h.2, h.1]; simp
        · rw [decL_64 T1.out (by omega)]; simp [h64]
      obtain ⟨wh, hwh⟩ : ∃ wh, Hid ((!b' && decide (X = [])) = wh) := ⟨_, rfl⟩
      rw [hwh.out] at HDL
      clear hend hgo
      rcases hgo' with h | h | h
      · have hki : ¬ (k : Int) < (nn : Int) := by omega
        clear x1
        by_cases h64 : 64 < nn
        · have h64I : (64 : Int) < (nn : Int) := by omega
          go_wp2_with (fail)
          go_ret2
          exact RListPost.bad (by rw [HDL.out, decide_eq_false (by omega)]; simp) hc6
        · have h64I : ¬ (64 : Int) < (nn : Int) := by omega
          go_wp2_with (fail)
          refine (fwhole_any w.heap.size S wr _ A7 c7 X b' r6).mono ?_
          rintro e w' ⟨rfl, rfl⟩
          rw [hwh.out]
          cases wh
          · go_wp2_with (fail)
            go_ret2
            exact RListPost.bad (by rw [HDL.out]; simp) hc6
          · go_wp2_with (fail)
            go_ret2
            have HE' : Hid (decL L = some (ls.map RcV.r)) := by unfold Hid; rw [HDL.out, decide_eq_true (by omega)]; simp
            rw [HE'.out]
            exact ⟨A6, c6, ls, rfl, rfl, own_up hown6 (by omega), fun x hx => own_up (HO6.out x hx) (by omega), hc6⟩
      · obtain ⟨h, h2⟩ := h
        have hki : (k : Int) < (nn : Int) := by omega
        have hki2 : ¬ (k : Int) ≤ 64 := by omega
        clear x1 h2
        by_cases h64 : 64 < nn
        · have h64I : (64 : Int) < (nn : Int) := by omega
          go_wp2_with (fail)
          go_ret2
          exact RListPost.bad (by rw [HDL.out, decide_eq_false (by omega)]; simp) hc6
        · have h64I : ¬ (64 : Int) < (nn : Int) := by omega
          go_wp2_with (fail)
          refine (fwhole_any w.heap.size S wr _ A7 c7 X b' r6).mono ?_
          rintro e w' ⟨rfl, rfl⟩
          rw [hwh.out]
          cases wh
          · go_wp2_with (fail)
            go_ret2
            exact RListPost.bad (by rw [HDL.out]; simp) hc6
          · go_wp2_with (fail)
            go_ret2
            have HE' : Hid (decL L = some (ls.map RcV.r)) := by unfold Hid; rw [HDL.out, decide_eq_true (by omega)]; simp
            rw [HE'.out]
            exact ⟨A6, c6, ls, rfl, rfl, own_up hown6 (by omega), fun x hx => own_up (HO6.out x hx) (by omega), hc6⟩
      · obtain ⟨h, h2, rfl⟩ := h
        have hki : (k : Int) < (nn : Int) := by omega
        have hki2 : (k : Int) ≤ 64 := by omega
        by_cases h64 : 64 < nn
        · have h64I : (64 : Int) < (nn : Int) := by omega
          go_wp2_with (fail)
          go_ret2
          exact RListPost.bad (by rw [HDL.out, decide_eq_false (by omega)]; simp) hc6
        · have h64I : ¬ (64 : Int) < (nn : Int) := by omega
          go_wp2_with (fail)
          refine (fwhole_any w.heap.size S wr _ A7 c7 X true r6).mono ?_
          rintro e w' ⟨rfl, rfl⟩
          rw [hwh.out]
          cases wh
          · go_wp2_with (fail)
            go_ret2
            exact RListPost.bad (by rw [HDL.out]; simp) hc6
          · go_wp2_with (fail)
            go_ret2
            have HE' : Hid (decL L = some (ls.map RcV.r)) := by unfold Hid; rw [HDL.out, decide_eq_true (by omega)]; simp
            rw [HE'.out]
            exact ⟨A6, c6, ls, rfl, rfl, own_up hown6 (by omega), fun x hx => own_up (HO6.out x hx) (by omega), hc6⟩
end Go.Proofs.Ytlccjdcmhfhoeaa

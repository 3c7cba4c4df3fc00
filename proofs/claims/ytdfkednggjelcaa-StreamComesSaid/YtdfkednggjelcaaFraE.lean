
/-
  frame.headOf, frame.Encode; the reference's Encode.
-/
import Derived.Test.YtdfkednggjelcaaFraW
import Derived.Test.YtdfkednggjelcaaSums0
namespace Go.Proofs.Ytdfkednggjelcaa
open Go.RowKit
set_option linter.unusedVariables false

set_option maxHeartbeats 1600000 in
theorem headOf_any (w : World) (v : Nat) (hv : v < 4294967296) :
    Calls Try.prog 76 #[.int .u32 (v : Int)] w fun e w' => ∃ A c, e = .returned (.slice A 8 c) ∧ Rd w' 1 A 8 (cB (headF v)) ∧ (∀ x ∈ blk A, w.heap.size ≤ x) ∧ Chg [] w w' := by
  go_enter Try.func76, Try.ntmps76
  go_wp2_with (fail)
  refine (four_any _ v hv).mono ?_
  rintro e w1 ⟨A1, c1, rfl, hown1, hch1⟩
  go_wp2_with (fail)
  refine (four_any _ v hv).mono ?_
  rintro e w2 ⟨A2, c2, rfl, hown2, hch2⟩
  have r1 := (Rd.of_own hown1).keep0 hch2
  have r2 := Rd.of_own hown2
  have hl := four_len v
  go_wp2_with (fail)
  refine (sum_to _ _ _ _ [⟨A2, c2, four v⟩] (four v) (by simp [Hid]) rfl (Rd.new' rfl rfl rfl) ?_ (by simp)).mono ?_
  · intro r hr
    obtain rfl := List.mem_singleton.1 hr
    exact ⟨r2.alloc _, by simp only [hl]; omega⟩
  rintro e w3 ⟨rfl, rfl⟩
  have hcl := crc_lt (four v)
  have HF : Hid (headF v = four v ++ four (crc (four v))) := rfl
  generalize crc (four v) = s at *
  go_wp2_with (fail)
  refine (four_any _ s hcl).mono ?_
  rintro e w4 ⟨A4, c4, rfl, hown4, hch4⟩
  have r4 := Rd.of_own hown4
  have hl4 := four_len s
  go_wp2_with (fail)
  refine (octJoin_any _ _ _ _ [⟨A1, c1, four v⟩, ⟨A4, c4, four s⟩] (headF v) (by rw [HF.out]; simp [Hid]) rfl (Rd.new' rfl rfl rfl) ?_ (by simp) (by simp) (by rw [headF_len]; omega)).mono ?_
  · intro r hr
    simp only [List.mem_cons, List.not_mem_nil, or_false] at hr
    rcases hr with rfl | rfl
    · exact ((r1.alloc _).keep0 hch4).alloc _
    · exact r4.alloc _
  rintro e w5 ⟨A5, c5, rfl, hr5, hc5, hb5, hch5, _⟩
  rw [headF_len] at hr5 hb5 ⊢
  have hz := hch5
  go_wp2_with (fail)
  go_ret
  have hall : Chg [] w w5 := ((((hch1.trans hch2 (by simp)).alloc _).trans hch4 (by simp)).alloc _).trans hch5 (by simp)
  refine ⟨A5, c5, rfl, hr5, fun x hx => ?_, hall⟩
  have h1 := (hb5 (by omega) x hx).1
  have h2 := (((hch1.trans hch2 (by simp)).alloc (.cells #[.slice A2 4 c2] 47)).trans hch4 (by simp)).size
  simp at h1
  omega

/-- What Encode gives: new bytes. -/
def NewB (w : World) (L : List UInt8) (A : Option Addr) (c : Nat) (w' : World) : Prop :=
  Rd w' 1 A L.length (cB L) ∧ L.length ≤ c ∧ (0 < L.length → ∀ x ∈ blk A, w.heap.size ≤ x ∧ x < w'.heap.size) ∧ Chg [] w w' ∧ (Full w' A L.length c ∨ w'.ownsRow w.heap.size 5 1 (.slice A L.length c) L.length (cB L))
theorem NewB.up {w0 w w' : World} {L : List UInt8} {A : Option Addr} {c : Nat} (h : NewB w L A c w') (hc : Chg [] w0 w) : NewB w0 L A c w' := by
  obtain ⟨h1, h2, h3, h4, h5⟩ := h
  have hs := hc.size
  exact ⟨h1, h2, fun hn x hx => ⟨by have := (h3 hn x hx).1; omega, (h3 hn x hx).2⟩, hc.trans h4 (by simp), h5.imp id (fun h => own_up h hs)⟩
/-- Of new bytes the block: below it nothing old, its cells hold the bytes, and it may be written. -/
theorem NewB.cells {w w' : World} {L : List UInt8} {A : Option Addr} {c : Nat} (h : NewB w L A c w') (hn : 0 < L.length) :
    ∃ g, A = some ⟨g, 0, none⟩ ∧ w.heap.size ≤ g ∧ g < w'.heap.size ∧ (∀ j u, (cB L)[j]? = some u → w'.cell? ⟨g, j, none⟩ = some u) ∧ ∀ j, j < L.length → w'.frozen? ⟨g, j, none⟩ = false := by
  obtain ⟨h1, h2, h3, h4, h5⟩ := h
  rcases h5 with ⟨rfl, h6⟩ | h6
  · obtain ⟨g, rfl, hf⟩ := h6 hn
    obtain ⟨ad, ha, _, hc⟩ := h1.at_ hn
    obtain rfl : ad = ⟨g, 0, none⟩ := by injection ha with ha; exact ha.symm
    have hb := h3 hn g (by simp [blk])
    refine ⟨g, rfl, hb.1, hb.2, fun j u hu => ?_, hf⟩
    have := hc j u hu
    have e : (⟨g, 0, none⟩ : Addr).add j = ⟨g, j, none⟩ := by unfold Addr.add; split <;> simp_all
    rwa [e] at this
  · obtain ⟨g, hA, hb, hs, hcell, hfree⟩ := own_cells h6 hn
    exact ⟨g, hA, hb, hs, hcell, fun j _ => hfree j⟩
def EncFPost (w : World) (L : List UInt8) (e : Ending) (w' : World) : Prop := ∃ A c, e = .returned (.tuple #[.slice A L.length c, .int .i64 0]) ∧ NewB w L A c w'

theorem sum_take {ls : List SlB} {k : Nat} (hk : k < ls.length) : ((ls.take (k + 1)).map SlB.bs).flatten.length = ((ls.take k).map SlB.bs).flatten.length + ls[k].bs.length := by
  rw [List.take_succ_eq_append_getElem hk, List.map_append, List.flatten_append, List.length_append]; simp
theorem sum_le {ls : List SlB} (k : Nat) : ((ls.take k).map SlB.bs).flatten.length ≤ (ls.map SlB.bs).flatten.length := by
  conv => rhs; rw [← List.take_append_drop k ls]
  rw [List.map_append, List.flatten_append, List.length_append]; omega

set_option maxRecDepth 100000 in
set_option maxHeartbeats 3200000 in
theorem frEncode_any (w : World) (A : Option Addr) (n c : Nat) (ls : List SlB) (L : List UInt8) (hL : Hid ((ls.map SlB.bs).flatten = L)) (hn : ls.length = n) (hr : Rd w 1 A ls.length (cR ls)) (hrs : ∀ r ∈ ls, RdB w r) (hls : ls.length ≤ 140737488355328) (hc : ls.length ≤ c) (hLl : L.length ≤ 262144) :
    Calls Try.prog 57 #[.slice A n c] w (EncFPost w (encF L)) := by
  subst hn
  have HR := Lib.hid hr
  have HRS := Lib.hid hrs
  have hLL := Lib.hid (congrArg List.length hL.out)
  clear hr hrs
  go_enter Try.func57, Try.ntmps57
  go_wp2_with (fail)
  go_loop [10, 4] (fun i m => ∃ k x : Nat, k ≤ ls.length ∧ i = .int .i64 k ∧ m = .int .i64 x ∧ x ≤ 262144 ∧ Hid (x = ((ls.take k).map SlB.bs).flatten.length)) (fun i _ => ls.length - (intOf i).toNat)
  case atStart => exact ⟨0, 0, Nat.zero_le _, rfl, rfl, by omega, by simp [Hid]⟩
  case round =>
    obtain ⟨k, x, hk, rfl, rfl, hx, HX⟩ := hrel
    by_cases hlt : k < ls.length
    · obtain ⟨ad, u, rfl, had, hu, hc⟩ := HR.out.get hlt
      rw [cR_get hlt] at hu
      have HT := Lib.hid (sum_take hlt)
      have HM := Lib.hid (sum_le (ls := ls) (k + 1))
      generalize ls[k] = r at *
      obtain rfl : Value.slice r.A r.bs.length r.c = u := by simpa using hu
      clear hu
      obtain ⟨rA, rc, bs⟩ := r
      simp only at hc HT
      have hb : x + bs.length ≤ 262144 := by
        have h1 := HT.out
        have h2 := HX.out
        have h3 := HM.out
        have h4 := hLL.out
        omega
      go_wp2_with (fail)
      go_round
      case rel => exact ⟨k + 1, x + bs.length, by omega, by go_num, by go_num, hb, by unfold Hid; rw [HT.out, HX.out]⟩
      case measure => simp [intOf]; omega
    · obtain rfl : k = ls.length := by omega
      have hxL : x = L.length := by
        have h1 := HX.out
        rw [List.take_length] at h1
        rw [h1]; exact hLL.out
      subst hxL
      clear HX hx
      go_wp2_with (fail)
      refine (headOf_any _ L.length (by omega)).mono ?_
      rintro e w1 ⟨A1, c1, rfl, r1, _, hch1⟩
      go_wp2_with (fail)
      refine (octJoin_any _ A _ _ ls L hL rfl (HR.out.keep0 hch1) (fun r hr => (HRS.out r hr).keep0 hch1) hls hc (by omega)).mono ?_
      rintro e w2 ⟨A2, c2, rfl, r2, hc2, _, hch2, _⟩
      have hh := Lib.hid (headF_len L.length)
      have l1 : Hid ((headF L.length ++ L).length = 8 + L.length) := by unfold Hid; simp [hh.out]
      have HE : Hid (encF L = (headF L.length ++ L) ++ four (crc (headF L.length ++ L))) := rfl
      obtain ⟨Hd, hHd⟩ : ∃ Hd, Hid (headF L.length = Hd) := ⟨_, rfl⟩
      rw [hHd.out] at r1 hh l1 HE
      clear hHd
      go_wp2_with (fail)
      refine (octJoin_any _ _ _ _ [⟨A1, c1, Hd⟩, ⟨A2, c2, L⟩] (Hd ++ L) (by simp [Hid]) (by rfl) (Rd.new' rfl (by simp [cR, SlB.val, hh.out]) rfl) ?_ (by simp) (by simp) (by have := l1.out; omega)).mono ?_
      · intro r hr
        simp only [List.mem_cons, List.not_mem_nil, or_false] at hr
        rcases hr with rfl | rfl
        · show Rd _ 1 A1 Hd.length (cB Hd)
          rw [hh.out]
          exact (r1.keep0 hch2).alloc _
        · exact r2.alloc _
      rintro e w3 ⟨A3, c3, rfl, r3, hc3, _, hch3, _⟩
      obtain ⟨M, hM⟩ : ∃ M, Hid (Hd ++ L = M) := ⟨_, rfl⟩
      rw [hM.out] at r3 hc3 l1 HE ⊢
      clear hM
      go_wp2_with (fail)
      refine (sum_to _ _ _ _ [⟨A3, c3, M⟩] M (by simp [Hid]) rfl (Rd.new' rfl rfl rfl) ?_ (by simp)).mono ?_
      · intro r hr
        obtain rfl := List.mem_singleton.1 hr
        exact ⟨r3.alloc _, by have := l1.out; simp only; omega⟩
      rintro e w4 ⟨rfl, rfl⟩
      have hcl := crc_lt M
      obtain ⟨s, hs⟩ : ∃ s, Hid (crc M = s) := ⟨_, rfl⟩
      rw [hs.out] at hcl HE ⊢
      clear hs
      go_wp2_with (fail)
      refine (four_any _ s hcl).mono ?_
      rintro e w5 ⟨A5, c5, rfl, hown5, hch5⟩
      have r5 := Rd.of_own hown5
      have hl5 := Lib.hid (four_len s)
      obtain ⟨F, hF⟩ : ∃ F, Hid (four s = F) := ⟨_, rfl⟩
      rw [hF.out] at r5 hl5 HE
      clear hown5 hF
      go_wp2_with (fail)
      refine (octJoin_any _ _ _ _ [⟨A3, c3, M⟩, ⟨A5, c5, F⟩] (encF L) (by rw [HE.out]; simp [Hid]) rfl (Rd.new' rfl (by simp [cR, SlB.val, hl5.out]) rfl) ?_ (by simp) (by simp) (by rw [encF_len]; omega)).mono ?_
      · intro r hr
        simp only [List.mem_cons, List.not_mem_nil, or_false] at hr
        rcases hr with rfl | rfl
        · exact ((r3.alloc _).keep0 hch5).alloc _
        · show Rd _ 1 A5 F.length (cB F)
          rw [hl5.out]
          exact r5.alloc _
      rintro e w6 ⟨A6, c6, rfl, r6, hc6, hb6, hch6, ho6⟩
      go_wp2_with (fail)
      go_ret2
      refine ⟨A6, c6, rfl, NewB.up ⟨r6, hc6, hb6, hch6, ho6⟩ ?_⟩
      exact (((((hch1.trans hch2 (by simp)).alloc _).trans hch3 (by simp)).alloc _).trans hch5 (by simp)).alloc _

set_option maxRecDepth 100000 in
set_option maxHeartbeats 3200000 in
theorem refEncF_any (w : World) (A : Option Addr) (n c : Nat) (L : List UInt8) (hn : L.length = n) (hr : Rd w 1 A L.length (cB L)) (hLl : L.length ≤ 262144) :
    Calls Try.prog 61 #[.slice A n c] w fun e w' => ∃ A' c', e = .returned (.tuple #[.slice A' (encF L).length c', .int .i64 0]) ∧ w'.ownsRow w.heap.size 5 1 (.slice A' (encF L).length c') (encF L).length (cB (encF L)) ∧ Chg [] w w' := by
  subst hn
  obtain ⟨i0, hi, hz0, hz1, hz2⟩ := info_parts info8
  have HR := Lib.hid hr
  clear hr
  have HE : Hid (encF L = ((four L.length ++ four (crc (four L.length))) ++ L) ++ four (crc ((four L.length ++ four (crc (four L.length))) ++ L))) := rfl
  have HL := Lib.hid (encF_len L)
  go_enter Try.func61, Try.ntmps61
  go_wp2_with (fail)
  refine (refFour_any _ L.length (by omega)).mono ?_
  rintro e w1 ⟨A1, c1, rfl, hown1, hch1⟩
  have hl1 := Lib.hid (four_len L.length)
  obtain ⟨F, hF⟩ : ∃ F, Hid (four L.length = F) := ⟨_, rfl⟩
  rw [hF.out] at hown1 hl1 HE
  clear hF
  go_wp2_with (fail)
  refine (refSum_any _ A1 4 c1 F hl1.out (by rw [hl1.out]; exact Rd.of_own hown1) (by rw [hl1.out]; omega)).mono ?_
  rintro e w2 ⟨rfl, rfl⟩
  have hcl := crc_lt F
  obtain ⟨s, hs⟩ : ∃ s, Hid (crc F = s) := ⟨_, rfl⟩
  rw [hs.out] at hcl HE ⊢
  clear hs
  go_wp2_with (fail)
  refine (refFour_any _ s hcl).mono ?_
  rintro e w3 ⟨A3, c3, rfl, hown3, hch3⟩
  have hl3 := Lib.hid (four_len s)
  obtain ⟨G, hG⟩ : ∃ G, Hid (four s = G) := ⟨_, rfl⟩
  rw [hG.out] at hown3 hl3 HE
  clear hG
  have hs1 := hch1.size
  have hs3 := hch3.size
  have hown1' := own_k0 hown1 hch3
  go_wp2_with (first
    | (at_builtin
       refine wpList_append_rd _ rfl (.tmp 12) (.tmp 15) 47 (by rfl) w.heap.size 5 i0 _ 1 1 Try.underlying47 hi hz0 hz1 hz2 rfl (by omega) (.slice A1 4 c1) 4 (cB F) (by rfl) hown1' A3 4 c3 (cB G) (by rfl) (Rd.of_own hown3) (cB_one _) (by unfold maxLen; omega) (by omega) (by omega) ?_
       intro A4 c4 w4 hown4 hg4 hb4
       have hch4 : Chg [] w w4 := (hch1.trans hch3 (by simp)).grown hg4 (fun k hk => .inr (hown1.lt k hk).1)
       clear hown1 hown1' hg4 hb4 hown3
       rw [← cB_app] at hown4
       have hl4 : Hid ((F ++ G).length = 8) := by unfold Hid; rw [List.length_append, hl1.out, hl3.out]
       obtain ⟨M, hM⟩ : ∃ M, Hid (F ++ G = M) := ⟨_, rfl⟩
       rw [hM.out] at hown4 hl4 HE
       clear hM)
    | (at_builtin
       refine wpList_append_rd _ rfl (.tmp 17) (.tmp 18) 47 (by rfl) w.heap.size 5 i0 _ 1 1 Try.underlying47 hi hz0 hz1 hz2 rfl (by omega) (.slice A4 8 c4) 8 (cB M) (by rfl) hown4 A L.length c (cB L) (by rfl) (HR.out.keep0 hch4) (cB_one _) (by unfold maxLen; omega) (by omega) (by have := hch4.size; omega) ?_; intro A5 c5 w5 hown5 hg5 hb5))
  have hch5 : Chg [] w w5 := hch4.grown hg5 (fun k hk => .inr (hown4.lt k hk).1)
  clear hown4 hg5 hb5
  rw [← cB_app] at hown5
  have hl5 : Hid ((M ++ L).length = 8 + L.length) := by unfold Hid; rw [List.length_append, hl4.out]
  obtain ⟨K, hK⟩ : ∃ K, Hid (M ++ L = K) := ⟨_, rfl⟩
  rw [hK.out] at hown5 hl5 HE
  clear hK
  go_wp2_with (fail)
  refine (refSum_any _ A5 (8 + L.length) c5 K hl5.out (by rw [hl5.out]; exact Rd.of_own hown5) (by rw [hl5.out]; omega)).mono ?_
  rintro e w6 ⟨rfl, rfl⟩
  have hcl := crc_lt K
  obtain ⟨s2, hs2⟩ : ∃ s, Hid (crc K = s) := ⟨_, rfl⟩
  rw [hs2.out] at hcl HE ⊢
  clear hs2
  go_wp2_with (fail)
  refine (refFour_any _ s2 hcl).mono ?_
  rintro e w7 ⟨A7, c7, rfl, hown7, hch7⟩
  have hl7 := Lib.hid (four_len s2)
  obtain ⟨J, hJ⟩ : ∃ J, Hid (four s2 = J) := ⟨_, rfl⟩
  rw [hJ.out] at hown7 hl7 HE
  clear hJ
  have hown5' := own_k0 hown5 hch7
  have hs5 := hch5.size
  have hs7 := hch7.size
  go_wp2_with (at_builtin; refine wpList_append_rd _ rfl (.tmp 20) (.tmp 23) 47 (by rfl) w.heap.size 5 i0 _ 1 1 Try.underlying47 hi hz0 hz1 hz2 rfl (by omega) (.slice A5 (8 + L.length) c5) (8 + L.length) (cB K) (by rfl) hown5' A7 4 c7 (cB J) (by rfl) (Rd.of_own hown7) (cB_one _) (by unfold maxLen; omega) (by omega) (by omega) ?_; intro A8 c8 w8 hown8 hg8 hb8)
  go_ret2
  have hch8 : Chg [] w w8 := (hch5.trans hch7 (by simp)).grown hg8 (fun k hk => .inr (hown5.lt k hk).1)
  rw [← cB_app, ← HE.out] at hown8
  have e8 : 8 + L.length + 4 = (encF L).length := by rw [HL.out]; omega
  rw [e8] at hown8 ⊢
  exact ⟨A8, c8, rfl, hown8, hch8⟩
end Go.Proofs.Ytdfkednggjelcaa

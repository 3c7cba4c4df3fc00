/-
  OctetSums: the check sum of rows is that of all of them in one; a byte that is another one has another sum.
-/
import Derived.Test.YtghabhhnhalpgaaJoin
import Derived.Test.YtghabhhnhalpgaaRef1C
import Derived.Test.YtghabhhnhalpgaaLawO2
import Derived.Test.YtghabhhnhalpgaaCuts
namespace Go.Proofs.Ytghabhhnhalpgaa
open Go.RowKit
set_option linter.unusedVariables false

theorem sum_to (w : World) (A : Option Addr) (n c : Nat) (ls : List SlB) (L : List UInt8) (hL : Hid ((ls.map SlB.bs).flatten = L)) (hn : ls.length = n) (hr : Rd w 1 A ls.length (cR ls)) (hrs : ∀ r ∈ ls, RdB w r ∧ r.bs.length ≤ 1099511627776) (hls : ls.length ≤ 140737488355328) :
    Calls Try.prog 23 #[.slice A n c] w fun e w' => e = .returned (.int .u32 (crc L : Nat)) ∧ w = w' := by
  have h := sum_any w A n c ls hn hr hrs hls
  rw [hL.out] at h
  exact h

theorem row_le {ls : List SlB} {L : List UInt8} (hL : (ls.map SlB.bs).flatten = L) : ∀ r ∈ ls, r.bs.length ≤ L.length := fun r hr => by
  rw [← hL]
  exact List.Sublist.length_le (List.sublist_flatten_of_mem (List.mem_map_of_mem hr))
theorem cB_set (l : List UInt8) (k : Nat) (x : UInt8) : cB (l.set k x) = (cB l).set k (.int .u8 (x.toNat : Int)) := by simp [cB, List.map_set]
theorem crc_set (l : List UInt8) (k : Nat) (h : k < l.length) (x : UInt8) (hx : x ≠ l[k]) : crc (l.set k x) ≠ crc l := by
  have e1 : l.set k x = l.take k ++ x :: l.drop (k + 1) := by rw [List.set_eq_take_append_cons_drop, if_pos h]
  have e2 : l = l.take k ++ l[k] :: l.drop (k + 1) := by rw [← List.drop_eq_getElem_cons h, List.take_append_drop]
  rw [e1]
  conv => rhs; rw [e2]
  exact crc_one hx
theorem xor_ne (b : UInt8) (y : Nat) (h0 : y ≠ 0) (h1 : y < 256) : UInt8.ofNat (b.toNat ^^^ y) ≠ b := by
  intro h
  have h2 : (UInt8.ofNat (b.toNat ^^^ y)).toNat = b.toNat := by rw [h]
  rw [toNat_ofNat (Nat.xor_lt_two_pow (n := 8) b.toNat_lt h1)] at h2
  have h3 : b.toNat ^^^ (b.toNat ^^^ y) = b.toNat ^^^ b.toNat := by rw [h2]
  rw [← Nat.xor_assoc, Nat.xor_self, Nat.zero_xor] at h3
  exact h0 h3

set_option maxRecDepth 100000 in
set_option maxHeartbeats 6400000 in
theorem sums_law (w : World) (A : Option Addr) (c : Nat) (ls : List SlB) (hr : Rd w 1 A ls.length (cR ls)) (hlc : ls.length ≤ c) (hcm : c ≤ maxLen) (hrs : ∀ r ∈ ls, RdB w r ∧ r.bs.length ≤ r.c ∧ r.c ≤ maxLen)
    (v : Int) (hv : (Lit.int .i64 v).wf = true) (y : Int) (hy : (Lit.int .u8 y).wf = true) :
    Calls Try.prog 5 #[.slice A ls.length c, .int .i64 v, .int .u8 y] w fun e w' => e = .returned (.bool true) ∧ Chg [] w w' := by
  obtain ⟨i0, hi, hz0, hz1, hz2⟩ := info_parts info8
  have HRS := Lib.hid hrs
  unfold maxLen at hcm
  have hlm : ls.length ≤ 9223372036854775807 := by omega
  have hh := heavyRows_any w A ls.length c ls rfl hr hlm (fun r hr => by have := hrs r hr; unfold maxLen at this; omega)
  have HH := Lib.hid hh
  obtain ⟨L, HL⟩ : ∃ L, Hid ((ls.map SlB.bs).flatten = L) := ⟨_, rfl⟩
  have HPre : Hid (∀ k, k ≤ ls.length → ((ls.take k).map SlB.bs).flatten.length ≤ L.length) := fun k _ => by
    rw [← HL.out]
    have e : ls.map SlB.bs = (ls.take k).map SlB.bs ++ (ls.drop k).map SlB.bs := by rw [← List.map_append, List.take_append_drop]
    rw [e, List.flatten_append, List.length_append]; omega
  have HLen : Hid (L.length = (ls.map fun r => r.bs.length).sum) := by
    unfold Hid; rw [← HL.out, List.length_flatten, List.map_map]; rfl
  clear hrs hh
  go_enter Try.func5, Try.ntmps5
  go_wp2_with (fail)
  refine HH.out.mono ?_
  rintro e w' ⟨hvy, rfl, hno, rfl⟩
  cases hvy
  · have hsm := hno rfl
    rw [← HLen.out] at hsm
    have hn4 : ls.length ≤ 4000 := by omega
    have hL4 : L.length ≤ 4000 := by omega
    clear hno hsm
    go_wp2_with (fail)
    refine (octJoin_any w A _ c ls L HL rfl hr (fun r hr => (HRS.out r hr).1) (by omega) hlc (by omega)).mono ?_
    rintro e w1 ⟨A1, c1, rfl, hj1, hj2, hj3, hj4, hj5⟩
    clear hj3 hj5
    go_wp2_with (fail)
    go_loopw [9, 8] (fun i v wr => ∃ (k : Nat) (M : List UInt8) (A2 : Option Addr) (c2 : Nat), k ≤ ls.length ∧ i = .int .i64 k ∧ v = .slice A2 M.length c2 ∧ M.length ≤ 4000 ∧ Hid (M = ((ls.take k).map SlB.bs).flatten) ∧ wr.ownsRow w1.heap.size 5 1 (.slice A2 M.length c2) M.length (cB M) ∧ Chg [] w1 wr) (fun i _ _ => ls.length - (intOf i).toNat)
    case atStart => exact ⟨0, [], none, 0, Nat.zero_le _, rfl, rfl, by simp, by simp [Hid], World.ownsRow_nil _ _ _ _, Chg.refl _ _⟩
    case round =>
      obtain ⟨k, M, A2, c2, hk, rfl, rfl, hM, HM, hown, hch⟩ := hrel
      by_cases hlt : k < ls.length
      · obtain ⟨ad, u, rfl, had, hu, hc⟩ := ((hr.keep0 hj4).keep0 hch).get hlt
        rw [cR_get hlt] at hu
        have Hmem := Lib.hid (HRS.out _ (List.getElem_mem hlt))
        have hp1 := HPre.out (k + 1) hlt
        have HT : Hid (((ls.take (k + 1)).map SlB.bs).flatten = M ++ ls[k].bs) := by
          unfold Hid; rw [List.take_succ_eq_append_getElem hlt, List.map_append, List.flatten_append, ← HM.out, List.map_singleton]; simp only [List.flatten_cons, List.flatten_nil, List.append_nil]
        rw [HT.out, List.length_append] at hp1
        generalize ls[k] = r at *
        obtain rfl : Value.slice r.A r.bs.length r.c = u := by simpa using hu
        clear hu
        obtain ⟨rA, rc, bs⟩ := r
        have hrow : Rd wr 1 rA bs.length (cB bs) := ((Hmem.out.1).keep0 hj4).keep0 hch
        simp only at hc HT hp1
        have hsz := hch.size
        go_wp2_with (at_builtin; refine wpList_append_rd _ rfl (.tmp 21) (.tmp 25) 23 (by rfl) w1.heap.size 5 i0 _ 1 1 Try.underlying23 hi hz0 hz1 hz2 rfl (by omega) (.slice A2 M.length c2) M.length (cB M) (by rfl) hown rA bs.length rc (cB bs) (by rfl) hrow (cB_one _) (by unfold maxLen; omega) (by omega) hsz ?_; intro A3 c3 w3 hown3 hg3 hb3)
        go_roundw
        case rel =>
          refine ⟨k + 1, M ++ bs, A3, c3, by omega, by go_num, by rw [List.length_append], by rw [List.length_append]; omega, HT.out.symm, ?_, hch.grown hg3 (fun x hx => .inr (hown.lt x hx).1)⟩
          rw [List.length_append, cB_app]; exact hown3
        case measure => simp [intOf]; omega
      · obtain rfl : k = ls.length := by omega
        obtain rfl : M = L := by rw [HM.out, List.take_length, HL.out]
        have hrw := (hr.keep0 hj4).keep0 hch
        have hrowsw : ∀ r ∈ ls, RdB wr r ∧ r.bs.length ≤ 1099511627776 := fun r hr => ⟨((HRS.out r hr).1.keep0 hj4).keep0 hch, by have := row_le HL.out r hr; omega⟩
        have Hrowsw := Lib.hid hrowsw
        have hall := hj1.keep0 hch
        have hwant := Rd.of_own hown
        have hch0 := hj4.trans hch (by simp)
        obtain ⟨s, HS⟩ : ∃ s, Hid (crc M = s) := ⟨_, rfl⟩
        clear hrowsw HPre hj2
        go_wp2_with (fail)
        refine (sum_to wr A _ c ls M HL rfl hrw Hrowsw.out (by omega)).mono ?_
        rw [HS.out]
        rintro e w' ⟨rfl, rfl⟩
        go_wp2_with (fail)
        refine (same_any wr A1 A2 _ _ c1 c2 M M rfl rfl hall hwant (by omega)).mono ?_
        rintro e w4 ⟨rfl, hch4⟩
        rw [decide_eq_true (rfl : M = M)]
        have hwant4 := hwant.keep0 hch4
        go_wp2_with (fail)
        refine (refSum_any w4 A2 _ c2 M rfl hwant4 (by omega)).mono ?_
        rw [HS.out]
        rintro e w' ⟨rfl, rfl⟩
        go_wp2_with (fail)
        refine (sum_to _ (some ⟨w4.heap.size, 0, none⟩) 1 1 [⟨A2, c2, M⟩] M (by simp [Hid]) rfl (Rd.new' (cs := #[.slice A2 M.length c2]) rfl rfl rfl) (fun r hr => by obtain rfl := List.mem_singleton.1 hr; exact ⟨hwant4.alloc _, by show M.length ≤ _; omega⟩) (by simp)).mono ?_
        rw [HS.out]
        rintro e w' ⟨rfl, rfl⟩
        have hby := bounds_u8 hy
        obtain ⟨Y, rfl⟩ := Int.eq_ofNat_of_zero_le hby.1
        have hY : Y ≤ 255 := by omega
        clear hby hy
        have hch5 : Chg [] w w4 := hch0.trans hch4 (by simp)
        by_cases hm0 : M.length = 0
        · have hml : ¬ (0 : Int) < (M.length : Int) := by omega
          have Hm0 := Lib.hid hm0
          clear hm0
          go_wp2_with (go_at_call 11; refine (known_any _).mono ?_; rintro e w6 ⟨rfl, hch6⟩)
          go_ret
          exact ⟨rfl, (hch5.alloc _).trans hch6 (by simp)⟩
        · have hml : (0 : Int) < (M.length : Int) := by omega
          by_cases hY0 : Y = 0
          · subst hY0
            go_wp2_with (go_at_call 11; refine (known_any _).mono ?_; rintro e w6 ⟨rfl, hch6⟩)
            go_ret
            exact ⟨rfl, (hch5.alloc _).trans hch6 (by simp)⟩
          · have hYb : ((Y : Int) != 0) = true := by rw [bne_iff_ne]; omega
            obtain ⟨a, eand, ha⟩ := and30 v
            have hown5 := (own_keep hown hch4 (by simp)).alloc (.cells #[.slice A2 M.length c2] 23)
            obtain ⟨g, rfl, hg0, hg1, hcell, hfree⟩ := own_cells hown5 (by omega)
            have hil : a % M.length < M.length := Nat.mod_lt _ (by omega)
            obtain ⟨ix, HIX⟩ : ∃ ix, Hid (a % M.length = ix) := ⟨_, rfl⟩
            rw [HIX.out] at hil
            have hce := hcell ix _ (cB_get hil)
            have hfr := hfree ix
            have HX := Lib.hid (u8_xor_nat M[ix].toNat Y M[ix].toNat_lt (by omega))
            have HNe := Lib.hid (crc_set M ix hil (UInt8.ofNat (M[ix].toNat ^^^ Y)) (xor_ne _ _ hY0 (by omega)))
            have hbl := M[ix].toNat_lt
            have HTn : Hid ((UInt8.ofNat (M[ix].toNat ^^^ Y)).toNat = M[ix].toNat ^^^ Y) := toNat_ofNat (Nat.xor_lt_two_pow (n := 8) hbl (by omega))
            clear hcell hfree
            generalize M[ix] = b at *
            have hmod : ((a : Int)) % (M.length : Int) = (ix : Int) := by rw [← HIX.out]; omega
            have i0 : (0 : Int) ≤ (ix : Int) := by omega
            have i1 : (ix : Int) < (M.length : Int) := by omega
            have hx8 := HX.out
            clear hY0 hm0
            go_wp2_with (fail)
            obtain ⟨M2, HM2⟩ : ∃ M2, Hid (M.set ix (UInt8.ofNat (b.toNat ^^^ Y)) = M2) := ⟨_, rfl⟩
            have hM2l : M2.length = M.length := by rw [← HM2.out]; simp
            obtain ⟨s2, HS2⟩ : ∃ s2, Hid (crc M2 = s2) := ⟨_, rfl⟩
            have hs2 : ((s2 : Int) == (s : Int)) = false := beq_eq_false_iff_ne.2 (fun h => HNe.out (by rw [HM2.out, HS2.out, HS.out]; omega))
            have hown6 := own_set hown5 ix (.int .u8 ((b.toNat ^^^ Y : Nat) : Int))
            have hcs : (cB M).set ix (.int .u8 ((b.toNat ^^^ Y : Nat) : Int)) = cB M2 := by rw [← HM2.out, cB_set, HTn.out]
            rw [hcs] at hown6
            have hrd6 : RdB ((w4.alloc (.cells #[.slice (some ⟨g, 0, none⟩) M.length c2] 23)).setCell ⟨g, ix, none⟩ (.int .u8 ((b.toNat ^^^ Y : Nat) : Int))) ⟨some ⟨g, 0, none⟩, c2, M2⟩ := by
              unfold RdB; simp only; rw [hM2l]; exact Rd.of_own hown6
            have hch6 : Chg [] w ((w4.alloc (.cells #[.slice (some ⟨g, 0, none⟩) M.length c2] 23)).setCell ⟨g, ix, none⟩ (.int .u8 ((b.toNat ^^^ Y : Nat) : Int))) := (hch5.alloc _).setCell (.inr (Nat.le_trans hj4.size hg0)) _
            refine (sum_to _ (some ⟨w4.heap.size + 1, 0, none⟩) 1 1 [⟨some ⟨g, 0, none⟩, c2, M2⟩] M2 (by simp [Hid]) rfl (Rd.new' (cs := #[.slice (some ⟨g, 0, none⟩) M.length c2]) (by simp) (by simp [cR, SlB.val, hM2l]) rfl) (fun r hr => by obtain rfl := List.mem_singleton.1 hr; exact ⟨hrd6.alloc _, by show M2.length ≤ _; omega⟩) (by simp)).mono ?_
            rw [HS2.out]
            rintro e w' ⟨rfl, rfl⟩
            clear hx8 hcs hown6 hM2l eand hmod
            go_wp2_with (go_at_call 11; refine (known_any _).mono ?_; rintro e w7 ⟨rfl, hch7⟩)
            go_ret
            exact ⟨rfl, (hch6.alloc _).trans hch7 (by simp)⟩
  · go_wp2_with (fail)
    go_ret
    exact ⟨rfl, Chg.refl _ _⟩
end Go.Proofs.Ytghabhhnhalpgaa

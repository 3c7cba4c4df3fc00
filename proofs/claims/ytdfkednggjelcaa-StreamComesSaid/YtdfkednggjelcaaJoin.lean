
/-
  bytes.Join without a separator, octet's Join: all rows, one behind the other, in memory of its own.
-/
import Derived.Test.YtdfkednggjelcaaOctW
import Derived.Test.YtdfkednggjelcaaSep
import Derived.Lib.SlBuf
import Derived.Lib.MakeNoZero
import Derived.Laws.Externs
namespace Go.Proofs.Ytdfkednggjelcaa
open Go.RowKit

theorem rd_holds {w : World} {A : Option Addr} {c : Nat} {l : List UInt8} (h : Rd w 1 A l.length (cB l)) : Lib.HoldsBytes w (.slice A l.length c) l := by
  refine ⟨A, c, rfl, fun hA => ?_, fun a ha i x hx => ?_⟩
  · rcases Nat.eq_zero_or_pos l.length with h0 | h0
    · exact List.eq_nil_of_length_eq_zero h0
    · obtain ⟨_, h1, _⟩ := h.at_ h0
      rw [hA] at h1; cases h1
  · have hi := (List.getElem?_eq_some_iff.1 hx).1
    obtain ⟨a', h1, _, h2⟩ := h.at_ (by omega)
    rw [ha] at h1
    injection h1 with h1
    subst h1
    exact h2 i _ (by simp [cB, hx])
/-- A full block of bytes of its own: what may be written. -/
def Full (w : World) (A : Option Addr) (n c : Nat) : Prop := c = n ∧ (0 < n → ∃ g, A = some ⟨g, 0, none⟩ ∧ ∀ j, j < n → w.frozen? ⟨g, j, none⟩ = false)
/-- What Join hands back: its bytes read as L, in new blocks; full, or a row of its own. -/
def JoinPost (w : World) (L : List UInt8) (e : Ending) (w' : World) : Prop :=
  ∃ A c, e = .returned (.slice A L.length c) ∧ Rd w' 1 A L.length (cB L) ∧ L.length ≤ c ∧ (0 < L.length → ∀ x ∈ blk A, w.heap.size ≤ x ∧ x < w'.heap.size) ∧ Chg [] w w' ∧ (Full w' A L.length c ∨ w'.ownsRow w.heap.size 5 1 (.slice A L.length c) L.length (cB L))

set_option maxRecDepth 100000 in
set_option maxHeartbeats 3200000 in
theorem join_any (w : World) (A : Option Addr) (n c : Nat) (ls : List SlB) (hn : ls.length = n) (hr : Rd w 1 A ls.length (cR ls)) (hrs : ∀ r ∈ ls, RdB w r) (hls : ls.length ≤ 140737488355328) (hc : ls.length ≤ c) (htot : (ls.map SlB.bs).flatten.length ≤ 1099511627776) :
    Calls Try.prog 85 #[.slice A n c, .slice none 0 0] w (JoinPost w (ls.map SlB.bs).flatten) := by
  subst hn
  obtain ⟨i0, hi, hz0, hz1, hz2⟩ := info_parts info8
  rcases ls with _ | ⟨r0, _ | ⟨r1, rest⟩⟩
  · go_enter Try.func85, Try.ntmps85
    go_wp2_with (fail)
    go_ret
    exact ⟨_, _, rfl, Rd.nil _ _ _, Nat.le_refl _, fun h => absurd h (by simp), (Chg.refl _ _).alloc _, .inl ⟨rfl, fun h => absurd h (by simp)⟩⟩
  · obtain ⟨ad, u, rfl, had, hu, hc0⟩ := hr.get (k := 0) (by simp)
    rw [cR_get (by simp)] at hu
    have hrow : RdB w r0 := hrs _ (by simp)
    have HL : Hid ((List.map SlB.bs [r0]).flatten = r0.bs) := by simp [Hid]
    rw [HL.out] at htot
    rw [HL.out]
    clear HL hrs
    obtain ⟨rA, rc, bs⟩ := r0
    obtain rfl : Value.slice rA bs.length rc = u := by simpa using hu
    simp only [RdB] at hrow htot
    rw [add_zero] at hc0
    clear hu
    go_enter Try.func85, Try.ntmps85
    go_wp2_with (at_builtin; refine wpList_append_rd _ rfl (.const (.slice none 0 0)) (.tmp 21) 47 (by rfl) w.heap.size 5 i0 _ 1 1 Try.underlying47 hi hz0 hz1 hz2 rfl (by omega) (.slice none 0 0) 0 [] (by rfl) (World.ownsRow_nil _ _ _ _) rA bs.length rc (cB bs) (by rfl) hrow (cB_one _) (by unfold maxLen; omega) (by omega) (Nat.le_refl _) ?_; intro A3 c3 w3 hown3 hg3 hb3; simp only [Nat.zero_add, List.nil_append] at hown3)
    go_ret
    exact ⟨A3, c3, by simp, Rd.of_own hown3, own_cap hown3, fun _ => own_in hown3, (Chg.refl [] w).grown hg3 (fun k hk => by simp [Value.ownBlock] at hk), .inr hown3⟩
  · have h2 : 2 ≤ (r0 :: r1 :: rest).length := by simp
    generalize hls' : r0 :: r1 :: rest = ls at *
    clear hls' r0 r1 rest
    have HRS := Lib.hid hrs
    have f0 : ((ls.length : Int) == 0) = false := beq_eq_false_iff_ne.2 (by omega)
    have f1 : ((ls.length : Int) == 1) = false := beq_eq_false_iff_ne.2 (by omega)
    have HPre : Hid (∀ k, k ≤ ls.length → ((ls.take k).map SlB.bs).flatten.length ≤ (ls.map SlB.bs).flatten.length) := fun k _ => by
      have e : ls.map SlB.bs = (ls.take k).map SlB.bs ++ (ls.drop k).map SlB.bs := by rw [← List.map_append, List.take_append_drop]
      rw [e, List.flatten_append, List.length_append]; omega
    have HSnoc : Hid (∀ k (h : k < ls.length), ((ls.take (k + 1)).map SlB.bs).flatten = ((ls.take k).map SlB.bs).flatten ++ ls[k].bs) := fun k h => by
      rw [List.take_succ_eq_append_getElem h, List.map_append, List.flatten_append, List.map_singleton]; simp only [List.flatten_cons, List.flatten_nil, List.append_nil]
    have HAll : Hid (((ls.take ls.length).map SlB.bs).flatten = (ls.map SlB.bs).flatten) := by unfold Hid; rw [List.take_length]
    obtain ⟨L, HL⟩ : ∃ L, Hid ((ls.map SlB.bs).flatten = L) := ⟨_, rfl⟩
    rw [HL.out] at HPre HAll htot
    rw [HL.out]
    clear hrs
    obtain ⟨ad, u, rfl, had, hu0, hc0⟩ := hr.get (k := 0) (by omega)
    clear hu0 hc0 u
    have hs8 : (Try.prog.info? 5).map (·.size) = some 1 := by rw [hi]; simp [hz1]
    go_enter Try.func85, Try.ntmps85
    go_wp2_with (fail)
    go_loop [44, 5] (fun i s => ∃ k : Nat, k ≤ ls.length ∧ i = .int .i64 k ∧ s = .int .i64 (((ls.take k).map SlB.bs).flatten.length : Nat)) (fun i _ => ls.length - (intOf i).toNat)
    case atStart => exact ⟨0, Nat.zero_le _, rfl, rfl⟩
    case round =>
      obtain ⟨k, hk, rfl, rfl⟩ := hrel
      by_cases hlt : k < ls.length
      · obtain ⟨ad', u, hade, _, hu, hc1⟩ := hr.get hlt
        obtain rfl : ad = ad' := by simpa using hade
        rw [cR_get hlt] at hu
        have hp1 := HPre.out (k + 1) hlt
        have HS1 := Lib.hid (HSnoc.out k hlt)
        rw [HS1.out, List.length_append] at hp1
        have HS2 : Hid (((ls.take (k + 1)).map SlB.bs).flatten.length = ((ls.take k).map SlB.bs).flatten.length + ls[k].bs.length) := by unfold Hid; rw [HS1.out, List.length_append]
        generalize ls[k] = r at *
        obtain rfl : Value.slice r.A r.bs.length r.c = u := by simpa using hu
        obtain ⟨rA, rc, bs⟩ := r
        simp only at hc1 hp1 HS2
        clear hu hade HS1
        generalize ((ls.take k).map SlB.bs).flatten.length = acc at *
        have hb : ¬ (9223372036854775807 - (acc : Int) < (bs.length : Int)) := by omega
        go_wp2_with (fail)
        go_round
        case rel => exact ⟨k + 1, by omega, by go_num, by rw [HS2.out]; go_num⟩
        case measure => simp [intOf]; omega
      · obtain rfl : k = ls.length := by omega
        rw [HAll.out]
        obtain ⟨cs, hrunM, hle, _⟩ := Lib.run_makeNoZero (P := Try.prog) w #[3] 47 5 Try.underlying47 L.length (by omega)
        have hcall : (callFunc 86 #[.int .i64 (L.length : Int)]).run Try.prog w = .ok (.value (.slice (some ⟨w.heap.size, 0, none⟩) L.length cs.size)) ((w.alloc (.cells cs 5)).drewN 2) := by
          rw [run_callFunc_extern Try.func86 (by kernel_rfl) (by kernel_rfl) (by kernel_rfl) (e := Extern.BytealgMakeNoZero.makeNoZero #[3] #[47]) (by kernel_rfl), hrunM]
          rfl
        clear hrunM
        have i0' : (0 : Int) ≤ (L.length : Int) := by omega
        have i1' : (L.length : Int) ≤ (cs.size : Int) := by omega
        have hB0 := Lib.Buf.start w cs 5 L.length 2 hle
        obtain ⟨ad', u, hade, _, hu, hc1⟩ := hr.get (k := 0) (by omega)
        obtain rfl : ad = ad' := by simpa using hade
        rw [cR_get (by omega)] at hu
        have hrow0 := HRS.out _ (List.getElem_mem (show 0 < ls.length by omega))
        have HS1 := Lib.hid (HSnoc.out 0 (by omega))
        have hp1 := HPre.out 1 (by omega)
        rw [HS1.out] at hp1
        generalize ls[0] = r at *
        obtain rfl : Value.slice r.A r.bs.length r.c = u := by simpa using hu
        obtain ⟨rA, rc, bs⟩ := r
        simp only [RdB, List.take_zero, List.map_nil, List.flatten_nil, List.nil_append, add_zero] at hc1 hp1 hrow0 HS1
        clear hu hade
        obtain ⟨w1, hr1, hB1⟩ := Lib.copy_part (P := Try.prog) w _ w.heap.size L.length [] bs (.slice rA bs.length rc) 47 3 5 Try.underlying47 hs8 (Nat.le_refl _) hB0 (rd_holds hrow0) (by simpa using hp1)
        rw [List.length_nil, Lib.tailV_zero] at hr1
        rw [List.nil_append] at hB1
        have hc2 : ((w.alloc (.cells cs 5)).drewN 2).cell? ad = some (.slice rA bs.length rc) := Lib.Below.cellOf hB0.below hc1 (Nat.le_refl _)
        have HB1 := Lib.hid hB1
        clear hB0 hB1 hc1 hrow0
        go_wp2_with (at_builtin; refine Lib.wpList_copy_run _ rfl _ _ 47 47 rfl _ _ rfl rfl hr1 ?_)
        have HS1' : Hid (bs = ((ls.take 1).map SlB.bs).flatten) := HS1.out.symm
        have hsz := fun W => (by simp [sizeOf, typeInfo, hi, hz1] : (Go.sizeOf 5).run Try.prog W = .ok 1 W)
        have Hsz := Lib.hid hsz
        clear hr1 hc2 hcall HS1 hsz
        go_loopw [72, 9] (fun i s wr => ∃ (j : Nat) (acc : List UInt8), j ≤ ls.length - 1 ∧ i = .int .i64 j ∧ s = .int .i64 acc.length ∧ Hid (Lib.Buf w wr w.heap.size L.length acc) ∧ Hid (acc = ((ls.take (j + 1)).map SlB.bs).flatten)) (fun i _ _ => ls.length - 1 - (intOf i).toNat)
        case atStart => exact ⟨0, bs, Nat.zero_le _, rfl, rfl, HB1, HS1'⟩
        case round =>
          obtain ⟨j, acc, hj, rfl, rfl, HB, HA⟩ := hrel
          by_cases hjl : j < ls.length - 1
          · obtain ⟨ad', u, hade, _, hu, hc1⟩ := hr.get (k := j + 1) (by omega)
            obtain rfl : ad = ad' := by simpa using hade
            rw [cR_get (by omega)] at hu
            have hrow1 := HRS.out _ (List.getElem_mem (show j + 1 < ls.length by omega))
            have HS2 := Lib.hid (HSnoc.out (j + 1) (by omega))
            have hp2 := HPre.out (j + 1 + 1) (by omega)
            rw [HS2.out, ← HA.out, List.length_append] at hp2
            generalize ls[j + 1] = r at *
            obtain rfl : Value.slice r.A r.bs.length r.c = u := by simpa using hu
            obtain ⟨qA, qc, qs⟩ := r
            simp only [RdB] at hc1 hp2 hrow1 HS2
            clear hu hade
            have hjz : (j : Int) < ((ls.length - 1 : Nat) : Int) := by omega
            have e1 : ad.add (j + 1) = ⟨ad.block, ad.off + 1 + j, none⟩ := by
              unfold Addr.add
              rw [if_neg (by omega), show ad.off + (j + 1) = ad.off + 1 + j by omega]
            rw [e1] at hc1
            clear e1
            have hcw : wr.cell? ⟨ad.block, ad.off + 1 + j, none⟩ = some (.slice qA qs.length qc) := Lib.Below.cellOf HB.out.below hc1 (Nat.le_refl _)
            have hsl1 : ∀ W, (Instr.slice 47 (.slice (some ⟨w.heap.size, 0, none⟩) L.length L.length) (some (.int .i64 (acc.length : Int))) none none).run Try.prog W = .ok (Lib.tailV w.heap.size L.length acc.length) W := fun W => Lib.run_slice_tailV W 47 5 Try.underlying47 Hsz.out _ L.length acc.length (by omega)
            obtain ⟨w2, hr2, hB2⟩ := Lib.copy_part (P := Try.prog) w wr w.heap.size L.length acc [] (.slice none 0 0) 47 3 5 Try.underlying47 hs8 (Nat.le_refl _) HB.out ⟨none, 0, rfl, fun _ => rfl, fun a ha => by cases ha⟩ (by simp; omega)
            rw [List.append_nil] at hB2
            have e0 : ((([] : List UInt8).length : Nat) : Int) = 0 := rfl
            rw [e0] at hr2
            clear e0
            obtain ⟨w3, hr3, hB3⟩ := Lib.copy_part (P := Try.prog) w w2 w.heap.size L.length acc qs (.slice qA qs.length qc) 47 3 5 Try.underlying47 hs8 (Nat.le_refl _) hB2 (rd_holds hrow1) (by omega)
            have HB3 := Lib.hid hB3
            clear hB2 hB3 hc1 hrow1
            go_wp2_with (at_builtin; first | refine Lib.wpList_copy_run _ rfl _ _ 47 47 rfl _ _ rfl rfl hr2 ?_ | refine Lib.wpList_copy_run _ rfl _ _ 47 47 rfl _ _ rfl rfl hr3 ?_)
            go_roundw
            case rel => exact ⟨j + 1, acc ++ qs, by omega, by go_num, by simp, HB3, by unfold Hid; rw [HS2.out, ← HA.out]⟩
            case measure => simp [intOf]; omega
          · obtain rfl : j = ls.length - 1 := by omega
            have hacc : acc = L := by
              have h := HA.out
              rw [show ls.length - 1 + 1 = ls.length by omega, HAll.out] at h
              exact h
            subst hacc
            go_wp2_with (fail)
            go_ret
            have hB := HB.out
            have hlt := hB.below.size
            refine ⟨some ⟨w.heap.size, 0, none⟩, acc.length, rfl, ⟨by simp [cB_len], fun h0 => ⟨_, rfl, ?_, fun i u hu => ?_⟩⟩, Nat.le_refl _, fun h0 x hx => ?_, Chg.of_below hB.below _, .inl ⟨rfl, fun _ => ⟨_, rfl, fun j hj => hB.free j hj⟩⟩⟩
            · have := hB.there 0 h0
              cases hce : wr.cell? ⟨w.heap.size, 0, none⟩ with
              | none => rw [hce] at this; simp at this
              | some v => exact World.block_lt_of_cell? _ _ hce
            · have hi := (List.getElem?_eq_some_iff.1 hu).1
              rw [cB_len] at hi
              rw [cB_get hi] at hu
              injection hu with hu
              have e : (⟨w.heap.size, 0, none⟩ : Addr).add i = ⟨w.heap.size, i, none⟩ := by unfold Addr.add; split <;> simp_all
              rw [e, hB.holds i acc[i] (List.getElem?_eq_getElem hi), hu]
            · have := hB.there 0 h0
              simp [blk] at hx
              subst hx
              refine ⟨Nat.le_refl _, ?_⟩
              cases hce : wr.cell? ⟨w.heap.size, 0, none⟩ with
              | none => rw [hce] at this; simp at this
              | some v => exact World.block_lt_of_cell? _ _ hce

/-- octet's Join; the rows' bytes under a name. -/
theorem octJoin_any (w : World) (A : Option Addr) (n c : Nat) (ls : List SlB) (L : List UInt8) (hL : Hid ((ls.map SlB.bs).flatten = L)) (hn : ls.length = n) (hr : Rd w 1 A ls.length (cR ls)) (hrs : ∀ r ∈ ls, RdB w r) (hls : ls.length ≤ 140737488355328) (hc : ls.length ≤ c) (htot : L.length ≤ 1099511627776) :
    Calls Try.prog 75 #[.slice A n c] w (JoinPost w L) := by
  have h := join_any w A n c ls hn hr hrs hls hc (by rw [hL.out]; exact htot)
  rw [hL.out] at h
  have H := Lib.hid h
  clear h
  go_enter Try.func75, Try.ntmps75
  go_wp2_with (fail)
  refine (H.out).mono ?_
  rintro e w1 ⟨A1, c1, rfl, h1, h2, h3, h4, h5⟩
  go_wp2_with (fail)
  go_ret
  exact ⟨A1, c1, rfl, h1, h2, h3, h4, h5⟩
end Go.Proofs.Ytdfkednggjelcaa

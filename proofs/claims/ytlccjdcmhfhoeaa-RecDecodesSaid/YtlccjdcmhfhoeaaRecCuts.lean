
/-
  RecCuts: the walk of the law.
-/
import Derived.Test.YtlccjdcmhfhoeaaRecD
import Derived.Test.YtlccjdcmhfhoeaaRecApart
import Derived.Test.YtlccjdcmhfhoeaaMask
import Derived.OpenShut
namespace Go.Proofs.Ytlccjdcmhfhoeaa
open Go.RowKit Go.ChangeShapes
set_option linter.unusedVariables false

set_option maxRecDepth 100000 in
set_option maxHeartbeats 6400000 in
theorem recCuts_law (w : World) (x : RcV) (hx : x.In w) (v : Int) (hv : (Lit.int .i64 v).wf = true) (z : Int) (hz : (Lit.int .u8 z).wf = true) :
    Calls Try.prog 7 #[.agg x.cells.toArray, .int .i64 v, .int .u8 z] w fun e w' => e = .returned (.bool true) ∧ Chg [] w w' := by
  rw [x.arr]
  obtain ⟨i0, hi, hz0, hz1, hz2⟩ := info_parts info8
  obtain ⟨⟨o, q, key, m, c, vo, val, gone, ttl⟩, A, cp⟩ := x
  obtain ⟨rx, _, _, kx, vx, _⟩ := hx
  simp only at rx kx vx ⊢
  have RX := Lib.hid rx
  have hzb := bounds_u8 hz
  obtain ⟨Z, rfl⟩ := Int.eq_ofNat_of_zero_le hzb.1
  have hZ : Z < 256 := by omega
  clear rx hv hz hzb
  have h1 := (All.start w).newAt 28 #[.int .i64 o, .int .i64 q, .string ⟨key.toArray⟩, .int .i64 m, .int .i64 c, .int .i64 vo, .slice A val.length cp, .bool gone, .int .i64 ttl] rfl
  go_enter Try.func7, Try.ntmps7
  go_wp2_with (fail)
  refine (heavyR_any _ _ _ _ [⟨⟨o, q, key, m, c, vo, val, gone, ttl⟩, A, cp⟩] rfl (Rd.new' (by simp) rfl rfl) (by simp) (by intro z hz; obtain rfl := List.mem_singleton.1 hz; exact ⟨kx, vx⟩)).mono ?_
  rintro e w1 ⟨hv1, rfl, _, hch1⟩
  have h2 := (h1.quiet ((Chg.refl [] _).alloc _)).quiet hch1
  clear h1 hch1
  have hat1 := h2.get 0 rfl
  cases hv1
  · have hz1' := hat1.lt
    have a0 := hat1.cell 0
    have a1 := hat1.cell 1
    have a2 := hat1.cell 2
    have a3 := hat1.cell 3
    have a4 := hat1.cell 4
    have a5 := hat1.cell 5
    have a6 := hat1.cell 6
    have a7 := hat1.cell 7
    have a8 := hat1.cell 8
    obtain ⟨s, hs⟩ : ∃ s, Hid (isR ⟨o, q, key, m, c, vo, val, gone, ttl⟩ = s) := ⟨_, rfl⟩
    cases s
    · go_wp2_with (fail)
      refine (recEncode_no _ o q key m c vo A val cp gone ttl hs.out).mono ?_
      rintro e w2 ⟨rfl, hch2⟩
      have h3 := h2.quiet hch2
      clear h2 hch2 hat1 a0 a1 a2 a3 a4 a5 a6 a7 a8
      have hat1 := h3.get 0 rfl
      have a0 := hat1.cell 0
      have a1 := hat1.cell 1
      have a2 := hat1.cell 2
      have a3 := hat1.cell 3
      have a4 := hat1.cell 4
      have a5 := hat1.cell 5
      have a6 := hat1.cell 6
      have a7 := hat1.cell 7
      have a8 := hat1.cell 8
      go_wp2_with (first
        | (go_at_call 13; (with_reducible refine (refIsR_to _ o q key m c vo A val cp gone ttl _ hs.out).mono ?_); rintro e w9 ⟨rfl, hch9⟩)
        | (go_at_call 14; (with_reducible refine (knownR_any _).mono ?_); rintro e w10 ⟨rfl, hch10⟩))
      go_ret
      exact ⟨rfl, h3.chg.trans (hch9.trans hch10 (by simp)) (by simp)⟩
    · go_wp2_with (fail)
      refine (recEncode_yes _ o q key m c vo A val cp gone ttl hs.out (RX.out.keep0 h2.chg)).mono ?_
      rintro e w2 ⟨A2, c2, rfl, hown2, hch2⟩
      have hc2 := h2.chg.trans hch2 (by simp)
      have hI := isR_iff.1 hs.out
      have hpos := encR_pos ⟨o, q, key, m, c, vo, val, gone, ttl⟩
      have hsm := encR_small hI
      have HC : Hid (∀ k, k < (encR ⟨o, q, key, m, c, vo, val, gone, ttl⟩).length → decR ((encR ⟨o, q, key, m, c, vo, val, gone, ttl⟩).take k) = none) := fun k hk => decR_cut hI hk
      have HM : Hid (decR (encR ⟨o, q, key, m, c, vo, val, gone, ttl⟩ ++ [UInt8.ofNat Z]) = none) := decR_more hI (by simp)
      obtain ⟨E, hE⟩ : ∃ E, Hid (encR ⟨o, q, key, m, c, vo, val, gone, ttl⟩ = E) := ⟨_, rfl⟩
      rw [hE.out] at hown2 hpos hsm HC HM ⊢
      have hcap := own_cap hown2
      have hr2 := Rd.of_own hown2
      obtain ⟨a, eand, ha⟩ := and16m v
      have hil : a % E.length < E.length := Nat.mod_lt _ (by omega)
      obtain ⟨ix, HIX⟩ : ∃ ix, Hid (a % E.length = ix) := ⟨_, rfl⟩
      rw [HIX.out] at hil
      have hmod : ((a : Int)) % (E.length : Int) = (ix : Int) := by rw [← HIX.out]; omega
      have hlE : ((E.length : Int) == 0) = false := by rw [beq_eq_false_iff_ne]; omega
      have sL := fun w => run_slice_hi (P := Try.prog) w Try.underlying24 hi A2 E.length c2 (ix : Int) ix rfl (by omega)
      have lK : Hid ((E.take ix).length = ix) := by unfold Hid; rw [List.length_take]; omega
      have HD := Lib.hid (recDecode_any w2 A2 ix c2 (E.take ix) lK.out (Rd.takeB hr2 (by omega)) (by rw [lK.out]; omega))
      rw [HC.out ix hil] at HD
      clear hI hE hown2 hat1 a0 a1 a2 a3 a4 a5 a6 a7 a8 h2 hch2
      go_wp2_with (fail)
      refine HD.out.mono ?_
      rintro e w3 ⟨x3, rfl, hx3, _, hch3⟩
      obtain ⟨r3, A3, cp3⟩ := x3
      simp only at hx3
      subst hx3
      simp only [RcV.cells, Rc.z, Option.isSome_none, Option.getD_none]
      have hr3 := hr2.keep0 hch3
      clear HD eand hmod sL
      have hc3 : Chg [] w (w3.alloc (.cells #[.int .i64 0, .int .i64 0, .string ⟨#[]⟩, .int .i64 0, .int .i64 0, .int .i64 0, .slice A3 0 cp3, .bool false, .int .i64 0] 28)) := (hc2.trans hch3 (by simp)).alloc _
      have own0 : ((w3.alloc (.cells #[.int .i64 0, .int .i64 0, .string ⟨#[]⟩, .int .i64 0, .int .i64 0, .int .i64 0, .slice A3 0 cp3, .bool false, .int .i64 0] 28)).alloc (.cells #[] 5)).ownsRow w3.heap.size 5 1 (.slice (some ⟨w3.heap.size + 1, 0, none⟩) 0 0) 0 [] := by
        have h := World.ownsRow_made (base := w3.heap.size) (e := 5) (size := 1) (w3.alloc (.cells #[.int .i64 0, .int .i64 0, .string ⟨#[]⟩, .int .i64 0, .int .i64 0, .int .i64 0, .slice A3 0 cp3, .bool false, .int .i64 0] 28)) #[] 0 (by simp) (by simp [maxLen]) rfl
        have e : (w3.alloc (.cells #[.int .i64 0, .int .i64 0, .string ⟨#[]⟩, .int .i64 0, .int .i64 0, .int .i64 0, .slice A3 0 cp3, .bool false, .int .i64 0] 28)).heap.size = w3.heap.size + 1 := by simp
        rw [e] at h
        exact h
      have hrr : Hid (Rd ((w3.alloc (.cells #[.int .i64 0, .int .i64 0, .string ⟨#[]⟩, .int .i64 0, .int .i64 0, .int .i64 0, .slice A3 0 cp3, .bool false, .int .i64 0] 28)).alloc (.cells #[] 5)) 1 A2 E.length (cB E)) := (hr3.alloc _).alloc _
      go_wp2_with (first
        | (at_builtin
           refine wpList_append_rd _ rfl (.tmp 46) (.tmp 47) 24 (by rfl) w3.heap.size 5 i0 _ 1 1 Try.underlying24 hi hz0 hz1 hz2 rfl (by omega) (.slice (some ⟨w3.heap.size + 1, 0, none⟩) 0 0) 0 [] (by rfl) own0 A2 E.length c2 (cB E) (by rfl) hrr.out (cB_one _) (by unfold maxLen; omega) (by omega) (by simp; omega) ?_
           intro A5 c5 w5 hown5 hg5 hb5
           simp only [Nat.zero_add, List.nil_append] at hown5
           have hch5 : Hid (Chg [] w w5) := (hc3.alloc _).grown hg5 (fun k hk => .inr (by simp [Value.ownBlock] at hk; have := (hc2.trans hch3 (by simp)).size; omega))
           have hs5 := hg5.size
           clear hg5 hb5)
        | (at_builtin
           refine wpList_append_rd _ rfl (.tmp 48) (.tmp 50) 24 (by rfl) w3.heap.size 5 i0 _ 1 1 Try.underlying24 hi hz0 hz1 hz2 rfl (by omega) (.slice A5 E.length c5) E.length (cB E) (by rfl) (hown5.alloc _) (some ⟨w5.heap.size, 0, none⟩) 1 1 [.int .u8 Z] (by rfl) (Rd.new' rfl rfl rfl) (by simp [Value.oneCell']) (by unfold maxLen; omega) (by omega) (by simp at hs5 ⊢; omega) ?_
           intro A6 c6 w6 hown6 hg6 hb6
           have hch6 : Hid (Chg [] w w6) := (hch5.out.alloc _).grown hg6 (fun k hk => .inr (by have h1 := (hown5.lt k hk).1; have := (hc2.trans hch3 (by simp)).size; omega))
           clear hg6 hb6))
      have hown6' : w6.ownsRow w3.heap.size 5 1 (.slice A6 (E.length + 1) c6) (E.length + 1) (cB (E ++ [UInt8.ofNat Z])) := by
        rw [cB_app]
        have e : cB [UInt8.ofNat Z] = [.int .u8 (Z : Int)] := by simp only [cB, List.map_cons, List.map_nil]; rw [toNat_ofNatm hZ]
        rw [e]
        exact hown6
      have l6 : Hid ((E ++ [UInt8.ofNat Z]).length = E.length + 1) := by simp [Hid]
      have HD := Lib.hid (recDecode_any w6 A6 _ c6 (E ++ [UInt8.ofNat Z]) l6.out (by rw [l6.out]; exact Rd.of_own hown6') (by rw [l6.out]; omega))
      rw [HM.out] at HD
      clear hown5 hown6 hown6' own0 hrr hr3 hr2 hc3 hcap
      refine HD.out.mono ?_
      rintro e w7 ⟨x7, rfl, hx7, _, hch7⟩
      obtain ⟨r7, A7, cp7⟩ := x7
      simp only at hx7
      subst hx7
      simp only [RcV.cells, Rc.z, Option.isSome_none, Option.getD_none]
      clear HD
      go_wp2_with (go_at_call 14; (with_reducible refine (knownR_any _).mono ?_); rintro e w10 ⟨rfl, hch10⟩)
      go_ret
      exact ⟨rfl, ((hch6.out.trans hch7 (by simp)).alloc _).trans hch10 (by simp)⟩
  · go_wp2_with (fail)
    go_ret
    exact ⟨rfl, h2.chg⟩
end Go.Proofs.Ytlccjdcmhfhoeaa

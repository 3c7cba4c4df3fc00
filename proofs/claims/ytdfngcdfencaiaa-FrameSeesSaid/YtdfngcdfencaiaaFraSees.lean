
/-
  FrameSees: the walk of the law.
-/
import Derived.Test.YtdfngcdfencaiaaFraL
import Derived.OpenShut
namespace Go.Proofs.Ytdfngcdfencaiaa
open Go.RowKit
set_option linter.unusedVariables false

set_option maxRecDepth 100000 in
set_option maxHeartbeats 6400000 in
theorem frameSees_law (w : World) (x : SlB) (hx : RdB w x ∧ x.bs.length ≤ x.c ∧ x.c ≤ maxLen ∧ x.bs.length ≤ 140737488351232) (y : SlB) (hy : RdB w y ∧ y.bs.length ≤ y.c ∧ y.c ≤ maxLen ∧ y.bs.length ≤ 140737488351232)
    (v : Int) (hv : (Lit.int .i64 v).wf = true) (b : Int) (hb : (Lit.int .u8 b).wf = true) :
    Calls Try.prog 3 #[.slice x.A x.bs.length x.c, .slice y.A y.bs.length y.c, .int .i64 v, .int .u8 b] w fun e w' => e = .returned (.bool true) ∧ Chg [] w w' := by
  obtain ⟨i0, hi, hz0, hz1, hz2⟩ := info_parts info8
  obtain ⟨A, c, p⟩ := x
  obtain ⟨A', c', m⟩ := y
  obtain ⟨rx, hxc, _, hxl⟩ := hx
  obtain ⟨ry, hyc, _, hyl⟩ := hy
  simp only [RdB] at rx ry hxc hxl hyc hyl ⊢
  have RX := Lib.hid rx
  have RY := Lib.hid ry
  clear rx ry
  have hby := bounds_u8 hb
  obtain ⟨Y, rfl⟩ := Int.eq_ofNat_of_zero_le hby.1
  have hY : Y ≤ 255 := by omega
  clear hby hb hv
  by_cases hlen : 4000 < p.length + m.length
  · go_enter Try.func3, Try.ntmps3
    go_wp2_with (fail)
    go_ret
    exact ⟨rfl, Chg.refl _ _⟩
  by_cases hY0 : Y = 0
  · subst hY0
    go_enter Try.func3, Try.ntmps3
    go_wp2_with (fail)
    go_ret
    exact ⟨rfl, Chg.refl _ _⟩
  have hYb : ((Y : Int) == 0) = false := by rw [beq_eq_false_iff_ne]; omega
  go_enter Try.func3, Try.ntmps3
  go_wp2_with (fail)
  (with_reducible refine (frEncode_any _ _ 1 1 [⟨A, c, p⟩] p (by simp [Hid]) rfl ?_ ?_ (by simp) (by simp) (by omega)).mono ?_)
  · exact Rd.new' rfl rfl rfl
  · intro r hr
    obtain rfl := List.mem_singleton.1 hr
    exact RX.out.alloc _
  rintro e w1 ⟨A1, c1, rfl, r1, hc1, hb1, hch1, _⟩
  have l1 := Lib.hid (encF_len p)
  have hpos : 0 < (encF p).length := by rw [l1.out]; omega
  have hle : (encF p).length ≤ 4012 := by rw [l1.out]; omega
  have HSee := Lib.hid (fun (i : Nat) (x y : UInt8) (hy : (encF p)[i]? = some y) (hx : x ≠ y) => decF_see (p := p) (X := m) (by omega) hy hx)
  obtain ⟨E, hE⟩ : ∃ E, Hid (encF p = E) := ⟨_, rfl⟩
  rw [hE.out] at r1 hpos hle HSee ⊢
  clear hb1 hc1 l1
  have hlE : ((E.length : Int) == 0) = false := by rw [beq_eq_false_iff_ne]; omega
  have hlE' : ¬ (E.length : Int) = 0 := by omega
  have hs1 := hch1.size
  simp at hs1
  obtain ⟨a, eand, ha⟩ := and30m v
  have hil : a % E.length < E.length := Nat.mod_lt _ (by omega)
  obtain ⟨ix, HIX⟩ : ∃ ix, Hid (a % E.length = ix) := ⟨_, rfl⟩
  rw [HIX.out] at hil
  have hmod : ((a : Int)) % (E.length : Int) = (ix : Int) := by rw [← HIX.out]; omega
  have i0' : (0 : Int) ≤ (ix : Int) := by omega
  have i1' : (ix : Int) < (E.length : Int) := by omega
  have HX := Lib.hid (u8_xor_nat E[ix].toNat Y E[ix].toNat_lt (by omega))
  have HG := Lib.hid (List.getElem?_eq_getElem hil)
  have hbl := E[ix].toNat_lt
  have HNe := Lib.hid (xor_nem E[ix] Y hY0 (by omega))
  have HTn : Hid ((UInt8.ofNat (E[ix].toNat ^^^ Y)).toNat = E[ix].toNat ^^^ Y) := toNat_ofNatm (Nat.xor_lt_two_pow (n := 8) hbl (by omega))
  have HCB := Lib.hid (cB_get hil)
  generalize E[ix] = b at *
  have hx8 := HX.out
  have HSe := Lib.hid (HSee.out ix _ _ HG.out HNe.out)
  have hm2 : m.length ≤ 4000 := by omega
  clear hY0 hlen
  go_wp2_with (first
    | (at_builtin
       refine wpList_append_rd _ rfl (.tmp 37) (.tmp 38) 22 (by rfl) w1.heap.size 5 i0 _ 1 1 Try.underlying22 hi hz0 hz1 hz2 rfl (by omega) (.slice (some ⟨w1.heap.size, 0, none⟩) 0 0) 0 [] (by rfl) (World.ownsRow_made w1 #[] 0 (Nat.le_refl _) (by simp [maxLen]) rfl) A1 E.length c1 (cB E) (by rfl) (r1.alloc _) (cB_one _) (by unfold maxLen; omega) (by omega) (by simp) ?_
       intro A2 c2 w2 hown2 hg2 hb2
       simp only [Nat.zero_add, List.nil_append] at hown2
       have hch2 : Chg [] w1 w2 := ((Chg.refl [] w1).alloc _).grown hg2 (fun k hk => .inr (by simp [Value.ownBlock] at hk; omega))
       clear hg2 hb2
       obtain ⟨g, rfl, hg0, hg1, hcell, hfree⟩ := own_cells hown2 (by omega)
       have hce := hcell ix _ HCB.out
       have hfr := hfree ix
       clear hcell hfree)
    | (at_builtin
       have hown3 := own_set hown2 ix (.int .u8 ((b.toNat ^^^ Y : Nat) : Int))
       have hcs : Hid ((cB E).set ix (.int .u8 ((b.toNat ^^^ Y : Nat) : Int)) = cB (E.set ix (UInt8.ofNat (b.toNat ^^^ Y)))) := by unfold Hid; rw [cB_setm, HTn.out]
       rw [hcs.out] at hown3
       have hch3 : Hid (Chg [] w1 (w2.setCell ⟨g, ix, none⟩ (.int .u8 ((b.toNat ^^^ Y : Nat) : Int)))) := hch2.setCell (.inr hg0) _
       refine wpList_append_rd _ rfl (.tmp 52) (.tmp 53) 22 (by rfl) w1.heap.size 5 i0 _ 1 1 Try.underlying22 hi hz0 hz1 hz2 rfl (by omega) (.slice (some ⟨g, 0, none⟩) E.length c2) E.length (cB (E.set ix (UInt8.ofNat (b.toNat ^^^ Y)))) (by rfl) hown3 A' m.length c' (cB m) (by rfl) (RY.out.keep0 ((((Chg.refl [] w).alloc _).trans hch1 (by simp)).trans hch3.out (by simp))) (cB_one _) (by unfold maxLen; omega) (by omega) (by have := hch3.out.size; simp at this ⊢; omega) ?_
       intro A4 c4 w4 hown4 hg4 hb4
       have hch4 : Hid (Chg [] w1 w4) := hch3.out.grown hg4 (fun k hk => .inr (hown3.lt k hk).1)))
  rw [← cB_app] at hown4
  have lE2 : Hid ((E.set ix (UInt8.ofNat (b.toNat ^^^ Y)) ++ m).length = E.length + m.length) := by unfold Hid; simp
  have hca := own_cap hown4
  have HD := Lib.hid (frDecode_any w4 A4 (E.length + m.length) c4 _ lE2.out (by rw [lE2.out]; exact Rd.of_own hown4) (by rw [lE2.out]; exact hca) (by rw [lE2.out]; omega))
  have hbad := Lib.hid (decF_bad HSe.out)
  obtain ⟨t, ht⟩ : ∃ t, Hid (decF (E.set ix (UInt8.ofNat (b.toNat ^^^ Y)) ++ m) = t) := ⟨_, rfl⟩
  rw [ht.out] at HD HSe hbad
  obtain ⟨tp, tn, te⟩ := t
  obtain ⟨e1, e2⟩ := hbad.out
  simp only at e1 e2
  subst e1 e2
  have hte : ((te : Int) != 0) = true := by rw [bne_iff_ne]; have h := HSe.out; simp only at h; omega
  clear ht hbad HSe hown4 hca lE2 hx8 hmod eand
  refine HD.out.mono ?_
  rintro e w5 ⟨A5, c5, rfl, hown5, hch5⟩
  simp only at hown5 ⊢
  go_wp2_with (go_at_call 10; refine (knownF_any _).mono ?_; rintro e w6 ⟨rfl, hch6⟩)
  go_ret
  refine ⟨rfl, ?_⟩
  exact ((((Chg.refl [] w).alloc _).trans hch1 (by simp)).trans hch4.out (by simp)).trans (hch5.trans hch6 (by simp)) (by simp)
end Go.Proofs.Ytdfngcdfencaiaa

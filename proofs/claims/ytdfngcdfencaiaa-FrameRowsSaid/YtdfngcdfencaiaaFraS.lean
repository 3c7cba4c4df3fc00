
/-
  One and Scan, of both.
-/
import Derived.Test.YtdfngcdfencaiaaFraD2
namespace Go.Proofs.Ytdfngcdfencaiaa
open Go.RowKit
set_option linter.unusedVariables false

def oneF (L : List UInt8) : List UInt8 × Nat := if (decF L).e = 0 ∧ (decF L).n ≠ L.length then ([], 3) else ((decF L).p, (decF L).e)
def OneFPost (w : World) (t : List UInt8 × Nat) (e : Ending) (w' : World) : Prop := ∃ A c, e = .returned (.tuple #[.slice A t.1.length c, .int .i64 t.2]) ∧ w'.ownsRow w.heap.size 5 1 (.slice A t.1.length c) t.1.length (cB t.1) ∧ Chg [] w w'
theorem oneF_3 {L : List UInt8} (h : (decF L).e = 0) (h2 : (decF L).n ≠ L.length) : oneF L = ([], 3) := by unfold oneF; rw [if_pos ⟨h, h2⟩]
theorem oneF_0 {L : List UInt8} (h : (decF L).e = 0) (h2 : (decF L).n = L.length) : oneF L = ((decF L).p, 0) := by unfold oneF; rw [if_neg (by simp [h2]), h]
theorem oneF_e {L : List UInt8} (h : (decF L).e ≠ 0) : oneF L = ([], (decF L).e) := by unfold oneF; rw [if_neg (by simp [h]), (decF_bad h).1]
theorem OneFPost.bad {w w' : World} {t : List UInt8 × Nat} (n : Nat) (ht : t = ([], n)) (h : Chg [] w w') : OneFPost w t (.returned (.tuple #[.slice none 0 0, .int .i64 n])) w' := by
  subst ht
  exact ⟨none, 0, rfl, own_none _ _ _ _, h⟩
theorem OneFPost.is {w w' : World} {t : List UInt8 × Nat} {A : Option Addr} {n c : Nat} {z : Int} (p : List UInt8) (k : Nat) (ht : t = (p, k)) (hn : p.length = n) (hz : z = (k : Int)) (ho : w'.ownsRow w.heap.size 5 1 (.slice A n c) n (cB p)) (h : Chg [] w w') : OneFPost w t (.returned (.tuple #[.slice A n c, .int .i64 z])) w' := by
  subst ht hn hz
  exact ⟨A, c, rfl, ho, h⟩

set_option maxRecDepth 100000 in
set_option maxHeartbeats 1600000 in
theorem frOne_any (w : World) (A : Option Addr) (n c : Nat) (L : List UInt8) (hn : L.length = n) (hr : Rd w 1 A L.length (cB L)) (hc : L.length ≤ c) (hl : L.length ≤ 1099511627776) :
    Calls Try.prog 13 #[.slice A n c] w (OneFPost w (oneF L)) := by
  subst hn
  have h3 := Lib.hid (oneF_3 (L := L))
  have h0 := Lib.hid (oneF_0 (L := L))
  have he := Lib.hid (oneF_e (L := L))
  have HD := frDecode_any w A _ c L rfl hr hc hl
  obtain ⟨t, ht⟩ : ∃ t, Hid (decF L = t) := ⟨_, rfl⟩
  have hb := Lib.hid (decF_bad (L := L))
  rw [ht.out] at h3 h0 he HD hb
  obtain ⟨u, hu⟩ : ∃ u, Hid (oneF L = u) := ⟨_, rfl⟩
  rw [hu.out] at h3 h0 he ⊢
  obtain ⟨p, m, x⟩ := t
  simp only at h3 h0 he hb
  have HD' := Lib.hid HD
  clear HD hr hc
  go_enter Try.func13, Try.ntmps13
  go_wp2_with (fail)
  refine HD'.out.mono ?_
  rintro e w1 ⟨A1, c1, rfl, hown1, hch1⟩
  simp only at hown1 ⊢
  have hpl := Lib.hid (rfl : p.length = p.length)
  by_cases hx : x = 0
  · have hbx : ((x : Int) == 0) = true := by rw [hx]; rfl
    by_cases hm : m = L.length
    · have hbm : ((m : Int) != (L.length : Int)) = false := by rw [hm]; simp
      have Hx := Lib.hid hx
      have Hm := Lib.hid hm
      clear hx hm
      go_wp2_with (fail)
      go_ret2
      exact OneFPost.is p 0 (h0.out Hx.out Hm.out) rfl (by have := Hx.out; omega) hown1 hch1
    · have hbm : ((m : Int) != (L.length : Int)) = true := by rw [bne_iff_ne]; omega
      have Hx := Lib.hid hx
      have Hm := Lib.hid hm
      clear hx hm
      go_wp2_with (fail)
      go_ret2
      exact OneFPost.bad 3 (h3.out Hx.out Hm.out) hch1
  · have hbx : ((x : Int) == 0) = false := by rw [beq_eq_false_iff_ne]; omega
    have Hx := Lib.hid hx
    clear hx
    go_wp2_with (fail)
    go_ret2
    obtain ⟨rfl, rfl⟩ := hb.out Hx.out
    exact OneFPost.is [] x (he.out Hx.out) rfl rfl hown1 hch1

set_option maxRecDepth 100000 in
set_option maxHeartbeats 1600000 in
theorem refOneF_any (w : World) (A : Option Addr) (n c : Nat) (L : List UInt8) (hn : L.length = n) (hr : Rd w 1 A L.length (cB L)) (hc : L.length ≤ c) (hl : L.length ≤ 1099511627776) :
    Calls Try.prog 18 #[.slice A n c] w (OneFPost w (oneF L)) := by
  subst hn
  have h3 := Lib.hid (oneF_3 (L := L))
  have h0 := Lib.hid (oneF_0 (L := L))
  have he := Lib.hid (oneF_e (L := L))
  have HD := refDecF_any w A _ c L rfl hr hc hl
  obtain ⟨t, ht⟩ : ∃ t, Hid (decF L = t) := ⟨_, rfl⟩
  rw [ht.out] at h3 h0 he HD
  obtain ⟨u, hu⟩ : ∃ u, Hid (oneF L = u) := ⟨_, rfl⟩
  rw [hu.out] at h3 h0 he ⊢
  obtain ⟨p, m, x⟩ := t
  simp only at h3 h0 he
  have HD' := Lib.hid HD
  clear HD hr hc
  go_enter Try.func18, Try.ntmps18
  go_wp2_with (fail)
  refine HD'.out.mono ?_
  rintro e w1 ⟨A1, c1, rfl, hown1, hch1⟩
  simp only at hown1 ⊢
  by_cases hx : x = 0
  · have hbx : ((x : Int) == 0) = true := by rw [hx]; rfl
    have hbx' : ((x : Int) != 0) = false := by rw [hx]; rfl
    by_cases hm : m = L.length
    · have hbm : ((m : Int) != (L.length : Int)) = false := by rw [hm]; simp
      have Hx := Lib.hid hx
      have Hm := Lib.hid hm
      clear hx hm
      go_wp2_with (fail)
      go_ret2
      exact OneFPost.is p 0 (h0.out Hx.out Hm.out) rfl rfl hown1 hch1
    · have hbm : ((m : Int) != (L.length : Int)) = true := by rw [bne_iff_ne]; omega
      have Hx := Lib.hid hx
      have Hm := Lib.hid hm
      clear hx hm
      go_wp2_with (fail)
      go_ret2
      exact OneFPost.bad 3 (h3.out Hx.out Hm.out) hch1
  · have hbx : ((x : Int) == 0) = false := by rw [beq_eq_false_iff_ne]; omega
    have hbx' : ((x : Int) != 0) = true := by rw [bne_iff_ne]; omega
    have Hx := Lib.hid hx
    clear hx
    go_wp2_with (fail)
    go_ret2
    exact OneFPost.bad x (he.out Hx.out) hch1

/-! ### Scan -/

theorem own_ne {w : World} {b b' : Nat} {e e' : TypeId} {s s' n n' : Nat} {v v' : Value} {xs ys : List Value} (h : w.ownsRow b e s v n xs) (h' : w.ownsRow b' e' s' v' n' ys) (hne : e ≠ e') : ∀ k, v.ownBlock = some k → v'.ownBlock ≠ some k := by
  intro k hk hk'
  rcases h'.2 with ⟨rfl, _⟩ | ⟨g', cap, cur, rfl, _, hh, _⟩
  · simp [Value.ownBlock] at hk'
  · have hg : g' = k := by simpa [Value.ownBlock] using hk'
    subst hg
    exact own_at_ne h (show At w g' e' cur from hh) hne _ hk rfl
/-- Rows of bytes, a row of their own each. -/
def OwnB (w : World) (base : Nat) (r : SlB) : Prop := w.ownsRow base 5 1 (.slice r.A r.bs.length r.c) r.bs.length (cB r.bs)
def ScanPost (w : World) (L : List UInt8) (e : Ending) (w' : World) : Prop := ∃ A c ls, e = .returned (.tuple #[.slice A ls.length c, .int .i64 ((scanF L).2 : Nat)]) ∧ ls.map SlB.bs = (scanF L).1 ∧ w'.ownsRow w.heap.size 22 1 (.slice A ls.length c) ls.length (cR ls) ∧ (∀ r ∈ ls, OwnB w' w.heap.size r) ∧ Chg [] w w'
theorem info_b : (Try.prog.info? 22).map (fun i => (i.zero, i.size, i.bytes)) = some (some (.slice none 0 0), 1, 24) := by kernel_rfl
theorem cR_app (a b : List SlB) : cR (a ++ b) = cR a ++ cR b := by simp [cR]

set_option maxRecDepth 100000 in
set_option maxHeartbeats 1600000 in
theorem frScan_any (w : World) (A : Option Addr) (n c : Nat) (L : List UInt8) (hn : L.length = n) (hr : Rd w 1 A L.length (cB L)) (hc : L.length ≤ c) (hl : L.length ≤ 1099511627776) :
    Calls Try.prog 14 #[.slice A n c] w (ScanPost w L) := by
  subst hn
  obtain ⟨i0, hi, hz0, hz1, hz2⟩ := info_parts info8
  obtain ⟨i1, hi1, hy0, hy1, hy2⟩ := info_parts info_b
  have HR := Lib.hid hr
  clear hr
  go_enter Try.func14, Try.ntmps14
  go_wp2_with (fail)
  go_loopw [4, 5] (fun s i wr => ∃ (k : Nat) (A1 : Option Addr) (c1 : Nat) (ls : List SlB), k ≤ L.length ∧ i = .int .i64 k ∧ s = .slice A1 ls.length c1 ∧ Hid (scanF L = (ls.map SlB.bs ++ (scanF (L.drop k)).1, k + (scanF (L.drop k)).2)) ∧ Hid (ls.length ≤ k) ∧ wr.ownsRow w.heap.size 22 1 (.slice A1 ls.length c1) ls.length (cR ls) ∧ Hid (∀ r ∈ ls, OwnB wr w.heap.size r) ∧ Chg [] w wr) (fun _ i _ => L.length - (intOf i).toNat)
  case atStart => exact ⟨0, none, 0, [], Nat.zero_le _, rfl, rfl, by simp [Hid], by simp [Hid], own_none _ _ _ _, by simp [Hid], Chg.refl _ _⟩
  case round =>
    obtain ⟨k, A1, c1, ls, hk, rfl, rfl, HS, HK, hown, HO, hch⟩ := hrel
    by_cases hlt : k < L.length
    · have sK := fun w => run_slice_lo (P := Try.prog) w Try.underlying22 hi hz1 A L.length c (k : Int) k rfl (by omega)
      have rK := Lib.hid (HR.out.dropB (k := k) (c := c) (by omega) hc)
      have lK : Hid ((L.drop k).length = L.length - k) := by unfold Hid; rw [List.length_drop]
      have hne : Hid (L.drop k ≠ []) := by intro h; have := congrArg List.length h; rw [lK.out] at this; simp at this; omega
      have hyes := Lib.hid (fun h => scanF_yes (L := L.drop k) hne.out h)
      have hno := Lib.hid (fun h => scanF_no (L := L.drop k) (.inr h))
      have hz := Lib.hid (decF_zero (L := L.drop k))
      have HD := Lib.hid (frDecode_any wr (cutA A c k 1) _ (c - k) (L.drop k) lK.out (rK.out.keep0 hch) (by rw [lK.out]; omega) (by rw [lK.out]; omega))
      obtain ⟨t, ht⟩ : ∃ t, Hid (decF (L.drop k) = t) := ⟨_, rfl⟩
      rw [ht.out] at hyes hno hz HD
      obtain ⟨p, m, x⟩ := t
      simp only at hyes hno hz
      clear ht
      go_wp2_with (fail)
      refine HD.out.mono ?_
      rintro e w1 ⟨A2, c2, rfl, hown2, hch2⟩
      simp only at hown2 ⊢
      have hown' := own_k0 hown hch2
      have hch02 := hch.trans hch2 (by simp)
      have hbx : x = 0 ∨ x ≠ 0 := by omega
      rcases hbx with hx | hx
      · have hbx : ((x : Int) != 0) = false := by rw [hx]; rfl
        have HY := Lib.hid (hyes.out hx)
        obtain ⟨hm, hp, hle, hpl⟩ := hz.out hx
        rw [lK.out] at hle
        have hm12 : 12 ≤ m := by omega
        have hkm : k + m ≤ L.length := by omega
        have Hp := Lib.hid hp
        clear hx hp hm hle hyes hno HD sK
        have hs1 := hch02.size
        go_wp2_with (at_builtin; refine wpList_append_rd _ rfl (.tmp 23) (.tmp 25) 30 (by rfl) w.heap.size 22 i1 _ 1 24 Try.underlying30 hi1 hy0 hy1 hy2 rfl (by omega) (.slice A1 ls.length c1) ls.length (cR ls) (by rfl) (hown'.alloc _) (some ⟨w1.heap.size, 0, none⟩) 1 1 (cR [⟨A2, c2, p⟩]) (by rfl) (Rd.new' rfl rfl rfl) (cR_one _) (by have := HK.out; unfold maxLen; omega) (by have := HK.out; omega) (by simp; omega) ?_; intro A3 c3 w3 hown3 hg3 hb3)
        rw [← cR_app] at hown3
        go_roundw
        case rel =>
          have hch03 : Chg [] w w3 := (hch02.alloc _).grown hg3 (fun j hj => .inr (hown'.lt j hj).1)
          refine ⟨k + m, A3, c3, ls ++ [⟨A2, c2, p⟩], hkm, by go_num, by rw [List.length_append]; rfl, ?_, ?_, by rw [List.length_append]; exact hown3, ?_, hch03⟩
          · unfold Hid
            rw [HS.out, HY.out, List.drop_drop]
            simp only [List.map_append, List.map_cons, List.map_nil, List.append_assoc, List.cons_append, List.nil_append, Nat.add_assoc]
          · unfold Hid; rw [List.length_append]; have := HK.out; simp; omega
          · intro r hr
            rcases List.mem_append.1 hr with hr | hr
            · have h1 : OwnB (w1.alloc (.cells #[.slice A2 p.length c2] 22)) w.heap.size r := own_k0 (own_k0 (HO.out r hr) hch2) ((Chg.refl [] _).alloc _)
              exact own_keep h1 (Chg.of_grown hg3) (fun j hj hm => by
                simp only [Option.mem_toList] at hm
                exact own_ne h1 (hown'.alloc _) (by decide) j hj hm)
            · obtain rfl := List.mem_singleton.1 hr
              have h1 : OwnB (w1.alloc (.cells #[.slice A2 p.length c2] 22)) w.heap.size ⟨A2, c2, p⟩ := own_up (own_k0 hown2 ((Chg.refl [] _).alloc _)) hch.size
              exact own_keep h1 (Chg.of_grown hg3) (fun j hj hm => by
                simp only [Option.mem_toList] at hm
                exact own_ne h1 (hown'.alloc _) (by decide) j hj hm)
        case measure => simp [intOf]; omega
      · have hbx : ((x : Int) != 0) = true := by rw [bne_iff_ne]; omega
        have HN := Lib.hid (hno.out hx)
        clear hx hyes hno HD sK hz
        go_wp2_with (fail)
        go_ret2
        have h1 := HS.out
        rw [HN.out] at h1
        simp only [List.append_nil, Nat.add_zero] at h1
        exact ⟨A1, c1, ls, by rw [h1]; rfl, by rw [h1], hown', fun r hr => own_k0 (HO.out r hr) hch2, hch02⟩
    · obtain rfl : k = L.length := by omega
      go_wp2_with (fail)
      go_ret2
      have h1 := HS.out
      rw [List.drop_length, scanF_no (.inl rfl)] at h1
      simp only [List.append_nil, Nat.add_zero] at h1
      exact ⟨A1, c1, ls, by rw [h1]; rfl, by rw [h1], hown, HO.out, hch⟩

set_option maxRecDepth 100000 in
set_option maxHeartbeats 1600000 in
theorem refScan_any (w : World) (A : Option Addr) (n c : Nat) (L : List UInt8) (hn : L.length = n) (hr : Rd w 1 A L.length (cB L)) (hc : L.length ≤ c) (hl : L.length ≤ 1099511627776) :
    Calls Try.prog 19 #[.slice A n c] w (ScanPost w L) := by
  subst hn
  obtain ⟨i0, hi, hz0, hz1, hz2⟩ := info_parts info8
  obtain ⟨i1, hi1, hy0, hy1, hy2⟩ := info_parts info_b
  have HR := Lib.hid hr
  clear hr
  go_enter Try.func19, Try.ntmps19
  go_wp2_with (fail)
  go_loopw [4, 5] (fun s i wr => ∃ (k : Nat) (A1 : Option Addr) (c1 : Nat) (ls : List SlB), k ≤ L.length ∧ i = .int .i64 k ∧ s = .slice A1 ls.length c1 ∧ Hid (scanF L = (ls.map SlB.bs ++ (scanF (L.drop k)).1, k + (scanF (L.drop k)).2)) ∧ Hid (ls.length ≤ k) ∧ wr.ownsRow w.heap.size 22 1 (.slice A1 ls.length c1) ls.length (cR ls) ∧ Hid (∀ r ∈ ls, OwnB wr w.heap.size r) ∧ Chg [] w wr) (fun _ i _ => L.length - (intOf i).toNat)
  case atStart => exact ⟨0, none, 0, [], Nat.zero_le _, rfl, rfl, by simp [Hid], by simp [Hid], own_none _ _ _ _, by simp [Hid], Chg.refl _ _⟩
  case round =>
    obtain ⟨k, A1, c1, ls, hk, rfl, rfl, HS, HK, hown, HO, hch⟩ := hrel
    by_cases hlt : k < L.length
    · have sK := fun w => run_slice_lo (P := Try.prog) w Try.underlying22 hi hz1 A L.length c (k : Int) k rfl (by omega)
      have rK := Lib.hid (HR.out.dropB (k := k) (c := c) (by omega) hc)
      have lK : Hid ((L.drop k).length = L.length - k) := by unfold Hid; rw [List.length_drop]
      have hne : Hid (L.drop k ≠ []) := by intro h; have := congrArg List.length h; rw [lK.out] at this; simp at this; omega
      have hyes := Lib.hid (fun h => scanF_yes (L := L.drop k) hne.out h)
      have hno := Lib.hid (fun h => scanF_no (L := L.drop k) (.inr h))
      have hz := Lib.hid (decF_zero (L := L.drop k))
      have HD := Lib.hid (refDecF_any wr (cutA A c k 1) _ (c - k) (L.drop k) lK.out (rK.out.keep0 hch) (by rw [lK.out]; omega) (by rw [lK.out]; omega))
      obtain ⟨t, ht⟩ : ∃ t, Hid (decF (L.drop k) = t) := ⟨_, rfl⟩
      rw [ht.out] at hyes hno hz HD
      obtain ⟨p, m, x⟩ := t
      simp only at hyes hno hz
      clear ht
      go_wp2_with (fail)
      refine HD.out.mono ?_
      rintro e w1 ⟨A2, c2, rfl, hown2, hch2⟩
      simp only at hown2 ⊢
      have hown' := own_k0 hown hch2
      have hch02 := hch.trans hch2 (by simp)
      have hbx : x = 0 ∨ x ≠ 0 := by omega
      rcases hbx with hx | hx
      · have hbx : ((x : Int) != 0) = false := by rw [hx]; rfl
        have HY := Lib.hid (hyes.out hx)
        obtain ⟨hm, hp, hle, hpl⟩ := hz.out hx
        rw [lK.out] at hle
        have hm12 : 12 ≤ m := by omega
        have hkm : k + m ≤ L.length := by omega
        have Hp := Lib.hid hp
        clear hx hp hm hle hyes hno HD sK
        have hs1 := hch02.size
        go_wp2_with (at_builtin; refine wpList_append_rd _ rfl (.tmp 23) (.tmp 25) 30 (by rfl) w.heap.size 22 i1 _ 1 24 Try.underlying30 hi1 hy0 hy1 hy2 rfl (by omega) (.slice A1 ls.length c1) ls.length (cR ls) (by rfl) (hown'.alloc _) (some ⟨w1.heap.size, 0, none⟩) 1 1 (cR [⟨A2, c2, p⟩]) (by rfl) (Rd.new' rfl rfl rfl) (cR_one _) (by have := HK.out; unfold maxLen; omega) (by have := HK.out; omega) (by simp; omega) ?_; intro A3 c3 w3 hown3 hg3 hb3)
        rw [← cR_app] at hown3
        go_roundw
        case rel =>
          have hch03 : Chg [] w w3 := (hch02.alloc _).grown hg3 (fun j hj => .inr (hown'.lt j hj).1)
          refine ⟨k + m, A3, c3, ls ++ [⟨A2, c2, p⟩], hkm, by go_num, by rw [List.length_append]; rfl, ?_, ?_, by rw [List.length_append]; exact hown3, ?_, hch03⟩
          · unfold Hid
            rw [HS.out, HY.out, List.drop_drop]
            simp only [List.map_append, List.map_cons, List.map_nil, List.append_assoc, List.cons_append, List.nil_append, Nat.add_assoc]
          · unfold Hid; rw [List.length_append]; have := HK.out; simp; omega
          · intro r hr
            rcases List.mem_append.1 hr with hr | hr
            · have h1 : OwnB (w1.alloc (.cells #[.slice A2 p.length c2] 22)) w.heap.size r := own_k0 (own_k0 (HO.out r hr) hch2) ((Chg.refl [] _).alloc _)
              exact own_keep h1 (Chg.of_grown hg3) (fun j hj hm => by
                simp only [Option.mem_toList] at hm
                exact own_ne h1 (hown'.alloc _) (by decide) j hj hm)
            · obtain rfl := List.mem_singleton.1 hr
              have h1 : OwnB (w1.alloc (.cells #[.slice A2 p.length c2] 22)) w.heap.size ⟨A2, c2, p⟩ := own_up (own_k0 hown2 ((Chg.refl [] _).alloc _)) hch.size
              exact own_keep h1 (Chg.of_grown hg3) (fun j hj hm => by
                simp only [Option.mem_toList] at hm
                exact own_ne h1 (hown'.alloc _) (by decide) j hj hm)
        case measure => simp [intOf]; omega
      · have hbx : ((x : Int) != 0) = true := by rw [bne_iff_ne]; omega
        have HN := Lib.hid (hno.out hx)
        clear hx hyes hno HD sK hz
        go_wp2_with (fail)
        go_ret2
        have h1 := HS.out
        rw [HN.out] at h1
        simp only [List.append_nil, Nat.add_zero] at h1
        exact ⟨A1, c1, ls, by rw [h1]; rfl, by rw [h1], hown', fun r hr => own_k0 (HO.out r hr) hch2, hch02⟩
    · obtain rfl : k = L.length := by omega
      go_wp2_with (fail)
      go_ret2
      have h1 := HS.out
      rw [List.drop_length, scanF_no (.inl rfl)] at h1
      simp only [List.append_nil, Nat.add_zero] at h1
      exact ⟨A1, c1, ls, by rw [h1]; rfl, by rw [h1], hown, HO.out, hch⟩
end Go.Proofs.Ytdfngcdfencaiaa

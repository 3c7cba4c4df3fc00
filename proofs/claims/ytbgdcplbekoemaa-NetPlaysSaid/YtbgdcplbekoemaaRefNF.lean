
/-
  net: the reference: Spoil among all things, Drop.
-/
import Derived.Test.YtbgdcplbekoemaaRefNE
import Derived.Test.YtbgdcplbekoemaaNetDs
import Derived.Deep.CutBlock
namespace Go.Proofs.Ytbgdcplbekoemaa
open Go.RowKit
set_option linter.unusedVariables false
set_option linter.unusedSimpArgs false
attribute [local go_sem ↓] run_min2 run_max2
def spoilOk (l : List MV) (p : Int) (b : UInt8) : Bool := match l[pickN p l.length]? with
  | none => false
  | some m => !(b == 0 || m.d.length == 0 || m.sp)
def spoilLs (l : List MV) (p a : Int) (b : UInt8) : List MV := match l[pickN p l.length]? with
  | none => l
  | some m => if spoilOk l p b then l.set (pickN p l.length) (spoilM m (pickN a m.d.length) b) else l
section
variable {w0 w w' : World} {gx gn g gd : Nat} {A : Option Addr} {c : Nat} {ms : List UdV} {l : List MV} {rs : List Res} {ids : List Int}
theorem spoil_all (h : NetA w0 w gn l rs) (p a : Int) (b : UInt8) :
    Calls Try.prog 19 #[.pointer (some ⟨gn, 0, none⟩), .int .i64 p, .int .i64 a, .int .u8 (b.toNat : Int)] w fun e w' => e = .returned (.bool (spoilOk l p b)) ∧ NetA w0 w' gn (spoilLs l p a b) rs ∧ w.heap.size ≤ w'.heap.size := by
  by_cases hp : 0 < l.length
  · obtain ⟨m, hm⟩ : ∃ m, l[pickN p l.length]? = some m := ⟨_, List.getElem?_eq_getElem (pickN_lt hp)⟩
    by_cases hno : b = 0 ∨ m.d.length = 0 ∨ m.sp = true
    · have hk : spoilOk l p b = false := by
        unfold spoilOk; rw [hm]
        rcases hno with h | h | h <;> simp [h]
      have hL : spoilLs l p a b = l := by unfold spoilLs; rw [hm]; simp [hk]
      rw [hk, hL]
      refine (spoil_no h hp p a b m hm hno).mono ?_
      rintro e w' ⟨rfl, rfl⟩
      exact ⟨rfl, h, Nat.le_refl _⟩
    · have hb : b ≠ 0 := fun h => hno (.inl h)
      have hd : 0 < m.d.length := Nat.pos_of_ne_zero fun h => hno (.inr (.inl h))
      have hs : m.sp = false := by cases h : m.sp; rfl; exact absurd (.inr (.inr h)) hno
      have hk : spoilOk l p b = true := by
        unfold spoilOk; rw [hm]
        have h2 : ¬ m.d.length = 0 := by omega
        simp [hb, hs]
        intro h3; rw [h3] at h2; simp at h2
      have hL : spoilLs l p a b = l.set (pickN p l.length) (spoilM m (pickN a m.d.length) b) := by unfold spoilLs; rw [hm]; simp [hk]
      rw [hk, hL]
      exact spoil_yes h hp p a b m hm hb hd hs _ rfl
  · obtain rfl : l = [] := by cases l with
      | nil => rfl
      | cons a l => simp at hp
    refine (spoil_none h p a b.toNat).mono ?_
    rintro e w' ⟨rfl, rfl⟩
    exact ⟨rfl, h, Nat.le_refl _⟩
theorem datF_set {ms : List UdV} {i : Nat} {m X : UdV} (hm : ms[i]? = some m) (hn : (datF ms).Nodup) (hX : (blk X.A).Nodup) (hf : ∀ j ∈ blk X.A, j ∉ datF ms) : (datF (ms.set i X)).Nodup ∧ ∀ j ∈ datF (ms.set i X), j ∈ datF ms ∨ j ∈ blk X.A := by
  have hi := (List.getElem?_eq_some_iff.1 hm).1
  have h1 := datF_erase hm
  have h2 := datF_erase (ms := ms.set i X) (i := i) (mi := X) (List.getElem?_set_self hi)
  rw [List.eraseIdx_set_eq] at h2
  have hn1 := h1.nodup_iff.1 hn
  have h3 : (datF (ms.eraseIdx i)).Nodup := (List.nodup_append.1 hn1).1
  have hsub : ∀ j ∈ datF (ms.eraseIdx i), j ∈ datF ms := fun j hj => h1.mem_iff.2 (List.mem_append_left _ hj)
  refine ⟨h2.nodup_iff.2 (List.nodup_append.2 ⟨h3, hX, fun x hx y hy e => ?_⟩), fun j hj => ?_⟩
  · subst e; exact hf x hy (hsub x hx)
  · rcases List.mem_append.1 (h2.mem_iff.1 hj) with h | h
    · exact .inl (hsub j h)
    · exact .inr h
theorem rspoil_all (h : RefA w0 w gx l rs) (hd : ∀ m ∈ l, m.d.length ≤ 1099511627776) (p a : Int) (b : UInt8) :
    Calls Try.prog 33 #[.pointer (some ⟨gx, 0, none⟩), .int .i64 p, .int .i64 a, .int .u8 (b.toNat : Int)] w fun e w' => e = .returned (.bool (spoilOk l p b)) ∧ RefA w0 w' gx (spoilLs l p a b) rs ∧ w.heap.size ≤ w'.heap.size := by
  by_cases hp : 0 < l.length
  · obtain ⟨m, hm⟩ : ∃ m, l[pickN p l.length]? = some m := ⟨_, List.getElem?_eq_getElem (pickN_lt hp)⟩
    obtain ⟨A, c, ms, rfl, H⟩ := id h
    have hm2 := hm
    rw [List.getElem?_map] at hm2
    obtain ⟨mi, hmi, rfl⟩ := Option.map_eq_some_iff.1 hm2
    rw [List.length_map] at hp hmi
    have hR := RefH.of_all H
    by_cases hno : b = 0 ∨ mi.d.length = 0 ∨ mi.sp = true
    · have hk : spoilOk (ms.map UdV.val) p b = false := by
        unfold spoilOk; rw [hm]
        show (!(b == 0 || mi.d.length == 0 || mi.sp)) = false
        rcases hno with h | h | h <;> simp [h]
      have hL : spoilLs (ms.map UdV.val) p a b = ms.map UdV.val := by unfold spoilLs; rw [hm]; simp [hk]
      rw [hk, hL]
      refine (rspoil_noH hR hp p a b _ rfl mi (by exact hmi) hno).mono ?_
      rintro e w' ⟨rfl, hc⟩
      exact ⟨rfl, h.quiet hc, hc.size⟩
    · have hb : b ≠ 0 := fun h => hno (.inl h)
      have hdp : 0 < mi.d.length := Nat.pos_of_ne_zero fun h => hno (.inr (.inl h))
      have hs : mi.sp = false := by cases h : mi.sp; rfl; exact absurd (.inr (.inr h)) hno
      have hk : spoilOk (ms.map UdV.val) p b = true := by
        unfold spoilOk; rw [hm]
        show (!(b == 0 || mi.d.length == 0 || mi.sp)) = true
        have h2 : ¬ mi.d.length = 0 := by omega
        simp [hb, hs]
        intro h3; rw [h3] at h2; simp at h2
      have hL : spoilLs (ms.map UdV.val) p a b = (ms.map UdV.val).set (pickN p ms.length) (spoilM mi.val (pickN a mi.d.length) b) := by unfold spoilLs; rw [hm]; simp [hk, UdV.val]
      rw [hk, hL]
      have hjl : pickN a mi.d.length < mi.d.length := pickN_lt hdp
      obtain ⟨mf, mt, md, mA, mc, msp⟩ := mi
      simp only at hs hdp hjl
      subst hs
      refine (rspoil_yesH hR hp p a b _ rfl mf mt md mA mc (by exact hmi) hb hdp (hd ⟨mf, mt, md, false⟩ (List.mem_of_getElem? hm)) _ rfl md[pickN a md.length] _ (List.getElem?_eq_getElem hjl) rfl).mono ?_
      rintro e w1 ⟨rfl, A5, c5, h1, hc, hA5⟩
      have hfr : ∀ j ∈ blk A5, j ∉ datF ms := fun j hj hm3 => by
        have h4 := hR.lt j (List.mem_cons_of_mem _ (List.mem_append_right _ hm3))
        have h5 := hA5 j hj
        omega
      obtain ⟨hn5, hs5⟩ := datF_set (X := ⟨mf, mt, md.set (pickN a md.length) (md[pickN a md.length] ^^^ b), A5, c5, true⟩) hmi (ref_datF H) (blk_nodup A5) hfr
      refine ⟨rfl, ⟨A, c, _, ?_, RefH.head H (hc.mono (fun j hj => .inl (List.mem_cons_of_mem _ (List.mem_append_left _ hj)))) h1 (fun j hj => .inl (List.mem_cons_of_mem _ (List.mem_append_left _ hj))) (fun j hj => (hs5 j hj).imp (fun h => List.mem_cons_of_mem _ (List.mem_append_right _ h)) (hA5 j)) hn5⟩, hc.size⟩
      rw [List.map_set]
      congr 1
      unfold spoilM UdV.val
      simp only
      rw [List.getD_eq_getElem?_getD, List.getElem?_eq_getElem hjl]; rfl
  · obtain rfl : l = [] := by cases l with
      | nil => rfl
      | cons a l => simp at hp
    refine (rspoil_none h p a b.toNat).mono ?_
    rintro e w' ⟨rfl, rfl⟩
    exact ⟨rfl, h, Nat.le_refl _⟩
theorem any_snoc (ids : List Int) (f t : Int) (z : Int) : (offN (ids ++ [z]) f t) = (offN ids f t || (f == z || t == z)) := by
  unfold offN
  simp only [List.contains_eq_any_beq, List.any_append, List.any_cons, List.any_nil, Bool.or_false]
  cases List.any ids (fun x => f == x) <;> cases List.any ids (fun x => t == x) <;> cases (f == z) <;> cases (t == z) <;> rfl
set_option maxRecDepth 100000 in
set_option maxHeartbeats 6400000 in
theorem rdrop_H (h : RefH w0 w gx A c ms) (hl : ms.length ≤ 1024) {gi : Nat} (hg : At w gi 3 (cI ids).toArray) (hil : ids.length ≤ 140737488355328) (cb : Nat) :
    Calls Try.prog 34 #[.pointer (some ⟨gx, 0, none⟩), .slice (some ⟨gi, 0, none⟩) ids.length cb] w fun e w' => ∃ A' c', e = .returned (.int .i64 ((ms.length : Int) - ((stayU ids ms).length : Int))) ∧ RefH w0 w' gx A' c' (stayU ids ms) ∧ Chg [gx] w w' ∧ (∀ j ∈ blk A', w.heap.size ≤ j) := by
  obtain ⟨i1, hi1, hy0, hy1, hy2⟩ := info_parts info_itm
  have HH := Lib.hid h
  have HG := Lib.hid hg
  clear h hg
  go_enter Try.func34, Try.ntmps34
  go_wp2_with (fail)
  go_loopw [5, 6] (fun s i wr => ∃ (q : Nat) (A2 : Option Addr) (c2 : Nat), q ≤ ms.length ∧ i = .int .i64 q ∧ s = .slice A2 (stayU ids (ms.take q)).length c2 ∧ Hid (wr.ownsRow w.heap.size 72 4 (.slice A2 (stayU ids (ms.take q)).length c2) (stayU ids (ms.take q)).length (cUd (stayU ids (ms.take q)))) ∧ Hid (Chg [] w wr)) (fun _ i _ => ms.length - (intOf i).toNat)
  case atStart => exact ⟨0, none, 0, Nat.zero_le _, rfl, rfl, own_none _ _ _ _, Chg.refl _ _⟩
  case round =>
    obtain ⟨q, A2, c2, hq, rfl, rfl, HO, HC⟩ := hrel
    have HL := Lib.hid (HH.out.keep HC.out)
    have c0 : wr.cell? ⟨gx, 0, none⟩ = some (.slice A ms.length c) := HL.out.at_.cell 0
    by_cases hlt : q < ms.length
    · have hqi : (q : Int) < (ms.length : Int) := by omega
      obtain ⟨g, rfl, hgl, hgx, r0, r1, r2, r3⟩ := HL.out.pick hlt
      have HSN : Hid (stayU ids (ms.take (q + 1)) = if offN ids ms[q].f ms[q].t then stayU ids (ms.take q) else stayU ids (ms.take q) ++ [ms[q]]) := by
        unfold Hid; rw [List.take_succ_eq_append_getElem hlt, stayU_snoc]
      have hkl := stayU_le ids (ms.take q)
      have hkl2 : (stayU ids (ms.take q)).length ≤ 1024 := by rw [List.length_take] at hkl; omega
      generalize ms[q] = x at *
      obtain ⟨xf, xt, xd, xA, xc, xs⟩ := x
      simp only at r0 r1 r2 r3 HSN
      generalize stayU ids (ms.take q) = ks at *
      clear hkl
      go_wp2_with (fail)
      generalize wr = wq at *
      go_loopw [7, 8] (fun o i wi => ∃ k : Nat, k ≤ ids.length ∧ i = .int .i64 k ∧ o = .bool (offN (ids.take k) xf xt) ∧ Hid (Chg [] wq wi)) (fun _ i _ => ids.length - (intOf i).toNat)
      case atStart => exact ⟨0, Nat.zero_le _, rfl, rfl, Chg.refl _ _⟩
      case round =>
        obtain ⟨k, hk, rfl, rfl, HCI⟩ := hrel
        by_cases hkl : k < ids.length
        · have hki : (k : Int) < (ids.length : Int) := by omega
          have HT : Hid (offN (ids.take (k + 1)) xf xt = (offN (ids.take k) xf xt || (xf == ids[k] || xt == ids[k]))) := by
            unfold Hid; rw [List.take_succ_eq_append_getElem hkl, any_snoc]
          have hz : wq.cell? ⟨gi, k, none⟩ = some (.int .i64 ids[k]) := by
            rw [(HG.out.keep HC.out (by simp)).cell, List.getElem?_toArray, cI_get hkl]
          have hgil : gi < wq.heap.size := (HG.out.keep HC.out (by simp)).lt
          generalize ids[k] = z at *
          generalize offN (ids.take k) xf xt = o at *
          have KK : Hid (∀ w', Chg [] wr w' → w'.cell? ⟨gx, 0, none⟩ = some (.slice (some ⟨g, 0, none⟩) ms.length c) ∧ w'.cell? ⟨g, q * 4, none⟩ = some (.int .i64 xf) ∧ w'.cell? ⟨g, q * 4 + 1, none⟩ = some (.int .i64 xt) ∧ w'.cell? ⟨gi, k, none⟩ = some (.int .i64 z)) := fun w' hc => by
            have hc2 := HCI.out.trans hc (by simp)
            exact ⟨(HL.out.keep hc2).at_.cell 0, (hc2.cell (p := ⟨g, q * 4, none⟩) hgl (by simp)).trans r0, (hc2.cell (p := ⟨g, q * 4 + 1, none⟩) hgl (by simp)).trans r1, (hc2.cell (p := ⟨gi, k, none⟩) hgil (by simp)).trans hz⟩
          clear hz hgil
          cases o
          · by_cases hf : xf = z
            · have hb : (xf == z) = true := by rw [hf]; simp
              have HB2 : Hid (Value.bool true = .bool (offN (ids.take (k + 1)) xf xt)) := by unfold Hid; rw [HT.out, hb]; rfl
              clear HT hf
              skip
              go_wp2_with (fail)
              refine wp_region_held_drew (S := fun w' => w'.cell? ⟨gx, 0, none⟩ = some (.slice (some ⟨g, 0, none⟩) ms.length c) ∧ w'.cell? ⟨g, q * 4, none⟩ = some (.int .i64 xf) ∧ w'.cell? ⟨g, q * 4 + 1, none⟩ = some (.int .i64 xt) ∧ w'.cell? ⟨gi, k, none⟩ = some (.int .i64 z)) (by kernel_rfl) ?_ (fun hHeld => ?_)
              · exact KK.out _ ((Chg.refl [] wr).drewN 1)
              refine takeW (i := 0) (d := (some 25)) (v := ?_) rfl rfl (by kernel_rfl) (by kernel_rfl) (by kernel_rfl) (fun _ _ _ h => h) (by rfl) ?_ (by assumption) ?_
              rotate_left
              · intro w' hSw; (try dsimp only at hSw); go_simp; try with_reducible rfl
              try simp only [Act.put, List.setIfInBounds_toArray, List.set_cons_zero, List.set_cons_succ]
              refine takeW (i := 1) (d := (some 26)) (v := ?_) rfl rfl (by kernel_rfl) (by kernel_rfl) (by kernel_rfl) (fun _ _ _ h => h) (by rfl) ?_ (by assumption) ?_
              rotate_left
              · intro w' hSw; (try dsimp only at hSw); go_simp; try with_reducible rfl
              try simp only [Act.put, List.setIfInBounds_toArray, List.set_cons_zero, List.set_cons_succ]
              refine takeW (i := 2) (d := (some 27)) (v := ?_) rfl rfl (by kernel_rfl) (by kernel_rfl) (by kernel_rfl) (fun _ _ _ h => h) (by rfl) ?_ (by assumption) ?_
              rotate_left
              · intro w' hSw; (try dsimp only at hSw); go_simp; try with_reducible rfl
              try simp only [Act.put, List.setIfInBounds_toArray, List.set_cons_zero, List.set_cons_succ]
              refine takeW (i := 3) (d := (some 28)) (v := ?_) rfl rfl (by kernel_rfl) (by kernel_rfl) (by kernel_rfl) (fun _ _ _ h => h) (by rfl) ?_ (by assumption) ?_
              rotate_left
              · intro w' hSw; (try dsimp only at hSw); go_simp; try with_reducible rfl
              try simp only [Act.put, List.setIfInBounds_toArray, List.set_cons_zero, List.set_cons_succ]
              refine takeW (i := 4) (d := (some 29)) (v := ?_) rfl rfl (by kernel_rfl) (by kernel_rfl) (by kernel_rfl) (fun _ _ _ h => h) (by rfl) ?_ (by assumption) ?_
              rotate_left
              · intro w' hSw; (try dsimp only at hSw); go_simp; try with_reducible rfl
              try simp only [Act.put, List.setIfInBounds_toArray, List.set_cons_zero, List.set_cons_succ]
              refine takeW (i := 5) (d := (some 30)) (v := ?_) rfl rfl (by kernel_rfl) (by kernel_rfl) (by kernel_rfl) (fun _ _ _ h => h) (by rfl) ?_ (by assumption) ?_
              rotate_left
              · intro w' hSw; (try dsimp only at hSw); go_simp; try with_reducible rfl
              try simp only [Act.put, List.setIfInBounds_toArray, List.set_cons_zero, List.set_cons_succ]
              refine takeW (i := 6) (d := (some 31)) (v := ?_) rfl rfl (by kernel_rfl) (by kernel_rfl) (by kernel_rfl) (fun _ _ _ h => h) (by rfl) ?_ (by assumption) ?_
              rotate_left
              · intro w' hSw; (try dsimp only at hSw); go_simp; try with_reducible rfl
              try simp only [Act.put, List.setIfInBounds_toArray, List.set_cons_zero, List.set_cons_succ]
              refine takeW (i := 7) (d := (some 32)) (v := ?_) rfl rfl (by kernel_rfl) (by kernel_rfl) (by kernel_rfl) (fun _ _ _ h => h) (by rfl) ?_ (by assumption) ?_
              rotate_left
              · intro w' hSw; (try dsimp only at hSw); go_simp; try with_reducible rfl
              try simp only [Act.put, List.setIfInBounds_toArray, List.set_cons_zero, List.set_cons_succ]
              refine takeW (i := 8) (d := (some 33)) (v := ?_) rfl rfl (by kernel_rfl) (by kernel_rfl) (by kernel_rfl) (fun _ _ _ h => h) (by rfl) ?_ (by assumption) ?_
              rotate_left
              · intro w' hSw; (try dsimp only at hSw); go_simp; try with_reducible rfl
              try simp only [Act.put, List.setIfInBounds_toArray, List.set_cons_zero, List.set_cons_succ]
              refine takeW (i := 9) (d := (some 34)) (v := ?_) rfl rfl (by kernel_rfl) (by kernel_rfl) (by kernel_rfl) (fun _ _ _ h => h) (by rfl) ?_ (by assumption) ?_
              rotate_left
              · intro w' hSw; (try dsimp only at hSw); go_simp; try with_reducible rfl
              try simp only [Act.put, List.setIfInBounds_toArray, List.set_cons_zero, List.set_cons_succ]
              refine takeW (i := 10) (d := (some 35)) (v := ?_) rfl rfl (by kernel_rfl) (by kernel_rfl) (by kernel_rfl) (fun _ _ _ h => h) (by rfl) ?_ (by assumption) ?_
              rotate_left
              · intro w' hSw; (try dsimp only at hSw); go_simp; try with_reducible rfl
              try simp only [Act.put, List.setIfInBounds_toArray, List.set_cons_zero, List.set_cons_succ]
              refine takeW (i := 11) (d := (some 36)) (v := ?_) rfl rfl (by kernel_rfl) (by kernel_rfl) (by kernel_rfl) (fun _ _ _ h => h) (by rfl) ?_ (by assumption) ?_
              rotate_left
              · intro w' hSw; (try dsimp only at hSw); go_simp; try with_reducible rfl
              try simp only [Act.put, List.setIfInBounds_toArray, List.set_cons_zero, List.set_cons_succ]
              refine takeW (i := 12) (d := (some 37)) (v := ?_) rfl rfl (by kernel_rfl) (by kernel_rfl) (by kernel_rfl) (fun _ _ _ h => h) (by rfl) ?_ (by assumption) ?_
              rotate_left
              · intro w' hSw; (try dsimp only at hSw); go_simp; try with_reducible rfl
              try simp only [Act.put, List.setIfInBounds_toArray, List.set_cons_zero, List.set_cons_succ]
              refine takeW (i := 13) (d := (some 38)) (v := ?_) rfl rfl (by kernel_rfl) (by kernel_rfl) (by kernel_rfl) (fun _ _ _ h => h) (by rfl) ?_ (by assumption) ?_
              rotate_left
              · intro w' hSw; (try dsimp only at hSw); go_simp; try with_reducible rfl
              try simp only [Act.put, List.setIfInBounds_toArray, List.set_cons_zero, List.set_cons_succ]
              refine takeW (i := 14) (d := (some 39)) (v := ?_) rfl rfl (by kernel_rfl) (by kernel_rfl) (by kernel_rfl) (fun _ _ _ h => h) (by rfl) ?_ (by assumption) ?_
              rotate_left
              · intro w' hSw; (try dsimp only at hSw); go_simp; try with_reducible rfl
              try simp only [Act.put, List.setIfInBounds_toArray, List.set_cons_zero, List.set_cons_succ]
              refine takeW (i := 15) (d := (some 40)) (v := ?_) rfl rfl (by kernel_rfl) (by kernel_rfl) (by kernel_rfl) (fun _ _ _ h => h) (by rfl) ?_ (by assumption) ?_
              rotate_left
              · intro w' hSw; (try dsimp only at hSw); go_simp; try with_reducible rfl
              try simp only [Act.put, List.setIfInBounds_toArray, List.set_cons_zero, List.set_cons_succ]
              refine takeW (i := 16) (d := (some 41)) (v := ?_) rfl rfl (by kernel_rfl) (by kernel_rfl) (by kernel_rfl) (fun _ _ _ h => h) (by rfl) ?_ (by assumption) ?_
              rotate_left
              · intro w' hSw; (try dsimp only at hSw); go_simp; try with_reducible rfl
              try simp only [Act.put, List.setIfInBounds_toArray, List.set_cons_zero, List.set_cons_succ]
              refine takeW (i := 17) (d := (some 42)) (v := ?_) rfl rfl (by kernel_rfl) (by kernel_rfl) (by kernel_rfl) (fun _ _ _ h => h) (by rfl) ?_ (by assumption) ?_
              rotate_left
              · intro w' hSw; (try dsimp only at hSw); go_simp; try with_reducible rfl
              try simp only [Act.put, List.setIfInBounds_toArray, List.set_cons_zero, List.set_cons_succ]
              refine takeU (i := 18) (d := (some 43)) rfl rfl (by kernel_rfl) (by kernel_rfl) (by kernel_rfl) (fun _ _ _ h => h) (by rfl) (by assumption) ?_
              try simp only [Act.put, List.setIfInBounds_toArray, List.set_cons_zero, List.set_cons_succ]
              refine takeU (i := 19) (d := (some 44)) rfl rfl (by kernel_rfl) (by kernel_rfl) (by kernel_rfl) (fun _ _ _ h => h) (by rfl) (by assumption) ?_
              try simp only [Act.put, List.setIfInBounds_toArray, List.set_cons_zero, List.set_cons_succ]
              refine takeU (i := 20) (d := (some 45)) rfl rfl (by kernel_rfl) (by kernel_rfl) (by kernel_rfl) (fun _ _ _ h => h) (by rfl) (by assumption) ?_
              try simp only [Act.put, List.setIfInBounds_toArray, List.set_cons_zero, List.set_cons_succ]
              refine takeU (i := 21) (d := (some 46)) rfl rfl (by kernel_rfl) (by kernel_rfl) (by kernel_rfl) (fun _ _ _ h => h) (by rfl) (by assumption) ?_
              try simp only [Act.put, List.setIfInBounds_toArray, List.set_cons_zero, List.set_cons_succ]
              refine takeU (i := 22) (d := (some 47)) rfl rfl (by kernel_rfl) (by kernel_rfl) (by kernel_rfl) (fun _ _ _ h => h) (by rfl) (by assumption) ?_
              try simp only [Act.put, List.setIfInBounds_toArray, List.set_cons_zero, List.set_cons_succ]
              refine takeU (i := 23) (d := (some 48)) rfl rfl (by kernel_rfl) (by kernel_rfl) (by kernel_rfl) (fun _ _ _ h => h) (by rfl) (by assumption) ?_
              try simp only [Act.put, List.setIfInBounds_toArray, List.set_cons_zero, List.set_cons_succ]
              refine takeU (i := 24) (d := (some 49)) rfl rfl (by kernel_rfl) (by kernel_rfl) (by kernel_rfl) (fun _ _ _ h => h) (by rfl) (by assumption) ?_
              try simp only [Act.put, List.setIfInBounds_toArray, List.set_cons_zero, List.set_cons_succ]
              refine takeU (i := 25) (d := (some 50)) rfl rfl (by kernel_rfl) (by kernel_rfl) (by kernel_rfl) (fun _ _ _ h => h) (by rfl) (by assumption) ?_
              try simp only [Act.put, List.setIfInBounds_toArray, List.set_cons_zero, List.set_cons_succ]
              refine takeU (i := 26) (d := (some 51)) rfl rfl (by kernel_rfl) (by kernel_rfl) (by kernel_rfl) (fun _ _ _ h => h) (by rfl) (by assumption) ?_
              try simp only [Act.put, List.setIfInBounds_toArray, List.set_cons_zero, List.set_cons_succ]
              refine takeU (i := 27) (d := (some 52)) rfl rfl (by kernel_rfl) (by kernel_rfl) (by kernel_rfl) (fun _ _ _ h => h) (by rfl) (by assumption) ?_
              try simp only [Act.put, List.setIfInBounds_toArray, List.set_cons_zero, List.set_cons_succ]
              refine takeU (i := 28) (d := (some 53)) rfl rfl (by kernel_rfl) (by kernel_rfl) (by kernel_rfl) (fun _ _ _ h => h) (by rfl) (by assumption) ?_
              try simp only [Act.put, List.setIfInBounds_toArray, List.set_cons_zero, List.set_cons_succ]
              refine takeU (i := 29) (d := (some 54)) rfl rfl (by kernel_rfl) (by kernel_rfl) (by kernel_rfl) (fun _ _ _ h => h) (by rfl) (by assumption) ?_
              try simp only [Act.put, List.setIfInBounds_toArray, List.set_cons_zero, List.set_cons_succ]
              refine takeU (i := 30) (d := (some 55)) rfl rfl (by kernel_rfl) (by kernel_rfl) (by kernel_rfl) (fun _ _ _ h => h) (by rfl) (by assumption) ?_
              try simp only [Act.put, List.setIfInBounds_toArray, List.set_cons_zero, List.set_cons_succ]
              refine takeU (i := 31) (d := (some 56)) rfl rfl (by kernel_rfl) (by kernel_rfl) (by kernel_rfl) (fun _ _ _ h => h) (by rfl) (by assumption) ?_
              try simp only [Act.put, List.setIfInBounds_toArray, List.set_cons_zero, List.set_cons_succ]
              refine takeW (i := 32) (d := (some 57)) (v := ?_) rfl rfl (by kernel_rfl) (by kernel_rfl) (by kernel_rfl) (fun _ _ _ h => h) (by rfl) ?_ (by assumption) ?_
              rotate_left
              · intro w' hSw; (try dsimp only at hSw); go_simp; try with_reducible rfl
              try simp only [Act.put, List.setIfInBounds_toArray, List.set_cons_zero, List.set_cons_succ]
              refine takeW (i := 33) (d := (some 7)) (v := ?_) rfl rfl (by kernel_rfl) (by kernel_rfl) (by kernel_rfl) (fun _ _ _ h => h) (by rfl) ?_ (by assumption) ?_
              rotate_left
              · intro w' hSw; (try dsimp only at hSw); go_simp; try with_reducible rfl
              try simp only [Act.put, List.setIfInBounds_toArray, List.set_cons_zero, List.set_cons_succ]
              refine wpAnyH_done (by kernel_rfl) ?_ _
              go_wp2_with (fail)
              go_roundw
              case rel => exact ⟨k + 1, by omega, by go_num, HB2, (by first | exact HCI.out.drew | exact HCI.out.drewN 1)⟩
              case measure => simp [intOf]; omega
            · have hb : (xf == z) = false := by rw [beq_eq_false_iff_ne]; exact hf
              have HB2 : Hid (Value.bool (xt == z) = .bool (offN (ids.take (k + 1)) xf xt)) := by unfold Hid; rw [HT.out, hb]; simp
              clear HT hf
              skip
              go_wp2_with (fail)
              refine wp_region_held_drew (S := fun w' => w'.cell? ⟨gx, 0, none⟩ = some (.slice (some ⟨g, 0, none⟩) ms.length c) ∧ w'.cell? ⟨g, q * 4, none⟩ = some (.int .i64 xf) ∧ w'.cell? ⟨g, q * 4 + 1, none⟩ = some (.int .i64 xt) ∧ w'.cell? ⟨gi, k, none⟩ = some (.int .i64 z)) (by kernel_rfl) ?_ (fun hHeld => ?_)
              · exact KK.out _ ((Chg.refl [] wr).drewN 1)
              refine takeW (i := 0) (d := (some 25)) (v := ?_) rfl rfl (by kernel_rfl) (by kernel_rfl) (by kernel_rfl) (fun _ _ _ h => h) (by rfl) ?_ (by assumption) ?_
              rotate_left
              · intro w' hSw; (try dsimp only at hSw); go_simp; try with_reducible rfl
              try simp only [Act.put, List.setIfInBounds_toArray, List.set_cons_zero, List.set_cons_succ]
              refine takeW (i := 1) (d := (some 26)) (v := ?_) rfl rfl (by kernel_rfl) (by kernel_rfl) (by kernel_rfl) (fun _ _ _ h => h) (by rfl) ?_ (by assumption) ?_
              rotate_left
              · intro w' hSw; (try dsimp only at hSw); go_simp; try with_reducible rfl
              try simp only [Act.put, List.setIfInBounds_toArray, List.set_cons_zero, List.set_cons_succ]
              refine takeW (i := 2) (d := (some 27)) (v := ?_) rfl rfl (by kernel_rfl) (by kernel_rfl) (by kernel_rfl) (fun _ _ _ h => h) (by rfl) ?_ (by assumption) ?_
              rotate_left
              · intro w' hSw; (try dsimp only at hSw); go_simp; try with_reducible rfl
              try simp only [Act.put, List.setIfInBounds_toArray, List.set_cons_zero, List.set_cons_succ]
              refine takeW (i := 3) (d := (some 28)) (v := ?_) rfl rfl (by kernel_rfl) (by kernel_rfl) (by kernel_rfl) (fun _ _ _ h => h) (by rfl) ?_ (by assumption) ?_
              rotate_left
              · intro w' hSw; (try dsimp only at hSw); go_simp; try with_reducible rfl
              try simp only [Act.put, List.setIfInBounds_toArray, List.set_cons_zero, List.set_cons_succ]
              refine takeW (i := 4) (d := (some 29)) (v := ?_) rfl rfl (by kernel_rfl) (by kernel_rfl) (by kernel_rfl) (fun _ _ _ h => h) (by rfl) ?_ (by assumption) ?_
              rotate_left
              · intro w' hSw; (try dsimp only at hSw); go_simp; try with_reducible rfl
              try simp only [Act.put, List.setIfInBounds_toArray, List.set_cons_zero, List.set_cons_succ]
              refine takeW (i := 5) (d := (some 30)) (v := ?_) rfl rfl (by kernel_rfl) (by kernel_rfl) (by kernel_rfl) (fun _ _ _ h => h) (by rfl) ?_ (by assumption) ?_
              rotate_left
              · intro w' hSw; (try dsimp only at hSw); go_simp; try with_reducible rfl
              try simp only [Act.put, List.setIfInBounds_toArray, List.set_cons_zero, List.set_cons_succ]
              refine takeW (i := 6) (d := (some 31)) (v := ?_) rfl rfl (by kernel_rfl) (by kernel_rfl) (by kernel_rfl) (fun _ _ _ h => h) (by rfl) ?_ (by assumption) ?_
              rotate_left
              · intro w' hSw; (try dsimp only at hSw); go_simp; try with_reducible rfl
              try simp only [Act.put, List.setIfInBounds_toArray, List.set_cons_zero, List.set_cons_succ]
              refine takeW (i := 7) (d := (some 32)) (v := ?_) rfl rfl (by kernel_rfl) (by kernel_rfl) (by kernel_rfl) (fun _ _ _ h => h) (by rfl) ?_ (by assumption) ?_
              rotate_left
              · intro w' hSw; (try dsimp only at hSw); go_simp; try with_reducible rfl
              try simp only [Act.put, List.setIfInBounds_toArray, List.set_cons_zero, List.set_cons_succ]
              refine takeW (i := 8) (d := (some 33)) (v := ?_) rfl rfl (by kernel_rfl) (by kernel_rfl) (by kernel_rfl) (fun _ _ _ h => h) (by rfl) ?_ (by assumption) ?_
              rotate_left
              · intro w' hSw; (try dsimp only at hSw); go_simp; try with_reducible rfl
              try simp only [Act.put, List.setIfInBounds_toArray, List.set_cons_zero, List.set_cons_succ]
              refine takeW (i := 9) (d := (some 34)) (v := ?_) rfl rfl (by kernel_rfl) (by kernel_rfl) (by kernel_rfl) (fun _ _ _ h => h) (by rfl) ?_ (by assumption) ?_
              rotate_left
              · intro w' hSw; (try dsimp only at hSw); go_simp; try with_reducible rfl
              try simp only [Act.put, List.setIfInBounds_toArray, List.set_cons_zero, List.set_cons_succ]
              refine takeW (i := 10) (d := (some 35)) (v := ?_) rfl rfl (by kernel_rfl) (by kernel_rfl) (by kernel_rfl) (fun _ _ _ h => h) (by rfl) ?_ (by assumption) ?_
              rotate_left
              · intro w' hSw; (try dsimp only at hSw); go_simp; try with_reducible rfl
              try simp only [Act.put, List.setIfInBounds_toArray, List.set_cons_zero, List.set_cons_succ]
              refine takeW (i := 11) (d := (some 36)) (v := ?_) rfl rfl (by kernel_rfl) (by kernel_rfl) (by kernel_rfl) (fun _ _ _ h => h) (by rfl) ?_ (by assumption) ?_
              rotate_left
              · intro w' hSw; (try dsimp only at hSw); go_simp; try with_reducible rfl
              try simp only [Act.put, List.setIfInBounds_toArray, List.set_cons_zero, List.set_cons_succ]
              refine takeW (i := 12) (d := (some 37)) (v := ?_) rfl rfl (by kernel_rfl) (by kernel_rfl) (by kernel_rfl) (fun _ _ _ h => h) (by rfl) ?_ (by assumption) ?_
              rotate_left
              · intro w' hSw; (try dsimp only at hSw); go_simp; try with_reducible rfl
              try simp only [Act.put, List.setIfInBounds_toArray, List.set_cons_zero, List.set_cons_succ]
              refine takeW (i := 13) (d := (some 38)) (v := ?_) rfl rfl (by kernel_rfl) (by kernel_rfl) (by kernel_rfl) (fun _ _ _ h => h) (by rfl) ?_ (by assumption) ?_
              rotate_left
              · intro w' hSw; (try dsimp only at hSw); go_simp; try with_reducible rfl
              try simp only [Act.put, List.setIfInBounds_toArray, List.set_cons_zero, List.set_cons_succ]
              refine takeW (i := 14) (d := (some 39)) (v := ?_) rfl rfl (by kernel_rfl) (by kernel_rfl) (by kernel_rfl) (fun _ _ _ h => h) (by rfl) ?_ (by assumption) ?_
              rotate_left
              · intro w' hSw; (try dsimp only at hSw); go_simp; try with_reducible rfl
              try simp only [Act.put, List.setIfInBounds_toArray, List.set_cons_zero, List.set_cons_succ]
              refine takeW (i := 15) (d := (some 40)) (v := ?_) rfl rfl (by kernel_rfl) (by kernel_rfl) (by kernel_rfl) (fun _ _ _ h => h) (by rfl) ?_ (by assumption) ?_
              rotate_left
              · intro w' hSw; (try dsimp only at hSw); go_simp; try with_reducible rfl
              try simp only [Act.put, List.setIfInBounds_toArray, List.set_cons_zero, List.set_cons_succ]
              refine takeW (i := 16) (d := (some 41)) (v := ?_) rfl rfl (by kernel_rfl) (by kernel_rfl) (by kernel_rfl) (fun _ _ _ h => h) (by rfl) ?_ (by assumption) ?_
              rotate_left
              · intro w' hSw; (try dsimp only at hSw); go_simp; try with_reducible rfl
              try simp only [Act.put, List.setIfInBounds_toArray, List.set_cons_zero, List.set_cons_succ]
              refine takeW (i := 17) (d := (some 42)) (v := ?_) rfl rfl (by kernel_rfl) (by kernel_rfl) (by kernel_rfl) (fun _ _ _ h => h) (by rfl) ?_ (by assumption) ?_
              rotate_left
              · intro w' hSw; (try dsimp only at hSw); go_simp; try with_reducible rfl
              try simp only [Act.put, List.setIfInBounds_toArray, List.set_cons_zero, List.set_cons_succ]
              refine takeW (i := 18) (d := (some 43)) (v := ?_) rfl rfl (by kernel_rfl) (by kernel_rfl) (by kernel_rfl) (fun _ _ _ h => h) (by rfl) ?_ (by assumption) ?_
              rotate_left
              · intro w' hSw; (try dsimp only at hSw); go_simp; try with_reducible rfl
              try simp only [Act.put, List.setIfInBounds_toArray, List.set_cons_zero, List.set_cons_succ]
              refine takeW (i := 19) (d := (some 44)) (v := ?_) rfl rfl (by kernel_rfl) (by kernel_rfl) (by kernel_rfl) (fun _ _ _ h => h) (by rfl) ?_ (by assumption) ?_
              rotate_left
              · intro w' hSw; (try dsimp only at hSw); go_simp; try with_reducible rfl
              try simp only [Act.put, List.setIfInBounds_toArray, List.set_cons_zero, List.set_cons_succ]
              refine takeW (i := 20) (d := (some 45)) (v := ?_) rfl rfl (by kernel_rfl) (by kernel_rfl) (by kernel_rfl) (fun _ _ _ h => h) (by rfl) ?_ (by assumption) ?_
              rotate_left
              · intro w' hSw; (try dsimp only at hSw); go_simp; try with_reducible rfl
              try simp only [Act.put, List.setIfInBounds_toArray, List.set_cons_zero, List.set_cons_succ]
              refine takeW (i := 21) (d := (some 46)) (v := ?_) rfl rfl (by kernel_rfl) (by kernel_rfl) (by kernel_rfl) (fun _ _ _ h => h) (by rfl) ?_ (by assumption) ?_
              rotate_left
              · intro w' hSw; (try dsimp only at hSw); go_simp; try with_reducible rfl
              try simp only [Act.put, List.setIfInBounds_toArray, List.set_cons_zero, List.set_cons_succ]
              refine takeW (i := 22) (d := (some 47)) (v := ?_) rfl rfl (by kernel_rfl) (by kernel_rfl) (by kernel_rfl) (fun _ _ _ h => h) (by rfl) ?_ (by assumption) ?_
              rotate_left
              · intro w' hSw; (try dsimp only at hSw); go_simp; try with_reducible rfl
              try simp only [Act.put, List.setIfInBounds_toArray, List.set_cons_zero, List.set_cons_succ]
              refine takeW (i := 23) (d := (some 48)) (v := ?_) rfl rfl (by kernel_rfl) (by kernel_rfl) (by kernel_rfl) (fun _ _ _ h => h) (by rfl) ?_ (by assumption) ?_
              rotate_left
              · intro w' hSw; (try dsimp only at hSw); go_simp; try with_reducible rfl
              try simp only [Act.put, List.setIfInBounds_toArray, List.set_cons_zero, List.set_cons_succ]
              refine takeW (i := 24) (d := (some 49)) (v := ?_) rfl rfl (by kernel_rfl) (by kernel_rfl) (by kernel_rfl) (fun _ _ _ h => h) (by rfl) ?_ (by assumption) ?_
              rotate_left
              · intro w' hSw; (try dsimp only at hSw); go_simp; try with_reducible rfl
              try simp only [Act.put, List.setIfInBounds_toArray, List.set_cons_zero, List.set_cons_succ]
              refine takeW (i := 25) (d := (some 50)) (v := ?_) rfl rfl (by kernel_rfl) (by kernel_rfl) (by kernel_rfl) (fun _ _ _ h => h) (by rfl) ?_ (by assumption) ?_
              rotate_left
              · intro w' hSw; (try dsimp only at hSw); go_simp; try with_reducible rfl
              try simp only [Act.put, List.setIfInBounds_toArray, List.set_cons_zero, List.set_cons_succ]
              refine takeW (i := 26) (d := (some 51)) (v := ?_) rfl rfl (by kernel_rfl) (by kernel_rfl) (by kernel_rfl) (fun _ _ _ h => h) (by rfl) ?_ (by assumption) ?_
              rotate_left
              · intro w' hSw; (try dsimp only at hSw); go_simp; try with_reducible rfl
              try simp only [Act.put, List.setIfInBounds_toArray, List.set_cons_zero, List.set_cons_succ]
              refine takeW (i := 27) (d := (some 52)) (v := ?_) rfl rfl (by kernel_rfl) (by kernel_rfl) (by kernel_rfl) (fun _ _ _ h => h) (by rfl) ?_ (by assumption) ?_
              rotate_left
              · intro w' hSw; (try dsimp only at hSw); go_simp; try with_reducible rfl
              try simp only [Act.put, List.setIfInBounds_toArray, List.set_cons_zero, List.set_cons_succ]
              refine takeW (i := 28) (d := (some 53)) (v := ?_) rfl rfl (by kernel_rfl) (by kernel_rfl) (by kernel_rfl) (fun _ _ _ h => h) (by rfl) ?_ (by assumption) ?_
              rotate_left
              · intro w' hSw; (try dsimp only at hSw); go_simp; try with_reducible rfl
              try simp only [Act.put, List.setIfInBounds_toArray, List.set_cons_zero, List.set_cons_succ]
              refine takeW (i := 29) (d := (some 54)) (v := ?_) rfl rfl (by kernel_rfl) (by kernel_rfl) (by kernel_rfl) (fun _ _ _ h => h) (by rfl) ?_ (by assumption) ?_
              rotate_left
              · intro w' hSw; (try dsimp only at hSw); go_simp; try with_reducible rfl
              try simp only [Act.put, List.setIfInBounds_toArray, List.set_cons_zero, List.set_cons_succ]
              refine takeW (i := 30) (d := (some 55)) (v := ?_) rfl rfl (by kernel_rfl) (by kernel_rfl) (by kernel_rfl) (fun _ _ _ h => h) (by rfl) ?_ (by assumption) ?_
              rotate_left
              · intro w' hSw; (try dsimp only at hSw); go_simp; try with_reducible rfl
              try simp only [Act.put, List.setIfInBounds_toArray, List.set_cons_zero, List.set_cons_succ]
              refine takeW (i := 31) (d := (some 56)) (v := ?_) rfl rfl (by kernel_rfl) (by kernel_rfl) (by kernel_rfl) (fun _ _ _ h => h) (by rfl) ?_ (by assumption) ?_
              rotate_left
              · intro w' hSw; (try dsimp only at hSw); go_simp; try with_reducible rfl
              try simp only [Act.put, List.setIfInBounds_toArray, List.set_cons_zero, List.set_cons_succ]
              refine takeW (i := 32) (d := (some 57)) (v := ?_) rfl rfl (by kernel_rfl) (by kernel_rfl) (by kernel_rfl) (fun _ _ _ h => h) (by rfl) ?_ (by assumption) ?_
              rotate_left
              · intro w' hSw; (try dsimp only at hSw); go_simp; try with_reducible rfl
              try simp only [Act.put, List.setIfInBounds_toArray, List.set_cons_zero, List.set_cons_succ]
              refine takeW (i := 33) (d := (some 7)) (v := ?_) rfl rfl (by kernel_rfl) (by kernel_rfl) (by kernel_rfl) (fun _ _ _ h => h) (by rfl) ?_ (by assumption) ?_
              rotate_left
              · intro w' hSw; (try dsimp only at hSw); go_simp; try with_reducible rfl
              try simp only [Act.put, List.setIfInBounds_toArray, List.set_cons_zero, List.set_cons_succ]
              refine wpAnyH_done (by kernel_rfl) ?_ _
              go_wp2_with (fail)
              go_roundw
              case rel => exact ⟨k + 1, by omega, by go_num, HB2, (by first | exact HCI.out.drew | exact HCI.out.drewN 1)⟩
              case measure => simp [intOf]; omega
          · have HB2 : Hid (Value.bool true = .bool (offN (ids.take (k + 1)) xf xt)) := by unfold Hid; rw [HT.out]; rfl
            clear HT
            skip
            go_wp2_with (fail)
            refine wp_region_held_drew (S := fun w' => w'.cell? ⟨gx, 0, none⟩ = some (.slice (some ⟨g, 0, none⟩) ms.length c) ∧ w'.cell? ⟨g, q * 4, none⟩ = some (.int .i64 xf) ∧ w'.cell? ⟨g, q * 4 + 1, none⟩ = some (.int .i64 xt) ∧ w'.cell? ⟨gi, k, none⟩ = some (.int .i64 z)) (by kernel_rfl) ?_ (fun hHeld => ?_)
            · exact KK.out _ ((Chg.refl [] wr).drewN 1)
            refine takeW (i := 0) (d := (some 25)) (v := ?_) rfl rfl (by kernel_rfl) (by kernel_rfl) (by kernel_rfl) (fun _ _ _ h => h) (by rfl) ?_ (by assumption) ?_
            rotate_left
            · intro w' hSw; (try dsimp only at hSw); go_simp; try with_reducible rfl
            try simp only [Act.put, List.setIfInBounds_toArray, List.set_cons_zero, List.set_cons_succ]
            refine takeW (i := 1) (d := (some 26)) (v := ?_) rfl rfl (by kernel_rfl) (by kernel_rfl) (by kernel_rfl) (fun _ _ _ h => h) (by rfl) ?_ (by assumption) ?_
            rotate_left
            · intro w' hSw; (try dsimp only at hSw); go_simp; try with_reducible rfl
            try simp only [Act.put, List.setIfInBounds_toArray, List.set_cons_zero, List.set_cons_succ]
            refine takeU (i := 2) (d := (some 27)) rfl rfl (by kernel_rfl) (by kernel_rfl) (by kernel_rfl) (fun _ _ _ h => h) (by rfl) (by assumption) ?_
            try simp only [Act.put, List.setIfInBounds_toArray, List.set_cons_zero, List.set_cons_succ]
            refine takeU (i := 3) (d := (some 28)) rfl rfl (by kernel_rfl) (by kernel_rfl) (by kernel_rfl) (fun _ _ _ h => h) (by rfl) (by assumption) ?_
            try simp only [Act.put, List.setIfInBounds_toArray, List.set_cons_zero, List.set_cons_succ]
            refine takeU (i := 4) (d := (some 29)) rfl rfl (by kernel_rfl) (by kernel_rfl) (by kernel_rfl) (fun _ _ _ h => h) (by rfl) (by assumption) ?_
            try simp only [Act.put, List.setIfInBounds_toArray, List.set_cons_zero, List.set_cons_succ]
            refine takeU (i := 5) (d := (some 30)) rfl rfl (by kernel_rfl) (by kernel_rfl) (by kernel_rfl) (fun _ _ _ h => h) (by rfl) (by assumption) ?_
            try simp only [Act.put, List.setIfInBounds_toArray, List.set_cons_zero, List.set_cons_succ]
            refine takeU (i := 6) (d := (some 31)) rfl rfl (by kernel_rfl) (by kernel_rfl) (by kernel_rfl) (fun _ _ _ h => h) (by rfl) (by assumption) ?_
            try simp only [Act.put, List.setIfInBounds_toArray, List.set_cons_zero, List.set_cons_succ]
            refine takeU (i := 7) (d := (some 32)) rfl rfl (by kernel_rfl) (by kernel_rfl) (by kernel_rfl) (fun _ _ _ h => h) (by rfl) (by assumption) ?_
            try simp only [Act.put, List.setIfInBounds_toArray, List.set_cons_zero, List.set_cons_succ]
            refine takeU (i := 8) (d := (some 33)) rfl rfl (by kernel_rfl) (by kernel_rfl) (by kernel_rfl) (fun _ _ _ h => h) (by rfl) (by assumption) ?_
            try simp only [Act.put, List.setIfInBounds_toArray, List.set_cons_zero, List.set_cons_succ]
            refine takeU (i := 9) (d := (some 34)) rfl rfl (by kernel_rfl) (by kernel_rfl) (by kernel_rfl) (fun _ _ _ h => h) (by rfl) (by assumption) ?_
            try simp only [Act.put, List.setIfInBounds_toArray, List.set_cons_zero, List.set_cons_succ]
            refine takeU (i := 10) (d := (some 35)) rfl rfl (by kernel_rfl) (by kernel_rfl) (by kernel_rfl) (fun _ _ _ h => h) (by rfl) (by assumption) ?_
            try simp only [Act.put, List.setIfInBounds_toArray, List.set_cons_zero, List.set_cons_succ]
            refine takeU (i := 11) (d := (some 36)) rfl rfl (by kernel_rfl) (by kernel_rfl) (by kernel_rfl) (fun _ _ _ h => h) (by rfl) (by assumption) ?_
            try simp only [Act.put, List.setIfInBounds_toArray, List.set_cons_zero, List.set_cons_succ]
            refine takeU (i := 12) (d := (some 37)) rfl rfl (by kernel_rfl) (by kernel_rfl) (by kernel_rfl) (fun _ _ _ h => h) (by rfl) (by assumption) ?_
            try simp only [Act.put, List.setIfInBounds_toArray, List.set_cons_zero, List.set_cons_succ]
            refine takeU (i := 13) (d := (some 38)) rfl rfl (by kernel_rfl) (by kernel_rfl) (by kernel_rfl) (fun _ _ _ h => h) (by rfl) (by assumption) ?_
            try simp only [Act.put, List.setIfInBounds_toArray, List.set_cons_zero, List.set_cons_succ]
            refine takeU (i := 14) (d := (some 39)) rfl rfl (by kernel_rfl) (by kernel_rfl) (by kernel_rfl) (fun _ _ _ h => h) (by rfl) (by assumption) ?_
            try simp only [Act.put, List.setIfInBounds_toArray, List.set_cons_zero, List.set_cons_succ]
            refine takeU (i := 15) (d := (some 40)) rfl rfl (by kernel_rfl) (by kernel_rfl) (by kernel_rfl) (fun _ _ _ h => h) (by rfl) (by assumption) ?_
            try simp only [Act.put, List.setIfInBounds_toArray, List.set_cons_zero, List.set_cons_succ]
            refine takeW (i := 16) (d := (some 41)) (v := ?_) rfl rfl (by kernel_rfl) (by kernel_rfl) (by kernel_rfl) (fun _ _ _ h => h) (by rfl) ?_ (by assumption) ?_
            rotate_left
            · intro w' hSw; (try dsimp only at hSw); go_simp; try with_reducible rfl
            try simp only [Act.put, List.setIfInBounds_toArray, List.set_cons_zero, List.set_cons_succ]
            refine takeW (i := 17) (d := (some 42)) (v := ?_) rfl rfl (by kernel_rfl) (by kernel_rfl) (by kernel_rfl) (fun _ _ _ h => h) (by rfl) ?_ (by assumption) ?_
            rotate_left
            · intro w' hSw; (try dsimp only at hSw); go_simp; try with_reducible rfl
            try simp only [Act.put, List.setIfInBounds_toArray, List.set_cons_zero, List.set_cons_succ]
            refine takeU (i := 18) (d := (some 43)) rfl rfl (by kernel_rfl) (by kernel_rfl) (by kernel_rfl) (fun _ _ _ h => h) (by rfl) (by assumption) ?_
            try simp only [Act.put, List.setIfInBounds_toArray, List.set_cons_zero, List.set_cons_succ]
            refine takeU (i := 19) (d := (some 44)) rfl rfl (by kernel_rfl) (by kernel_rfl) (by kernel_rfl) (fun _ _ _ h => h) (by rfl) (by assumption) ?_
            try simp only [Act.put, List.setIfInBounds_toArray, List.set_cons_zero, List.set_cons_succ]
            refine takeU (i := 20) (d := (some 45)) rfl rfl (by kernel_rfl) (by kernel_rfl) (by kernel_rfl) (fun _ _ _ h => h) (by rfl) (by assumption) ?_
            try simp only [Act.put, List.setIfInBounds_toArray, List.set_cons_zero, List.set_cons_succ]
            refine takeU (i := 21) (d := (some 46)) rfl rfl (by kernel_rfl) (by kernel_rfl) (by kernel_rfl) (fun _ _ _ h => h) (by rfl) (by assumption) ?_
            try simp only [Act.put, List.setIfInBounds_toArray, List.set_cons_zero, List.set_cons_succ]
            refine takeU (i := 22) (d := (some 47)) rfl rfl (by kernel_rfl) (by kernel_rfl) (by kernel_rfl) (fun _ _ _ h => h) (by rfl) (by assumption) ?_
            try simp only [Act.put, List.setIfInBounds_toArray, List.set_cons_zero, List.set_cons_succ]
            refine takeU (i := 23) (d := (some 48)) rfl rfl (by kernel_rfl) (by kernel_rfl) (by kernel_rfl) (fun _ _ _ h => h) (by rfl) (by assumption) ?_
            try simp only [Act.put, List.setIfInBounds_toArray, List.set_cons_zero, List.set_cons_succ]
            refine takeU (i := 24) (d := (some 49)) rfl rfl (by kernel_rfl) (by kernel_rfl) (by kernel_rfl) (fun _ _ _ h => h) (by rfl) (by assumption) ?_
            try simp only [Act.put, List.setIfInBounds_toArray, List.set_cons_zero, List.set_cons_succ]
            refine takeU (i := 25) (d := (some 50)) rfl rfl (by kernel_rfl) (by kernel_rfl) (by kernel_rfl) (fun _ _ _ h => h) (by rfl) (by assumption) ?_
            try simp only [Act.put, List.setIfInBounds_toArray, List.set_cons_zero, List.set_cons_succ]
            refine takeU (i := 26) (d := (some 51)) rfl rfl (by kernel_rfl) (by kernel_rfl) (by kernel_rfl) (fun _ _ _ h => h) (by rfl) (by assumption) ?_
            try simp only [Act.put, List.setIfInBounds_toArray, List.set_cons_zero, List.set_cons_succ]
            refine takeU (i := 27) (d := (some 52)) rfl rfl (by kernel_rfl) (by kernel_rfl) (by kernel_rfl) (fun _ _ _ h => h) (by rfl) (by assumption) ?_
            try simp only [Act.put, List.setIfInBounds_toArray, List.set_cons_zero, List.set_cons_succ]
            refine takeU (i := 28) (d := (some 53)) rfl rfl (by kernel_rfl) (by kernel_rfl) (by kernel_rfl) (fun _ _ _ h => h) (by rfl) (by assumption) ?_
            try simp only [Act.put, List.setIfInBounds_toArray, List.set_cons_zero, List.set_cons_succ]
            refine takeU (i := 29) (d := (some 54)) rfl rfl (by kernel_rfl) (by kernel_rfl) (by kernel_rfl) (fun _ _ _ h => h) (by rfl) (by assumption) ?_
            try simp only [Act.put, List.setIfInBounds_toArray, List.set_cons_zero, List.set_cons_succ]
            refine takeU (i := 30) (d := (some 55)) rfl rfl (by kernel_rfl) (by kernel_rfl) (by kernel_rfl) (fun _ _ _ h => h) (by rfl) (by assumption) ?_
            try simp only [Act.put, List.setIfInBounds_toArray, List.set_cons_zero, List.set_cons_succ]
            refine takeU (i := 31) (d := (some 56)) rfl rfl (by kernel_rfl) (by kernel_rfl) (by kernel_rfl) (fun _ _ _ h => h) (by rfl) (by assumption) ?_
            try simp only [Act.put, List.setIfInBounds_toArray, List.set_cons_zero, List.set_cons_succ]
            refine takeW (i := 32) (d := (some 57)) (v := ?_) rfl rfl (by kernel_rfl) (by kernel_rfl) (by kernel_rfl) (fun _ _ _ h => h) (by rfl) ?_ (by assumption) ?_
            rotate_left
            · intro w' hSw; (try dsimp only at hSw); go_simp; try with_reducible rfl
            try simp only [Act.put, List.setIfInBounds_toArray, List.set_cons_zero, List.set_cons_succ]
            refine takeW (i := 33) (d := (some 7)) (v := ?_) rfl rfl (by kernel_rfl) (by kernel_rfl) (by kernel_rfl) (fun _ _ _ h => h) (by rfl) ?_ (by assumption) ?_
            rotate_left
            · intro w' hSw; (try dsimp only at hSw); go_simp; try with_reducible rfl
            try simp only [Act.put, List.setIfInBounds_toArray, List.set_cons_zero, List.set_cons_succ]
            refine wpAnyH_done (by kernel_rfl) ?_ _
            go_wp2_with (fail)
            go_roundw
            case rel => exact ⟨k + 1, by omega, by go_num, HB2, (by first | exact HCI.out.drew | exact HCI.out.drewN 1)⟩
            case measure => simp [intOf]; omega
        · obtain rfl : k = ids.length := by omega
          rw [List.take_length]
          have hki : ¬ (ids.length : Int) < (ids.length : Int) := by omega
          have hc2 := HC.out.trans HCI.out (by simp)
          have HLi := Lib.hid (HH.out.keep hc2)
          have HOi := Lib.hid (own_k0 HO.out HCI.out)
          have HCi := Lib.hid hc2
          have c0i : wr.cell? ⟨gx, 0, none⟩ = some (.slice (some ⟨g, 0, none⟩) ms.length c) := HLi.out.at_.cell 0
          have s0 := (HCI.out.cell (p := ⟨g, q * 4, none⟩) hgl (by simp)).trans r0
          have s1 := (HCI.out.cell (p := ⟨g, q * 4 + 1, none⟩) hgl (by simp)).trans r1
          have s2 := (HCI.out.cell (p := ⟨g, q * 4 + 2, none⟩) hgl (by simp)).trans r2
          have s3 := (HCI.out.cell (p := ⟨g, q * 4 + 3, none⟩) hgl (by simp)).trans r3
          clear HO HL HCI hc2 c0 r0 r1 r2 r3
          cases ho : offN ids xf xt
          · rw [ho] at HSN
            have HSN2 : Hid (stayU ids (ms.take (q + 1)) = ks ++ [⟨xf, xt, xd, xA, xc, xs⟩]) := HSN.out
            clear HSN
            have hw8 := HCi.out.size
            go_wp2_with (at_builtin; refine wpList_append_rd _ rfl (.tmp 60) (.tmp 68) 48 (by rfl) w.heap.size 72 i1 _ 4 48 Try.underlying48 hi1 hy0 hy1 hy2 rfl (by omega) (.slice A2 ks.length c2) ks.length (cUd ks) (by rfl) (own_k0 HOi.out ((Chg.refl [] wr).alloc _)) (some ⟨wr.heap.size, 0, none⟩) 1 1 (cUd [⟨xf, xt, xd, xA, xc, xs⟩]) (by rfl) (Rd.new' rfl rfl rfl) (cUd_one _) (by unfold maxLen; omega) (by omega) (by simp; omega) ?_; intro A6 c6 w6 hown6 hg6 hb6)
            rw [← cUd_app] at hown6
            have HC6 : Hid (Chg [] w w6) := (HCi.out.trans ((Chg.refl [] wr).alloc (.cells #[.int .i64 xf, .int .i64 xt, .slice xA xd.length xc, .bool xs] 72)) (by simp)).grown hg6 (fun k hk => .inr (HOi.out.lt k hk).1)
            have HO6 := Lib.hid hown6
            clear hown6 hg6 hb6
            go_roundw
            case rel => exact ⟨q + 1, A6, c6, by omega, by go_num, by rw [HSN2.out, List.length_append]; rfl, by rw [HSN2.out, List.length_append]; exact HO6, HC6⟩
            case measure => simp [intOf]; omega
          · rw [ho] at HSN
            have HSN2 : Hid (stayU ids (ms.take (q + 1)) = ks) := HSN.out
            clear HSN
            go_wp2_with (fail)
            go_roundw
            case rel => exact ⟨q + 1, A2, c2, by omega, by go_num, by rw [HSN2.out], by rw [HSN2.out]; exact HOi, HCi⟩
            case measure => simp [intOf]; omega
    · obtain rfl : q = ms.length := by omega
      rw [List.take_length] at *
      have hqi : ¬ (ms.length : Int) < (ms.length : Int) := by omega
      have fx0 := HL.out.at_.free 0
      have hle := stayU_le ids ms
      have hw2 : IntKind.i64.wrap ((ms.length : Int) - ((stayU ids ms).length : Int)) = (ms.length : Int) - ((stayU ids ms).length : Int) := IntWalk.i64_in _ (by omega)
      have hbw := HH.out.chg.size
      go_wp2_with (fail)
      go_ret
      have q7 : Chg [gx] wr (wr.setCell ⟨gx, 0, none⟩ (.slice A2 (stayU ids ms).length c2)) := (Chg.refl _ _).setCell (.inl (by simp)) _
      have hcw : Chg [gx] w (wr.setCell ⟨gx, 0, none⟩ (.slice A2 (stayU ids ms).length c2)) := (HC.out.mono (T := [gx]) (by simp)).trans q7 (by simp)
      have HX : RefH w0 (wr.setCell ⟨gx, 0, none⟩ (.slice A2 (stayU ids ms).length c2)) gx A2 c2 (stayU ids ms) := by
        refine ⟨?_, own_base (own_keep HO.out q7 (fun j hj hm => own_at_ne HO.out HL.out.at_ (by decide) j hj (by simpa using hm))) (fun k hk => Nat.le_trans hbw (HO.out.lt k hk).1), fun m hm => own_keep (HL.out.dat m (List.mem_filter.1 hm).1) q7 (fun j hj hm2 => own_at_ne (HL.out.dat m (List.mem_filter.1 hm).1) HL.out.at_ (by decide) j hj (by simpa using hm2)), HH.out.new, HH.out.chg.trans hcw (by have := HH.out.new; simp; omega)⟩
        have h := HL.out.at_.set_ 0 (.slice A2 (stayU ids ms).length c2)
        simpa using h
      have hA : ∀ j ∈ blk A2, w.heap.size ≤ j := fun j hj => (own_in HO.out j hj).1
      first | exact ⟨rfl, hcw, A2, ⟨c2, HX⟩, hA⟩ | exact ⟨rfl, A2, ⟨c2, HX⟩, hcw, hA⟩ | exact ⟨rfl, A2, c2, HX, hcw, hA⟩ | exact ⟨A2, c2, rfl, HX, hcw, hA⟩
theorem rdrop_all (h : RefA w0 w gx l rs) (hl : l.length ≤ 1024) {gi : Nat} (hg : At w gi 3 (cI ids).toArray) (hil : ids.length ≤ 140737488355328) (cb : Nat) :
    Calls Try.prog 34 #[.pointer (some ⟨gx, 0, none⟩), .slice (some ⟨gi, 0, none⟩) ids.length cb] w fun e w' => e = .returned (.int .i64 ((l.length : Int) - ((dropL l ids).length : Int))) ∧ RefA w0 w' gx (dropL l ids) rs ∧ w.heap.size ≤ w'.heap.size := by
  obtain ⟨A, c, ms, rfl, H⟩ := h
  rw [List.length_map] at hl
  refine (rdrop_H (RefH.of_all H) hl hg hil cb).mono ?_
  rintro e w' ⟨A', c', rfl, h1, hc, hA⟩
  exact ⟨by rw [dropL_map, List.length_map, List.length_map], ⟨A', c', stayU ids ms, (dropL_map ids ms).symm, RefH.head H (hc.mono (fun j hj => .inl (by simp at hj; subst hj; exact List.mem_cons_self))) h1 (fun j hj => .inr (hA j hj)) (fun j hj => .inl (List.mem_cons_of_mem _ (List.mem_append_right _ ((datF_stay ids ms).subset hj)))) ((ref_datF H).sublist (datF_stay ids ms))⟩, hc.size⟩
end
end Go.Proofs.Ytbgdcplbekoemaa


/-
  net: the laws' own small functions.
-/
import Derived.Test.YtbgdcplbekoemaaNetS
import Derived.Test.YtbgdcplbekoemaaOpenN
import Derived.Test.YtbgdcplbekoemaaSameL
import Derived.Test.YtbgdcplbekoemaaKeep
import Derived.Lib.SlBytesConst
namespace Go.Proofs.Ytbgdcplbekoemaa
open Go.RowKit
set_option linter.unusedVariables false

set_option maxHeartbeats 1600000 in
theorem message_any (w : World) (f t f' t' : Int) (A B : Option Addr) (n m c d : Nat) (xs ys : List UInt8) (hn : xs.length = n) (hm : ys.length = m) (hx : Rd w 1 A xs.length (cB xs)) (hy : Rd w 1 B ys.length (cB ys)) (hl : xs.length ≤ 140737488355328) :
    Calls Try.prog 14 #[.agg #[.int .i64 f, .int .i64 t, .slice A n c], .agg #[.int .i64 f', .int .i64 t', .slice B m d]] w fun e w' => e = .returned (.bool (decide (f = f' ∧ t = t' ∧ xs = ys))) ∧ Chg [] w w' := by
  subst hn hm
  have hc := ((Chg.refl [] w).alloc (.cells #[.int .i64 f, .int .i64 t, .slice A xs.length c] 35)).alloc (.cells #[.int .i64 f', .int .i64 t', .slice B ys.length d] 35)
  have z1 := (At.new w 35 #[.int .i64 f, .int .i64 t, .slice A xs.length c]).al (.cells #[.int .i64 f', .int .i64 t', .slice B ys.length d] 35)
  have z2 := At.newG (w.alloc (.cells #[.int .i64 f, .int .i64 t, .slice A xs.length c] 35)) 35 #[.int .i64 f', .int .i64 t', .slice B ys.length d] (g := w.heap.size + 1) (by simp)
  have u0 := z1.cell 0
  have u1 := z1.cell 1
  have u2 := z1.cell 2
  have v0 := z2.cell 0
  have v1 := z2.cell 1
  have v2 := z2.cell 2
  simp only [List.getElem?_toArray, List.getElem?_cons_zero, List.getElem?_cons_succ] at u0 u1 u2 v0 v1 v2
  have HX := Lib.hid (hx.keep0 hc)
  have HY := Lib.hid (hy.keep0 hc)
  have HC := Lib.hid hc
  clear hx hy hc z1 z2
  cases hb1 : (f == f')
  · have Hv : Hid (decide (f = f' ∧ t = t' ∧ xs = ys) = false) := decide_eq_false (fun h => by rw [h.1] at hb1; simp at hb1)
    rw [Hv.out]
    go_enter Try.func14, Try.ntmps14
    go_wp2_with (fail)
    go_ret
    exact ⟨rfl, HC.out⟩
  obtain rfl : f = f' := by simpa using hb1
  cases hb2 : (t == t')
  · have Hv : Hid (decide (f = f ∧ t = t' ∧ xs = ys) = false) := decide_eq_false (fun h => by rw [h.2.1] at hb2; simp at hb2)
    rw [Hv.out]
    go_enter Try.func14, Try.ntmps14
    go_wp2_with (fail)
    go_ret
    exact ⟨rfl, HC.out⟩
  obtain rfl : t = t' := by simpa using hb2
  have Hv : Hid (decide (f = f ∧ t = t ∧ xs = ys) = decide (xs = ys)) := by unfold Hid; simp
  rw [Hv.out]
  clear Hv
  obtain ⟨b, hb⟩ : ∃ b, decide (xs = ys) = b := ⟨_, rfl⟩
  have HB := Lib.hid hb
  clear hb
  rw [HB.out]
  go_enter Try.func14, Try.ntmps14
  go_wp2_with (fail)
  refine (same_any _ A B _ _ c d xs ys rfl rfl HX.out HY.out hl).mono ?_
  rintro e w2 ⟨he, hch⟩
  rw [HB.out] at he
  subst he
  go_wp2_with (fail)
  go_ret
  exact ⟨rfl, HC.out.trans hch (by simp)⟩
theorem one_any (w : World) (b : Bool) : Calls Try.prog 18 #[.bool b] w fun e w' => e = .returned (.int .i64 (if b then 1 else 0)) ∧ w' = w := by
  cases b
  all_goals
    go_enter Try.func18, Try.ntmps18
    go_wp2_with (fail)
    go_ret
    exact ⟨rfl, rfl⟩
/-- Cells that are only read, among other things. -/
def rRd (g : Nat) (xs : List Value) : Res := ⟨[g], fun w => Rd w 1 (some ⟨g, 0, none⟩) xs.length xs⟩
theorem rRd_stable (w0 : World) (g : Nat) (xs : List Value) : Stable w0 (rRd g xs) := fun w w' h hs hk =>
  Rd.stable' h hs (fun _ b hb hm => hk b hb (.inl (by simpa [rRd, blk] using hm)))
theorem NetA.newRd {w0 w : World} {gn : Nat} {l : List MV} {rs : List Res} (h : NetA w0 w gn l rs) (t : TypeId) (xs : List Value) (fr : Nat × Nat) {g : Nat} (hg : g = w.heap.size) : NetA w0 (w.alloc (.cells xs.toArray t fr)) gn l (rRd g xs :: rs) := h.beside fun r H =>
  H.new ((Chg.refl [] w).alloc _) (rRd g xs) (fun b hb => by simp [rRd] at hb; subst hb hg; simp) (by simp [rRd]) (Rd.new' hg rfl (by simp)) (rRd_stable _ _ _)
theorem NetA.front {w0 w : World} {gn : Nat} {l : List MV} {rs : List Res} (h : NetA w0 w gn l rs) (i : Nat) {r : Res} (hi : rs[i]? = some r) : NetA w0 w gn l (r :: rs.eraseIdx i) := h.beside fun q H => by
  refine H.perm ?_
  have h1 := perm_front rs i r hi
  exact h1.append_right [q]
/-- What 'heavy' tells of acts. -/
def HeavyN (l : List NAct) (w : World) (e : Ending) (w' : World) : Prop := ∃ hv : Bool, e = .returned (.bool hv) ∧ w' = w ∧ (hv = false → ∀ j (h : j < l.length), j < 150 → l[j].ls.length * 5 ≤ 8000 ∧ ∀ x ∈ l[j].ls, x.d.length ≤ 8000)
theorem Rd.getNA {w : World} {A : Option Addr} {n : Nat} {l : List NAct} (h : Rd w 5 A n (cNA l)) {k : Nat} (hk : k < l.length) :
    ∃ ad, A = some ad ∧ ad.block < w.heap.size ∧ w.cell? (ad.add (k * 5)) = some (.int .i64 l[k].k) ∧ (∀ j u, 0 < j → (l[k].cells)[j]? = some u → w.cell? ⟨(ad.add (k * 5)).block, (ad.add (k * 5)).off + j, none⟩ = some u) := by
  have hn : n = l.length := by have := h.len; rw [cNA_len] at this; omega
  obtain ⟨ad, e, hb, hc⟩ := h.at_ (by omega)
  refine ⟨ad, e, hb, hc _ _ (by have := cNA_get hk (j := 0) (by omega); rw [Nat.add_zero] at this; rw [this]; rfl), fun j u hj hu => ?_⟩
  have hj3 : j < 5 := (List.getElem?_eq_some_iff.1 hu).1
  have h1 := hc (k * 5 + j) u (by rw [cNA_get hk hj3]; exact hu)
  rw [← add_add] at h1
  unfold Addr.add at h1
  rw [if_neg (show ¬ j = 0 by omega)] at h1
  exact h1
set_option maxHeartbeats 1600000 in
theorem heavyN_any (w : World) (A : Option Addr) (n c : Nat) (l : List NAct) (hn : l.length = n) (hr : Rd w 5 A l.length (cNA l)) (hl : l.length ≤ 140737488351232) (he : ∀ x ∈ l, x.In w) :
    Calls Try.prog 9 #[.slice A n c] w (HeavyN l w) := by
  subst hn
  have HR := Lib.hid hr
  have HE := Lib.hid he
  clear hr he
  go_enter Try.func9, Try.ntmps9
  go_wp2_with (fail)
  go_loopw [4, 3] (fun i m wr => ∃ k x : Nat, k ≤ l.length ∧ k ≤ 150 ∧ i = .int .i64 k ∧ m = .int .i64 x ∧ x ≤ 8000 ∧ Hid (∀ j (h : j < l.length), j < k → l[j].ls.length * 5 ≤ 8000 ∧ ∀ x ∈ l[j].ls, x.d.length ≤ 8000) ∧ wr = w) (fun i _ _ => l.length - (intOf i).toNat)
  case atStart => exact ⟨0, 0, Nat.zero_le _, by omega, rfl, rfl, by omega, (by intro j h hj; omega), rfl⟩
  case round =>
    obtain ⟨k, x, hk, hk150, rfl, rfl, hx, HS, rfl⟩ := hrel
    by_cases hlt : k < l.length ∧ k < 150
    · obtain ⟨hlt, hk5⟩ := hlt
      obtain ⟨ad, rfl, had, c0, cj⟩ := HR.out.getNA hlt
      have c4 := cj 4 _ (by omega) rfl
      have hIn := HE.out _ (List.getElem_mem hlt)
      have HT : Hid (l[k].ls.length * 5 ≤ 8000 → (∀ x ∈ l[k].ls, x.d.length ≤ 8000) → ∀ j (h : j < l.length), j < k + 1 → l[j].ls.length * 5 ≤ 8000 ∧ ∀ x ∈ l[j].ls, x.d.length ≤ 8000) := fun h1 h2 j h hj => by
        by_cases e : j = k
        · subst e; exact ⟨h1, h2⟩
        · exact HS.out j h (by omega)
      generalize l[k] = a at *
      obtain ⟨ak, an, am, ab, aA, ls, ac⟩ := a
      have HM : Hid (Rd wr 3 aA ls.length (cMs ls)) := hIn.rd
      have HML : Hid (ls.length * 40 ≤ 140737488351232) := hIn.len
      have HMO : Hid (∀ x ∈ ls, x.Op wr) := hIn.each
      simp only at c4 HT
      clear hIn HS cj c0
      have hki : (k : Int) < (l.length : Int) := by omega
      have hki5 : (k : Int) < 150 := by omega
      go_wp2_with (fail)
      go_loopw [5, 3] (fun i m w9 => ∃ q y : Nat, q ≤ ls.length ∧ i = .int .i64 q ∧ m = .int .i64 y ∧ y ≤ 8000 ∧ q * 5 ≤ y ∧ Hid (∀ j (h : j < ls.length), j < q → ls[j].d.length ≤ 8000) ∧ w9 = wr) (fun i _ _ => ls.length - (intOf i).toNat)
      case atStart => exact ⟨0, x, Nat.zero_le _, rfl, rfl, hx, by omega, (by intro j h hj; omega), rfl⟩
      case round =>
        obtain ⟨q, y, hq, rfl, rfl, hy, hqy, HQ, rfl⟩ := hrel
        by_cases hlt2 : q < ls.length
        · obtain ⟨ad2, rfl, had2, hcm⟩ : ∃ ad2, aA = some ad2 ∧ ad2.block < wr.heap.size ∧ wr.cell? ⟨(ad2.add (q * 3)).block, (ad2.add (q * 3)).off + 2, none⟩ = some (.slice ls[q].A ls[q].d.length ls[q].cp) := by
            obtain ⟨ad2, e, hb, hc⟩ := HM.out.at_ (by omega)
            refine ⟨ad2, e, hb, ?_⟩
            have h1 := hc (q * 3 + 2) _ (by rw [cMs_get hlt2 (by omega)]; rfl)
            rw [← add_add] at h1
            unfold Addr.add at h1
            rw [if_neg (show ¬ 2 = 0 by omega)] at h1
            exact h1
          have hdl := (HMO.out _ (List.getElem_mem hlt2)).dl
          have HQ2 : Hid (ls[q].d.length ≤ 8000 → ∀ j (h : j < ls.length), j < q + 1 → ls[j].d.length ≤ 8000) := fun h1 j h hj => by
            by_cases e : j = q
            · subst e; exact h1
            · exact HQ.out j h (by omega)
          generalize ls[q] = v at *
          obtain ⟨vf, vt, vd, vA, vcp⟩ := v
          simp only at hcm hdl HQ2
          clear HQ
          have hqi : (q : Int) < (ls.length : Int) := by omega
          by_cases h8 : 8000 < y + 5 + vd.length
          · have h8b : decide ((8000 : Int) < (y : Int) + 5 + (vd.length : Int)) = true := decide_eq_true (by omega)
            go_wp2_with (fail)
            go_ret
            exact ⟨true, rfl, rfl, by simp⟩
          · have h8b : decide ((8000 : Int) < (y : Int) + 5 + (vd.length : Int)) = false := decide_eq_false (by omega)
            have HQ3 := Lib.hid (HQ2.out (by omega))
            go_wp2_with (fail)
            go_roundw
            case rel => exact ⟨q + 1, y + 5 + vd.length, by omega, by go_num, by go_num, by omega, by omega, HQ3.out, trivial⟩
            case measure => simp [intOf]; omega
        · obtain rfl : q = ls.length := by omega
          have HT2 := Lib.hid (HT.out (by omega) (fun x hx => by
            obtain ⟨j, hj, rfl⟩ := List.mem_iff_getElem.1 hx
            exact HQ.out j hj hj))
          have hqi : ¬ (ls.length : Int) < (ls.length : Int) := by omega
          clear HQ HT
          go_wp2_with (fail)
          go_roundw
          case rel => exact ⟨k + 1, y, by omega, by omega, by go_num, rfl, by omega, HT2.out, trivial⟩
          case measure => simp [intOf]; omega
    · have HS4 : Hid (∀ j (h : j < l.length), j < 150 → l[j].ls.length * 5 ≤ 8000 ∧ ∀ x ∈ l[j].ls, x.d.length ≤ 8000) := fun j h hj => HS.out j h (by omega)
      clear HS
      by_cases h1 : k < l.length
      · have h2 : ¬ (k : Int) < 150 := by omega
        have h1i : (k : Int) < (l.length : Int) := by omega
        go_wp2_with (fail)
        go_ret
        exact ⟨false, rfl, rfl, fun _ => HS4.out⟩
      · have h1i : ¬ (k : Int) < (l.length : Int) := by omega
        go_wp2_with (fail)
        go_ret
        exact ⟨false, rfl, rfl, fun _ => HS4.out⟩
/-- One act of messages, in a row of its own. -/
theorem heavyN_one (w : World) (g : Nat) (A : Option Addr) (c : Nat) (ls : List MsgV) (hg : At w g 26 #[.int .i64 0, .int .i64 0, .int .i64 0, .int .u8 0, .slice A ls.length c]) (hr : Rd w 3 A ls.length (cMs ls)) (hc : ls.length ≤ c) (hcm : c ≤ maxLen) (hl : ls.length * 40 ≤ 140737488351232) (he : ∀ x ∈ ls, x.Op w) :
    Calls Try.prog 9 #[.slice (some ⟨g, 0, none⟩) 1 1] w fun e w' => ∃ hv : Bool, e = .returned (.bool hv) ∧ w' = w ∧ (hv = false → ls.length * 5 ≤ 8000 ∧ ∀ x ∈ ls, x.d.length ≤ 8000) := by
  refine (heavyN_any w _ 1 1 [⟨0, 0, 0, 0, A, ls, c⟩] rfl (Rd.of_at (l := cNA [⟨0, 0, 0, 0, A, ls, c⟩]) hg (cNA_len _)) (by simp) (fun x hx => ?_)).mono ?_
  · obtain rfl := List.mem_singleton.1 hx
    exact ⟨hr, hc, hcm, hl, he, (by decide : (Lit.int .i64 0).wf = true), (by decide : (Lit.int .i64 0).wf = true), (by decide : (Lit.int .u8 0).wf = true)⟩
  · rintro e w1 ⟨hv, rfl, rfl, h⟩
    exact ⟨hv, rfl, rfl, fun h0 => h h0 0 (by simp) (by omega)⟩
end Go.Proofs.Ytbgdcplbekoemaa

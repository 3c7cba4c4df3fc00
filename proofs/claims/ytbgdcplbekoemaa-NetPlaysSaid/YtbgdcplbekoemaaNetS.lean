
/-
  net: Send, and what a nil Net answers.
-/
import Derived.Test.YtbgdcplbekoemaaNetG
namespace Go.Proofs.Ytbgdcplbekoemaa
open Go.RowKit
set_option linter.unusedVariables false
attribute [local go_sem ↓] run_min2 run_max2

theorem MsIn.get3 {w : World} {A : Option Addr} {l : List MsgV} (h : MsIn w A l) {k : Nat} (hk : k < l.length) :
    ∃ ad, A = some ad ∧ ad.block < w.heap.size ∧ w.cell? (ad.add (k * 3)) = some (.int .i64 l[k].f) ∧ w.cell? ⟨(ad.add (k * 3)).block, (ad.add (k * 3)).off + 1, none⟩ = some (.int .i64 l[k].t) ∧ w.cell? ⟨(ad.add (k * 3)).block, (ad.add (k * 3)).off + 2, none⟩ = some (.slice l[k].A l[k].d.length l[k].cp) := by
  obtain ⟨ad, e, hb, hc⟩ := h.rd.at_ (by omega)
  have hj : ∀ j u, 0 < j → j < 3 → (l[k].cells)[j]? = some u → w.cell? ⟨(ad.add (k * 3)).block, (ad.add (k * 3)).off + j, none⟩ = some u := fun j u hj hj3 hu => by
    have h1 := hc (k * 3 + j) u (by rw [cMs_get hk hj3]; exact hu)
    rw [← add_add] at h1
    unfold Addr.add at h1
    rw [if_neg (show ¬ j = 0 by omega)] at h1
    exact h1
  exact ⟨ad, e, hb, hc _ _ (by have := cMs_get hk (j := 0) (by omega); rw [Nat.add_zero] at this; rw [this]; rfl), hj 1 _ (by omega) (by omega) rfl, hj 2 _ (by omega) (by omega) rfl⟩
/-- What lies in the Net when k messages were sent. -/
def sendL (l : List MV) (ms : List MsgV) (k : Nat) : List MV := l ++ (ms.map MsgV.val).take (min k (1024 - l.length))
theorem sendL_zero (l : List MV) (ms : List MsgV) : sendL l ms 0 = l := by simp [sendL]
theorem sendL_succ {l : List MV} {ms : List MsgV} {k : Nat} (hk : k < ms.length) : sendL l ms (k + 1) = if k < 1024 - l.length then sendL l ms k ++ [ms[k].val] else sendL l ms k := by
  unfold sendL
  split
  · rename_i h
    rw [Nat.min_eq_left (by omega), Nat.min_eq_left (by omega), List.take_succ_eq_append_getElem (by simpa using hk), List.getElem_map, List.append_assoc]
  · rename_i h
    rw [Nat.min_eq_right (by omega), Nat.min_eq_right (by omega)]
theorem sendL_len {l : List MV} {ms : List MsgV} {k : Nat} (hk : k ≤ ms.length) : (sendL l ms k).length = l.length + min k (1024 - l.length) := by
  unfold sendL
  rw [List.length_append, List.length_take, List.length_map]
  omega
section
variable {w0 w w' : World} {gn : Nat} {l : List MV} {rs : List Res}
set_option maxHeartbeats 1600000 in
theorem send_all (h : NetA w0 w gn l rs) (hl : l.length ≤ 1024) (A : Option Addr) (n c : Nat) (ms : List MsgV) (hn : ms.length = n) (hlen : ms.length ≤ 140737488355328)
    (hM : ∀ w', w.heap.size ≤ w'.heap.size → (∃ l', NetA w0 w' gn l' rs) → MsIn w' A ms) :
    Calls Try.prog 11 #[.pointer (some ⟨gn, 0, none⟩), .slice A n c] w fun e w' => e = .returned (.int .i64 (min ms.length (1024 - l.length) : Nat)) ∧ NetA w0 w' gn (sendL l ms ms.length) rs ∧ w.heap.size ≤ w'.heap.size := by
  subst hn
  have HH := Lib.hid h
  have HM := Lib.hid hM
  have Hl := Lib.hid hl
  clear h hM hl
  go_enter Try.func11, Try.ntmps11
  go_wp2_with (fail)
  go_loopw [10, 5] (fun i m wr => ∃ k : Nat, k ≤ ms.length ∧ i = .int .i64 k ∧ m = .int .i64 (min k (1024 - l.length) : Nat) ∧ Hid (NetA w0 wr gn (sendL l ms k) rs) ∧ w.heap.size ≤ wr.heap.size) (fun i _ _ => ms.length - (intOf i).toNat)
  case atStart => exact ⟨0, Nat.zero_le _, rfl, by simp, by rw [sendL_zero]; exact HH, Nat.le_refl _⟩
  case round =>
    obtain ⟨k, hk, rfl, rfl, HN, hs⟩ := hrel
    by_cases hlt : k < ms.length
    · have hMI := HM.out wr hs ⟨_, HN.out⟩
      obtain ⟨ad, rfl, had, g0, g1, g2⟩ := hMI.get3 hlt
      have hIn := hMI.each _ (List.getElem_mem hlt)
      have HL : Hid (sendL l ms (k + 1) = if k < 1024 - l.length then sendL l ms k ++ [ms[k].val] else sendL l ms k) := sendL_succ hlt
      have HLn : Hid ((sendL l ms k).length = l.length + min k (1024 - l.length)) := sendL_len hk
      have hki : (k : Int) < (ms.length : Int) := by omega
      clear hMI
      generalize ms[k] = x at *
      obtain ⟨xf, xt, xd, xA, xcp⟩ := x
      simp only at g0 g1 g2
      have HR := Lib.hid hIn.rd
      have HNil := Lib.hid hIn.nil
      have HD := Lib.hid hIn.dl
      simp only at HR HNil HD
      clear hIn
      have qa := (Chg.refl [] wr).alloc (.cells #[.int .i64 xf, .int .i64 xt, .slice xA xd.length xcp] 35)
      have za := At.new wr 35 #[.int .i64 xf, .int .i64 xt, .slice xA xd.length xcp]
      have u0 := za.cell 0
      have u1 := za.cell 1
      have u2 := za.cell 2
      simp only [List.getElem?_toArray, List.getElem?_cons_zero, List.getElem?_cons_succ] at u0 u1 u2
      have H2 := Lib.hid (HN.out.quiet qa)
      have HR2 := Lib.hid (HR.out.keep0 qa)
      have hs2 := qa.size
      clear za qa HN HR
      generalize hmk : min k (1024 - l.length) = mk at *
      generalize sendL l ms k = lk at *
      by_cases hc : k < 1024 - l.length
      · obtain rfl : mk = k := by omega
        have Hlk : Hid (lk.length < 1024) := by have h1 := HLn.out; have := Hl.out; unfold Hid; omega
        have Hmk1 : Hid (min (mk + 1) (1024 - l.length) = mk + 1) := by unfold Hid; omega
        have HLL : Hid (sendL l ms (mk + 1) = lk ++ [⟨xf, xt, xd, false⟩]) := by unfold Hid; rw [HL.out, if_pos hc]; rfl
        clear HL HLn hmk hc
        go_wp2_with (fail)
        refine (lays_all H2.out Hlk.out xf xt xd xA _ xcp false rfl HR2.out HD.out HNil.out).mono ?_
        rintro e w3 ⟨rfl, H3, hs3⟩
        have HN3 := Lib.hid H3
        clear H3 u0 u1 u2 g0 g1 g2
        go_wp2_with (fail)
        go_roundw
        case rel => exact ⟨mk + 1, by omega, by go_num, by rw [Hmk1.out]; go_num, by rw [HLL.out]; exact HN3, by omega⟩
        case measure => simp [intOf]; omega
      · have Hlk : Hid (lk.length = 1024) := by have h1 := HLn.out; have := Hl.out; unfold Hid; omega
        have Hmk1 : Hid (min (k + 1) (1024 - l.length) = mk) := by unfold Hid; omega
        have HLL : Hid (sendL l ms (k + 1) = lk) := by unfold Hid; rw [HL.out, if_neg hc]
        clear HL HLn hmk hc
        go_wp2_with (fail)
        refine (lays_none H2.out Hlk.out xf xt xA _ xcp false).mono ?_
        rintro e w3 ⟨rfl, H3, hs3⟩
        have HN3 := Lib.hid H3
        clear H3 u0 u1 u2 g0 g1 g2
        go_wp2_with (fail)
        go_roundw
        case rel => exact ⟨k + 1, by omega, by go_num, by rw [Hmk1.out], by rw [HLL.out]; exact HN3, by omega⟩
        case measure => simp [intOf]; omega
    · obtain rfl : k = ms.length := by omega
      have hki : ¬ (ms.length : Int) < (ms.length : Int) := by omega
      go_wp2_with (fail)
      go_ret
      exact ⟨rfl, HN.out, hs⟩
set_option maxHeartbeats 1600000 in
theorem send_nil (A : Option Addr) (n c : Nat) (ms : List MsgV) (hn : ms.length = n) (hM : MsIn w A ms) (hlen : ms.length ≤ 140737488355328) :
    Calls Try.prog 11 #[.pointer none, .slice A n c] w fun e w' => e = .returned (.int .i64 0) ∧ Chg [] w w' := by
  subst hn
  have HM := Lib.hid hM
  clear hM
  go_enter Try.func11, Try.ntmps11
  go_wp2_with (fail)
  go_loopw [10, 5] (fun i m wr => ∃ k : Nat, k ≤ ms.length ∧ i = .int .i64 k ∧ m = .int .i64 0 ∧ Hid (Chg [] w wr)) (fun i _ _ => ms.length - (intOf i).toNat)
  case atStart => exact ⟨0, Nat.zero_le _, rfl, rfl, Chg.refl _ _⟩
  case round =>
    obtain ⟨k, hk, rfl, rfl, hch⟩ := hrel
    by_cases hlt : k < ms.length
    · obtain ⟨ad, rfl, had, g0, g1, g2⟩ := (HM.out.k hch.out).get3 hlt
      have hki : (k : Int) < (ms.length : Int) := by omega
      generalize ms[k] = x at *
      obtain ⟨xf, xt, xd, xA, xcp⟩ := x
      simp only at g0 g1 g2
      go_wp2_with (fail)
      go_roundw
      case rel => exact ⟨k + 1, by omega, by go_num, rfl, hch.out.alloc _⟩
      case measure => simp [intOf]; omega
    · obtain rfl : k = ms.length := by omega
      have hki : ¬ (ms.length : Int) < (ms.length : Int) := by omega
      go_wp2_with (fail)
      go_ret
      exact ⟨rfl, hch.out⟩
theorem spoil_nil (w : World) (p a b : Int) : Calls Try.prog 19 #[.pointer none, .int .i64 p, .int .i64 a, .int .u8 b] w fun e w' => e = .returned (.bool false) ∧ Chg [] w w' := by
  have HP := Lib.hid (fun w => picked_nil w p)
  go_enter Try.func19, Try.ntmps19
  go_wp2_with (fail)
  refine (HP.out _).mono ?_
  rintro e w1 ⟨rfl, rfl⟩
  go_wp2_with (fail)
  go_ret
  exact ⟨rfl, Chg.refl _ _⟩
theorem drop_nil (w : World) (A : Option Addr) (n c : Nat) : Calls Try.prog 23 #[.pointer none, .slice A n c] w fun e w' => e = .returned (.int .i64 0) ∧ Chg [] w w' := by
  have HP := Lib.hid (fun w => len_nil w)
  go_enter Try.func23, Try.ntmps23
  go_wp2_with (fail)
  refine (HP.out _).mono ?_
  rintro e w1 ⟨rfl, rfl⟩
  go_wp2_with (fail)
  refine (HP.out _).mono ?_
  rintro e w2 ⟨rfl, rfl⟩
  go_wp2_with (fail)
  go_ret
  exact ⟨rfl, (Chg.refl _ _).alloc _⟩
end
end Go.Proofs.Ytbgdcplbekoemaa

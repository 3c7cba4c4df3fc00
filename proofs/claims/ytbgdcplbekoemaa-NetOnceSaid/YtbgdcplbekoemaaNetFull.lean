
/-
  NetFull: the walk of the law.
-/
import Derived.Test.YtbgdcplbekoemaaNetK
namespace Go.Proofs.Ytbgdcplbekoemaa
open Go.RowKit
set_option linter.unusedVariables false
attribute [local go_sem ↓] run_min2 run_max2

theorem send_one {w0 w : World} {gn g3 : Nat} {l : List MV} {rs : List Res} (x : MsgV) (hx : x.In w0) (h : NetA w0 w gn l (rAt g3 35 #[.int .i64 x.f, .int .i64 x.t, .slice x.A x.d.length x.cp] :: rs)) (hl : l.length ≤ 1024) :
    Calls Try.prog 11 #[.pointer (some ⟨gn, 0, none⟩), .slice (some ⟨g3, 0, none⟩) 1 1] w fun e w' => e = .returned (.int .i64 (if l.length < 1024 then 1 else 0)) ∧ NetA w0 w' gn (if l.length < 1024 then l ++ [x.val] else l) rs ∧ w.heap.size ≤ w'.heap.size := by
  refine (send_all h hl (some ⟨g3, 0, none⟩) 1 1 [x] rfl (by simp) ?_).mono ?_
  · rintro w' hs ⟨l', h'⟩
    refine ⟨Rd.of_at (l := cMs [x]) (h'.at_ 0 rfl) (cMs_len _), fun y hy => ?_⟩
    obtain rfl := List.mem_singleton.1 hy
    exact hx.k h'.chg
  · rintro e w' ⟨rfl, h', hs⟩
    refine ⟨?_, ?_, hs⟩
    · by_cases hc : l.length < 1024
      · rw [if_pos hc, Nat.min_eq_left (by simp; omega)]; rfl
      · rw [if_neg hc, Nat.min_eq_right (by simp; omega), show 1024 - l.length = 0 by omega]; rfl
    · have e : sendL l [x] [x].length = if l.length < 1024 then l ++ [x.val] else l := by
        have h1 := sendL_succ (l := l) (ms := [x]) (k := 0) (by simp)
        rw [sendL_zero] at h1
        rw [show [x].length = 0 + 1 from rfl, h1]
        by_cases hc : l.length < 1024
        · rw [if_pos (by omega), if_pos hc]; rfl
        · rw [if_neg (by omega), if_neg hc]
      rw [e] at h'
      exact h'.tail
theorem twiceL_len (l : List MV) (p : Int) : (twiceL l p).length = if 0 < l.length ∧ l.length < 1024 then l.length + 1 else l.length := by
  unfold twiceL
  by_cases h1 : l.length < 1024
  · rw [if_pos h1]
    by_cases h0 : 0 < l.length
    · rw [if_pos ⟨h0, h1⟩, List.length_append, List.getElem?_eq_getElem (pickN_lt h0)]; rfl
    · rw [if_neg (fun h => h0 h.1), List.length_append, List.getElem?_eq_none (by omega)]; rfl
  · rw [if_neg h1, if_neg (fun h => h1 h.2)]
set_option maxRecDepth 100000 in
set_option maxHeartbeats 3200000 in
theorem netFull_law (w : World) (a : Int) (ha : (Lit.int .i64 a).wf = true) :
    Calls Try.prog 5 #[.int .i64 a] w fun e w' => e = .returned (.bool true) ∧ Chg [] w w' := by
  by_cases hok : 0 ≤ a ∧ a ≤ 1100
  rotate_left
  · by_cases h0 : a < 0
    · have hb : decide (a < 0) = true := decide_eq_true h0
      go_enter Try.func5, Try.ntmps5
      go_wp2_with (fail)
      refine (knownN_any _).mono ?_
      rintro e w9 ⟨rfl, hch9⟩
      go_wp2_with (fail)
      go_ret
      exact ⟨rfl, hch9⟩
    · have hb : decide (a < 0) = false := decide_eq_false h0
      have hb2 : decide ((1100 : Int) < a) = true := decide_eq_true (by omega)
      go_enter Try.func5, Try.ntmps5
      go_wp2_with (fail)
      refine (knownN_any _).mono ?_
      rintro e w9 ⟨rfl, hch9⟩
      go_wp2_with (fail)
      go_ret
      exact ⟨rfl, hch9⟩
  obtain ⟨a0, a1⟩ := hok
  obtain ⟨n, rfl⟩ := Int.eq_ofNat_of_zero_le a0
  have hn : n ≤ 1100 := by omega
  clear a0 ha
  have hb : decide ((n : Int) < 0) = false := decide_eq_false (by omega)
  have hb2 : decide ((1100 : Int) < (n : Int)) = false := decide_eq_false (by omega)
  clear a1
  go_enter Try.func5, Try.ntmps5
  go_wp2_with (fail)
  refine (new_all (All.start w)).mono ?_
  rintro e w1 ⟨gn, rfl, H1, hs1, hgn⟩
  have HN := Lib.hid H1
  clear H1
  go_wp2_with (fail)
  clear hb hb2
  go_loopw [5, 4] (fun i m wr => ∃ (k x : Nat), k ≤ n ∧ i = .int .i64 k ∧ m = .int .i64 x ∧ Hid (x = min k 1024) ∧ x ≤ 1024 ∧ Hid (∃ l : List MV, NetA w wr gn l [] ∧ l.length = x ∧ ∀ m ∈ l, m.d = [])) (fun i _ _ => n - (intOf i).toNat)
  case atStart => exact ⟨0, 0, Nat.zero_le _, rfl, rfl, rfl, by omega, [], HN.out, rfl, by simp⟩
  case round =>
    obtain ⟨k, x, hk, rfl, rfl, hx, hx4, HL⟩ := hrel
    by_cases hlt : k < n
    · obtain ⟨l, HA, hl, hd⟩ := HL.out
      have hki : (k : Int) < (n : Int) := by omega
      have HS := Lib.hid (send_one (rs := []) ⟨0, k, [], none, 0⟩ ⟨Rd.nil _ _ _, fun _ => rfl, by simp⟩ (HA.newAt 35 #[.int .i64 0, .int .i64 k, .slice none 0 0] rfl) (by omega))
      have Hd := Lib.hid hd
      clear HL HA hd
      go_wp2_with (fail)
      refine HS.out.mono ?_
      rintro e w3 ⟨rfl, H3, hs3⟩
      have HN3 := Lib.hid H3
      clear H3 HS
      by_cases hc : l.length < 1024
      · have HL3 : Hid (∃ l : List MV, NetA w w3 gn l [] ∧ l.length = x + 1 ∧ ∀ m ∈ l, m.d = []) := ⟨_, HN3.out, by rw [if_pos hc, List.length_append, hl]; rfl, fun m hm => by
          rw [if_pos hc] at hm
          rcases List.mem_append.1 hm with h | h
          · exact Hd.out m h
          · obtain rfl := List.mem_singleton.1 h; rfl⟩
        rw [if_pos hc]
        clear HN3 Hd
        go_wp2_with (fail)
        go_roundw
        case rel => exact ⟨k + 1, x + 1, by omega, by go_num, by go_num, (by have := hx.out; unfold Hid; omega), by omega, HL3⟩
        case measure => simp [intOf]; omega
      · have HL3 : Hid (∃ l : List MV, NetA w w3 gn l [] ∧ l.length = x ∧ ∀ m ∈ l, m.d = []) := ⟨_, HN3.out, by rw [if_neg hc, hl], fun m hm => by
          rw [if_neg hc] at hm
          exact Hd.out m hm⟩
        rw [if_neg hc]
        clear HN3 Hd
        go_wp2_with (fail)
        go_roundw
        case rel => exact ⟨k + 1, x, by omega, by go_num, by go_num, (by have := hx.out; unfold Hid; omega), by omega, HL3⟩
        case measure => simp [intOf]; omega
    · obtain rfl : k = n := by omega
      obtain ⟨l, HA, hl, hd⟩ := HL.out
      have hki : ¬ (k : Int) < (k : Int) := by omega
      have HA2 := Lib.hid HA
      have Hd := Lib.hid (fun m hm => by rw [hd m hm]; simp : ∀ m ∈ l, m.d.length ≤ 1099511627776)
      have hlen : l.length ≤ 1024 := by omega
      clear HL HA hd
      go_wp2_with (fail)
      refine (twice_all HA2.out hlen Hd.out 0).mono ?_
      rintro e w3 ⟨rfl, H3, hs3⟩
      have HN3 := Lib.hid H3
      clear H3
      have HF : Hid (∀ (y : Nat), (twiceL l 0).length = y → Calls Try.prog 15 #[.pointer (some ⟨gn, 0, none⟩)] w3 fun e w' => e = .returned (.int .i64 y) ∧ w' = w3) := fun y h => by
        have h1 := len_all HN3.out
        rw [h] at h1
        exact h1
      have HC3 := Lib.hid HN3.out.chg
      have HTL := Lib.hid (twiceL_len l 0)
      clear HN3
      have hmin : ((x : Int) == min (k : Int) 1024) = true := by have := hx.out; rw [beq_iff_eq]; omega
      by_cases hm : 0 < l.length ∧ l.length < 1024
      · rw [decide_eq_true hm]
        have h5 := Lib.hid (HF.out (x + 1) (by rw [HTL.out, if_pos hm, hl]))
        have g1 : decide ((0 : Int) < (k : Int)) = true := decide_eq_true (by have := hx.out; omega)
        have g1' : decide (0 < k) = true := decide_eq_true (by have := hx.out; omega)
        have g2 : decide ((k : Int) < 1024) = true := decide_eq_true (by have := hx.out; omega)
        have g3 : min 1024 ((x : Int) + 1) = (x : Int) + 1 := by omega
        clear HF HTL hm hl
        go_wp2_with (fail)
        refine h5.out.mono ?_
        rintro e w4 ⟨rfl, rfl⟩
        go_wp2_with (fail)
        refine (one_any _ false).mono ?_
        rintro e w5 ⟨rfl, rfl⟩
        rw [if_neg (by decide)]
        clear hmin g1 g1' g2
        go_wp2_with (fail)
        refine (knownN_any _).mono ?_
        rintro e w6 ⟨rfl, hch6⟩
        go_wp2_with (fail)
        go_ret
        exact ⟨rfl, HC3.out.trans hch6 (by simp)⟩
      · rw [decide_eq_false hm]
        have h5 := Lib.hid (HF.out x (by rw [HTL.out, if_neg hm, hl]))
        by_cases h0 : k = 0
        · have g1 : decide ((0 : Int) < (k : Int)) = false := decide_eq_false (by omega)
          have g1' : decide (0 < k) = false := decide_eq_false (by omega)
          have g2 : decide ((x : Int) < 1024) = true := decide_eq_true (by have := hx.out; omega)
          have g3 : min 1024 ((x : Int) + 1) = (x : Int) + 1 := by have := hx.out; omega
          clear HF HTL hm hl h0
          go_wp2_with (fail)
          refine h5.out.mono ?_
          rintro e w4 ⟨rfl, rfl⟩
          go_wp2_with (fail)
          refine (one_any _ true).mono ?_
          rintro e w5 ⟨rfl, rfl⟩
          rw [if_pos rfl]
          go_wp2_with (fail)
          refine (knownN_any _).mono ?_
          rintro e w6 ⟨rfl, hch6⟩
          go_wp2_with (fail)
          go_ret
          exact ⟨rfl, HC3.out.trans hch6 (by simp)⟩
        · have g1 : decide ((0 : Int) < (k : Int)) = true := decide_eq_true (by omega)
          have g1' : decide (0 < k) = true := decide_eq_true (by omega)
          have g2 : decide ((k : Int) < 1024) = false := decide_eq_false (by have := hx.out; omega)
          have g4 : decide ((x : Int) < 1024) = false := decide_eq_false (by have := hx.out; omega)
          have g3 : min 1024 ((x : Int) + 1) = (x : Int) := by have := hx.out; omega
          clear HF HTL hm hl h0
          go_wp2_with (fail)
          refine h5.out.mono ?_
          rintro e w4 ⟨rfl, rfl⟩
          go_wp2_with (fail)
          refine (one_any _ false).mono ?_
          rintro e w5 ⟨rfl, rfl⟩
          rw [if_neg (by decide)]
          clear hmin g1 g1' g2
          go_wp2_with (fail)
          refine (knownN_any _).mono ?_
          rintro e w6 ⟨rfl, hch6⟩
          go_wp2_with (fail)
          go_ret
          exact ⟨rfl, HC3.out.trans hch6 (by simp)⟩
end Go.Proofs.Ytbgdcplbekoemaa

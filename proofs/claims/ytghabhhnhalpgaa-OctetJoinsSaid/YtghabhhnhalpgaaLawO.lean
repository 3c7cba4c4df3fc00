/-
  The laws' own small functions (same, known) of chapter 1.
-/
import Derived.Test.YtghabhhnhalpgaaOctR3
import Derived.Test.YtghabhhnhalpgaaOctS
import Derived.Lib.SlBytesConst
namespace Go.Proofs.Ytghabhhnhalpgaa
open Go.RowKit

set_option maxHeartbeats 400000 in
theorem same_any (w : World) (A B : Option Addr) (n m c d : Nat) (xs ys : List UInt8) (hn : xs.length = n) (hm : ys.length = m) (hx : Rd w 1 A xs.length (cB xs)) (hy : Rd w 1 B ys.length (cB ys)) (hl : xs.length ≤ 140737488355328) :
    Calls Try.prog 14 #[.slice A n c, .slice B m d] w fun e w' => e = .returned (.bool (decide (xs = ys))) ∧ Chg [] w w' := by
  subst hn hm
  by_cases hlen : xs.length = ys.length
  · go_enter Try.func14, Try.ntmps14
    have hb : ((xs.length : Int) != (ys.length : Int)) = false := by rw [hlen]; simp
    have Hlen := Lib.hid hlen
    clear hlen
    go_wp2_with (fail)
    go_loopw [5] (fun i wr => ∃ k : Nat, k ≤ xs.length ∧ i = .int .i64 k ∧ Hid (xs.take k = ys.take k) ∧ Chg [] w wr) (fun i _ => xs.length - (intOf i).toNat)
    case atStart => exact ⟨0, Nat.zero_le _, rfl, by simp [Hid], Chg.refl _ _⟩
    case round =>
      obtain ⟨k, hk, rfl, HT, hch⟩ := hrel
      by_cases hlt : k < xs.length
      · have hlt2 : k < ys.length := by have := Hlen.out; omega
        obtain ⟨ad, u, rfl, had, hu, hc⟩ := (hx.keep0 hch).get hlt
        obtain ⟨ad2, u2, rfl, had2, hu2, hc2⟩ := (hy.keep0 hch).get hlt2
        rw [cB_get hlt] at hu
        rw [cB_get hlt2] at hu2
        have H1 : Hid (xs.take (k + 1) = xs.take k ++ [xs[k]]) := List.take_succ_eq_append_getElem hlt
        have H2 : Hid (ys.take (k + 1) = ys.take k ++ [ys[k]]) := List.take_succ_eq_append_getElem hlt2
        have H3 : Hid (xs[k]? = some xs[k]) := List.getElem?_eq_getElem hlt
        have H4 : Hid (ys[k]? = some ys[k]) := List.getElem?_eq_getElem hlt2
        generalize xs[k] = x at *
        generalize ys[k] = y at *
        obtain rfl : Value.int .u8 (x.toNat : Int) = u := by simpa using hu
        obtain rfl : Value.int .u8 (y.toNat : Int) = u2 := by simpa using hu2
        clear hu hu2 hb
        by_cases hxy : x = y
        · subst hxy
          have hb2 : ((x.toNat : Int) != (x.toNat : Int)) = false := by simp
          have hki : (k : Int) < (xs.length : Int) := by omega
          have hki2 : (k : Int) < (ys.length : Int) := by omega
          go_wp2_with (fail)
          go_quiet (fail)
          go_wp2_with (fail)
          go_roundw
          case rel => exact ⟨k + 1, by omega, by go_num, by unfold Hid; rw [H1.out, H2.out, HT.out], by first | exact hch.drewN _ | exact hch⟩
          case measure => simp [intOf]; omega
        · have hb2 : ((x.toNat : Int) != (y.toNat : Int)) = true := by
            rw [bne_iff_ne]; intro he; exact hxy (UInt8.toNat_inj.1 (by omega))
          have Hne : Hid (xs ≠ ys) := by
            intro he; have h3 := H3.out; rw [he, H4.out] at h3; simp at h3; exact hxy h3.symm
          clear hxy
          have hki : (k : Int) < (xs.length : Int) := by omega
          have hki2 : (k : Int) < (ys.length : Int) := by omega
          go_wp2_with (fail)
          go_quiet (fail)
          go_wp2_with (fail)
          go_ret
          exact ⟨by rw [decide_eq_false Hne.out]; rfl, hch.drewN _⟩
      · obtain rfl : k = xs.length := by omega
        have Hee : Hid (xs = ys) := by
          have h := HT.out
          rw [List.take_length, Hlen.out, List.take_length] at h
          exact h
        clear hb
        go_wp2_with (fail)
        go_ret
        exact ⟨by rw [decide_eq_true Hee.out]; rfl, hch⟩
  · have hb : ((xs.length : Int) != (ys.length : Int)) = true := by rw [bne_iff_ne]; omega
    go_enter Try.func14, Try.ntmps14
    have Hne : Hid (xs ≠ ys) := fun he => hlen (by rw [he])
    clear hlen
    go_wp2_with (fail)
    go_ret
    exact ⟨by rw [decide_eq_false Hne.out]; rfl, Chg.refl _ _⟩

set_option maxHeartbeats 1600000 in
theorem known_any (w : World) : Calls Try.prog 11 #[] w fun e w' => e = .returned (.bool true) ∧ Chg [] w w' := by
  have kc := fun (w : World) (C : Array Value) (n c : Nat) => Lib.run_convert_bytes_const (P := Try.prog) w 23 5 C n c Try.underlying23 Try.underlying5
  have kc2 := fun (w : World) (o : Obj) (C : Array Value) (n c : Nat) => run_conv2 (P := Try.prog) w o 23 5 C n c Try.underlying23 Try.underlying5
  go_enter Try.func11, Try.ntmps11
  go_wp2_with (fail)
  have hn0 := Wr.new w
  refine (nums_any w.heap.size [] w _ none 0 (some ⟨w.heap.size + 1, 0, none⟩) 2 [1, 300] [] (hn0.keep0 ((Chg.refl _ _).alloc _)) (Rd.new' (by simp) rfl rfl) (by simp) (by simp) (Away.at (by simp [blk]))).mono ?_
  rintro e w1 ⟨rfl, A1, c1, h1⟩
  have Hs1 := Lib.hid h1.chg.size
  have e1 : ([] : List UInt8) ++ encs (List.map clamp [1, 300]) = [1, 172, 2] := by rw [List.map_cons, List.map_cons, List.map_nil, show clamp 1 = 1 from rfl, show clamp 300 = 300 from rfl, encs_cons, encs_cons, encs_nil, enc_lo (by omega), enc_hi (by omega), enc_lo (by omega)]; rfl
  rw [e1] at h1
  clear e1
  go_wp2_with (fail)
  refine (bytes_any w.heap.size [] w _ A1 c1 (some ⟨w1.heap.size + 1, 0, none⟩) 1 [⟨some ⟨w1.heap.size, 0, none⟩, 1, [97]⟩] [1, 172, 2] ((h1.keep0 ((Chg.refl _ _).alloc _)).keep0 ((Chg.refl _ _).alloc _)) (Rd.new' (by simp) rfl rfl) ?_ ?_ ?_ ?_ (by simp)).mono ?_
  · intro r hr
    obtain rfl := List.mem_singleton.1 hr
    exact (Rd.new (size := 1) (n := 1) w1 5 (cB [97]) (1, 2) rfl).alloc _
  · intro k hk
    have h01 : k = 0 ∨ k = 1 := by simp at hk; omega
    rcases h01 with rfl | rfl <;> simp [encRows, enc_lo]
  · refine Away.at (fun hx => ?_)
    have h2 := h1.at_.lt
    simp only [List.mem_cons] at hx
    rcases hx with hx | hx
    · omega
    · have := (own_in h1.own _ hx).2
      omega
  · intro r hr
    obtain rfl := List.mem_singleton.1 hr
    refine Away.at (fun hx => ?_)
    have h2 := h1.at_.lt
    simp only [List.mem_cons] at hx
    rcases hx with hx | hx
    · omega
    · have := (own_in h1.own _ hx).2
      omega
  rintro e w2 ⟨rfl, A2, c2, h2⟩
  have e2 : [1, 172, 2] ++ encRows (List.map SlB.bs [⟨some ⟨w1.heap.size, 0, none⟩, 1, [97]⟩]) = [1, 172, 2, 1, 97] := by simp [encRows, enc_lo]
  rw [e2] at h2
  clear e2
  go_wp2_with (fail)
  refine (out_any w.heap.size w [] _ A2 c2 _ h2 (by simp)).mono ?_
  rintro e w3 ⟨A3, c3, rfl, hown3, hch3⟩
  go_wp2_with (fail)
  refine (same_any _ A3 (some ⟨w3.heap.size, 0, none⟩) 5 5 c3 5 [1, 172, 2, 1, 97] [1, 172, 2, 1, 97] rfl rfl ((Rd.of_own hown3).alloc _) (Rd.new' rfl rfl rfl) (by simp)).mono ?_
  rintro e w4 ⟨rfl, hch4⟩
  have hd : decide (([1, 172, 2, 1, 97] : List UInt8) = [1, 172, 2, 1, 97]) = true := by decide
  rw [hd]
  clear hd
  go_wp2_with (fail)
  refine (sum_any _ (some ⟨w4.heap.size + 1 + 1, 0, none⟩) 2 2 [⟨some ⟨w4.heap.size, 0, none⟩, 4, [49, 50, 51, 52]⟩, ⟨some ⟨w4.heap.size + 1, 0, none⟩, 5, [53, 54, 55, 56, 57]⟩] rfl ?_ ?_ (by simp)).mono ?_
  · exact Rd.new' (by simp) rfl rfl
  · intro r hr
    simp only [List.mem_cons, List.not_mem_nil, or_false] at hr
    rcases hr with rfl | rfl
    · exact ⟨((Rd.new (size := 1) (n := 4) w4 5 (cB [49, 50, 51, 52]) (4, 5) rfl).alloc _).alloc _, by simp⟩
    · exact ⟨(Rd.new' (by simp) rfl rfl : Rd _ 1 _ _ (cB [53, 54, 55, 56, 57])).alloc _, by simp⟩
  rintro e w5 ⟨rfl, rfl⟩
  have hcrc : crc (List.map SlB.bs [⟨some ⟨w4.heap.size, 0, none⟩, 4, [49, 50, 51, 52]⟩, ⟨some ⟨w4.heap.size + 1, 0, none⟩, 5, [53, 54, 55, 56, 57]⟩]).flatten = 3421780262 := by
    show crc [49, 50, 51, 52, 53, 54, 55, 56, 57] = _
    decide +kernel
  rw [hcrc]
  clear hcrc
  go_wp2_with (fail)
  go_ret
  refine ⟨rfl, ?_⟩
  have c2 : Chg [] w w2 := h2.chg.mono (by simp)
  have c4 : Chg [] w w4 := (((c2.trans hch3 (by simp)).alloc _).trans hch4 (by simp))
  exact ((c4.alloc _).alloc _).alloc _
end Go.Proofs.Ytghabhhnhalpgaa

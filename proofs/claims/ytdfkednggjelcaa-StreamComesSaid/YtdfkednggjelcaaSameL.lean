
/-
  The laws' own small functions that are alike in many chapters: same, spoil, roomy, stands.
-/
import Derived.Test.YtdfkednggjelcaaOctW
import Derived.Lib.SlBytesConst
namespace Go.Proofs.Ytdfkednggjelcaa
open Go.RowKit

set_option maxHeartbeats 400000 in
theorem same_any (w : World) (A B : Option Addr) (n m c d : Nat) (xs ys : List UInt8) (hn : xs.length = n) (hm : ys.length = m) (hx : Rd w 1 A xs.length (cB xs)) (hy : Rd w 1 B ys.length (cB ys)) (hl : xs.length ≤ 140737488355328) :
    Calls Try.prog 41 #[.slice A n c, .slice B m d] w fun e w' => e = .returned (.bool (decide (xs = ys))) ∧ Chg [] w w' := by
  subst hn hm
  by_cases hlen : xs.length = ys.length
  · go_enter Try.func41, Try.ntmps41
    have hb : ((xs.length : Int) != (ys.length : Int)) = false := by rw [hlen]; simp
    have Hlen := Lib.hid hlen
    clear hlen
    go_wp2_with (fail)
    go_loopw [5] (fun i wr => ∃ k : Nat, k ≤ xs.length ∧ i = .int .i64 k ∧ Hid (xs.take k = ys.take k) ∧ Chg [] w wr) (fun i _ => xs.length - (intOf i).toNat)
    case atStart => exact ⟨0, Nat.zero_le _, rfl, by simp [Hid], Chg.refl _ _⟩
    case round =>
      obtain ⟨k, hk, rfl, HT, hch⟩ := hrel
      by_cases hlt : k < xs.length
      · have hlt2 : k < ys.length := by have := Hlen.out; omega
        obtain ⟨ad, u, rfl, had, hu, hc⟩ := (hx.keep0 hch).get hlt
        obtain ⟨ad2, u2, rfl, had2, hu2, hc2⟩ := (hy.keep0 hch).get hlt2
        rw [cB_get hlt] at hu
        rw [cB_get hlt2] at hu2
        have H1 : Hid (xs.take (k + 1) = xs.take k ++ [xs[k]]) := List.take_succ_eq_append_getElem hlt
        have H2 : Hid (ys.take (k + 1) = ys.take k ++ [ys[k]]) := List.take_succ_eq_append_getElem hlt2
        have H3 : Hid (xs[k]? = some xs[k]) := List.getElem?_eq_getElem hlt
        have H4 : Hid (ys[k]? = some ys[k]) := List.getElem?_eq_getElem hlt2
        generalize xs[k] = x at *
        generalize ys[k] = y at *
        obtain rfl : Value.int .u8 (x.toNat : Int) = u := by simpa using hu
        obtain rfl : Value.int .u8 (y.toNat : Int) = u2 := by simpa using hu2
        clear hu hu2 hb
        by_cases hxy : x = y
        · subst hxy
          have hb2 : ((x.toNat : Int) != (x.toNat : Int)) = false := by simp
          have hki : (k : Int) < (xs.length : Int) := by omega
          have hki2 : (k : Int) < (ys.length : Int) := by omega
          go_wp2_with (fail)
          go_quiet (fail)
          go_wp2_with (fail)
          go_roundw
          case rel => exact ⟨k + 1, by omega, by go_num, by unfold Hid; rw [H1.out, H2.out, HT.out], by first | exact hch.drewN _ | exact hch⟩
          case measure => simp [intOf]; omega
        · have hb2 : ((x.toNat : Int) != (y.toNat : Int)) = true := by
            rw [bne_iff_ne]; intro he; exact hxy (UInt8.toNat_inj.1 (by omega))
          have Hne : Hid (xs ≠ ys) := by
            intro he; have h3 := H3.out; rw [he, H4.out] at h3; simp at h3; exact hxy h3.symm
          clear hxy
          have hki : (k : Int) < (xs.length : Int) := by omega
          have hki2 : (k : Int) < (ys.length : Int) := by omega
          go_wp2_with (fail)
          go_quiet (fail)
          go_wp2_with (fail)
          go_ret
          exact ⟨by rw [decide_eq_false Hne.out]; rfl, hch.drewN _⟩
      · obtain rfl : k = xs.length := by omega
        have Hee : Hid (xs = ys) := by
          have h := HT.out
          rw [List.take_length, Hlen.out, List.take_length] at h
          exact h
        clear hb
        go_wp2_with (fail)
        go_ret
        exact ⟨by rw [decide_eq_true Hee.out]; rfl, hch⟩
  · have hb : ((xs.length : Int) != (ys.length : Int)) = true := by rw [bne_iff_ne]; omega
    go_enter Try.func41, Try.ntmps41
    have Hne : Hid (xs ≠ ys) := fun he => hlen (by rw [he])
    clear hlen
    go_wp2_with (fail)
    go_ret
    exact ⟨by rw [decide_eq_false Hne.out]; rfl, Chg.refl _ _⟩

theorem own_set {w : World} {base : Nat} {e : TypeId} {n c g : Nat} {xs : List Value} (h : w.ownsRow base e 1 (.slice (some ⟨g, 0, none⟩) n c) n xs) (k : Nat) (u : Value) :
    (w.setCell ⟨g, k, none⟩ u).ownsRow base e 1 (.slice (some ⟨g, 0, none⟩) n c) n (xs.set k u) := by
  refine ⟨by simp [h.1], ?_⟩
  rcases h.2 with ⟨h1, _⟩ | ⟨g', cap, cur, h1, h2, h3, h4, h5, h6, h7⟩
  · cases h1
  · injection h1 with h1 _ hcc
    injection h1 with h1
    injection h1 with h1
    subst h1 hcc
    refine .inr ⟨g, c, cur.setIfInBounds k u, rfl, h2, At.set_ (t := e) h3 k u, h4, h5, by simpa using h6, ?_⟩
    rw [← h7]
    simp only [Array.toList_setIfInBounds, Nat.mul_one]
    rw [List.take_set]
theorem own_prefix {w : World} {base : Nat} {e : TypeId} {n c m : Nat} {A : Option Addr} {xs : List Value} (h : w.ownsRow base e 1 (.slice A n c) n xs) (hm : m ≤ n) : w.ownsRow base e 1 (.slice A m c) m (xs.take m) := by
  refine ⟨by simp [h.1, hm], ?_⟩
  rcases h.2 with ⟨h1, h2⟩ | ⟨g, cap, cur, h1, h2, h3, h4, h5, h6, h7⟩
  · subst h2
    injection h1 with h1 _ h3
    exact .inl ⟨by rw [h1, h3, show m = 0 by omega], by omega⟩
  · injection h1 with h1 _ h8
    refine .inr ⟨g, cap, cur, by rw [h1, h8], h2, h3, by omega, h5, h6, ?_⟩
    rw [← h7]
    simp only [Nat.mul_one, List.take_take]
    rw [Nat.min_eq_left hm]

end Go.Proofs.Ytdfkednggjelcaa

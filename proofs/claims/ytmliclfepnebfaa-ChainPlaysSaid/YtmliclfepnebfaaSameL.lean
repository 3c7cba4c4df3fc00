
/-
  The laws' own small functions that are alike in many chapters: same, spoil, roomy, stands.
-/
import Derived.Test.YtmliclfepnebfaaOctW
import Derived.Lib.SlBytesConst
namespace Go.Proofs.Ytmliclfepnebfaa
open Go.RowKit

set_option maxHeartbeats 400000 in
theorem same_any (w : World) (A B : Option Addr) (n m c d : Nat) (xs ys : List UInt8) (hn : xs.length = n) (hm : ys.length = m) (hx : Rd w 1 A xs.length (cB xs)) (hy : Rd w 1 B ys.length (cB ys)) (hl : xs.length ≤ 140737488355328) :
    Calls Try.prog 17 #[.slice A n c, .slice B m d] w fun e w' => e = .returned (.bool (decide (xs = ys))) ∧ Chg [] w w' := by
  subst hn hm
  by_cases hlen : xs.length = ys.length
  · go_enter Try.func17, Try.ntmps17
    have hb : ((xs.length : Int) != (ys.length : Int)) = false := by rw [hlen]; simp
    have Hlen := Lib.hid hlen
    clear hlen
    go_wp2_with (fail)
    go_loopw [5] (fun i wr => ∃ k : Nat, k ≤ xs.length ∧ i = .int .i64 k ∧ Hid (xs.take k = ys.take k) ∧ Chg [] w wr) (fun i _ => xs.length - (intOf i).toNat)
    case atStart => exact ⟨0, Nat.zero_le _, rfl, by simp [Hid], Chg.refl _ _⟩
    case round =>
      obtain ⟨k, hk, rfl, HT, hch⟩ := hrel
      by_cases hlt : k < xs.length
      · have hlt2 : k < ys.length := by have := Hlen.out; omega
        obtain ⟨ad, u, rfl, had, hu, hc⟩ := (hx.keep0 hch).get hlt
        obtain ⟨ad2, u2, rfl, had2, hu2, hc2⟩ := (hy.keep0 hch).get hlt2
        rw [cB_get hlt] at hu
        rw [cB_get hlt2] at hu2
        have H1 : Hid (xs.take (k + 1) = xs.take k ++ [xs[k]]) := List.take_succ_eq_append_getElem hlt
        have H2 : Hid (ys.take (k + 1) = ys.take k ++ [ys[k]]) := List.take_succ_eq_append_getElem hlt2
        have H3 : Hid (xs[k]? = some xs[k]) := List.getElem?_eq_getElem hlt
        have H4 : Hid (ys[k]? = some ys[k]) := List.getElem?_eq_getElem hlt2
        generalize xs[k] = x at *
        generalize ys[k] = y at *
        obtain rfl : Value.int .u8 (x.toNat : Int) = u := by simpa using hu
        obtain rfl : Value.int .u8 (y.toNat : Int) = u2 := by simpa using hu2
        clear hu hu2 hb
        by_cases hxy : x = y
        · subst hxy
          have hb2 : ((x.toNat : Int) != (x.toNat : Int)) = false := by simp
          have hki : (k : Int) < (xs.length : Int) := by omega
          have hki2 : (k : Int) < (ys.length : Int) := by omega
          go_wp2_with (fail)
          go_quiet (fail)
          go_wp2_with (fail)
          go_roundw
          case rel => exact ⟨k + 1, by omega, by go_num, by unfold Hid; rw [H1.out, H2.out, HT.out], by first | exact hch.drewN _ | exact hch⟩
          case measure => simp [intOf]; omega
        · have hb2 : ((x.toNat : Int) != (y.toNat : Int)) = true := by
            rw [bne_iff_ne]; intro he; exact hxy (UInt8.toNat_inj.1 (by omega))
          have Hne : Hid (xs ≠ ys) := by
            intro he; have h3 := H3.out; rw [he, H4.out] at h3; simp at h3; exact hxy h3.symm
          clear hxy
          have hki : (k : Int) < (xs.length : Int) := by omega
          have hki2 : (k : Int) < (ys.length : Int) := by omega
          go_wp2_with (fail)
          go_quiet (fail)
          go_wp2_with (fail)
          go_ret
          exact ⟨by rw [decide_eq_false Hne.out]; rfl, hch.drewN _⟩
      · obtain rfl : k = xs.length := by omega
        have Hee : Hid (xs = ys) := by
          have h := HT.out
          rw [List.take_length, Hlen.out, List.take_length] at h
          exact h
        clear hb
        go_wp2_with (fail)
        go_ret
        exact ⟨by rw [decide_eq_true Hee.out]; rfl, hch⟩
  · have hb : ((xs.length : Int) != (ys.length : Int)) = true := by rw [bne_iff_ne]; omega
    go_enter Try.func17, Try.ntmps17
    have Hne : Hid (xs ≠ ys) := fun he => hlen (by rw [he])
    clear hlen
    go_wp2_with (fail)
    go_ret
    exact ⟨by rw [decide_eq_false Hne.out]; rfl, Chg.refl _ _⟩

theorem own_set {w : World} {base : Nat} {e : TypeId} {n c g : Nat} {xs : List Value} (h : w.ownsRow base e 1 (.slice (some ⟨g, 0, none⟩) n c) n xs) (k : Nat) (u : Value) :
    (w.setCell ⟨g, k, none⟩ u).ownsRow base e 1 (.slice (some ⟨g, 0, none⟩) n c) n (xs.set k u) := by
  refine ⟨by simp [h.1], ?_⟩
  rcases h.2 with ⟨h1, _⟩ | ⟨g', cap, cur, h1, h2, h3, h4, h5, h6, h7⟩
  · cases h1
  · injection h1 with h1 _ hcc
    injection h1 with h1
    injection h1 with h1
    subst h1 hcc
    refine .inr ⟨g, c, cur.setIfInBounds k u, rfl, h2, At.set_ (t := e) h3 k u, h4, h5, by simpa using h6, ?_⟩
    rw [← h7]
    simp only [Array.toList_setIfInBounds, Nat.mul_one]
    rw [List.take_set]
theorem own_prefix {w : World} {base : Nat} {e : TypeId} {n c m : Nat} {A : Option Addr} {xs : List Value} (h : w.ownsRow base e 1 (.slice A n c) n xs) (hm : m ≤ n) : w.ownsRow base e 1 (.slice A m c) m (xs.take m) := by
  refine ⟨by simp [h.1, hm], ?_⟩
  rcases h.2 with ⟨h1, h2⟩ | ⟨g, cap, cur, h1, h2, h3, h4, h5, h6, h7⟩
  · subst h2
    injection h1 with h1 _ h3
    exact .inl ⟨by rw [h1, h3, show m = 0 by omega], by omega⟩
  · injection h1 with h1 _ h8
    refine .inr ⟨g, cap, cur, by rw [h1, h8], h2, h3, by omega, h5, h6, ?_⟩
    rw [← h7]
    simp only [Nat.mul_one, List.take_take]
    rw [Nat.min_eq_left hm]

set_option maxHeartbeats 1600000 in
theorem spoil_any (w : World) (base : Nat) (A : Option Addr) (n c : Nat) (xs : List Value) (hown : w.ownsRow base 5 1 (.slice A n c) n xs) (hn : n ≤ 1099511627776) (hbase : base ≤ w.heap.size) :
    Calls Try.prog 20 #[.slice A n c] w fun e w' => e = .returned (.tuple #[]) ∧ Chg (blk A) w w' := by
  obtain ⟨i0, hi, hz0, hz1, hz2⟩ := info_parts info8
  go_enter Try.func20, Try.ntmps20
  go_wp2_with (at_builtin; refine wpList_append_rd _ rfl (.tmp 4) (.tmp 5) 26 (by rfl) base 5 i0 _ 1 1 Try.underlying26 hi hz0 hz1 hz2 rfl (by omega) (.slice A n c) n xs (by rfl) (hown.alloc _) (some ⟨w.heap.size, 0, none⟩) 1 1 [.int .u8 99] (by rfl) (Rd.of_at (At.new _ _ _) rfl) (by simp [Value.oneCell']) (by unfold maxLen; omega) (by omega) (by simp; omega) ?_; intro A3 c3 w3 hown3 hg3 hb3)
  have hch : Chg (blk A) w w3 := ((Chg.refl _ w).alloc _).grown hg3 (fun k hk => .inl (by rw [← own_blk A n c, hk]; simp))
  have hA3 : ∀ k, k ∈ blk A3 → k ∈ blk A ∨ w.heap.size ≤ k := by
    intro k hk
    rcases hb3 with hb | hb
    · rw [hb, own_blk] at hk; exact .inl hk
    · rw [hb] at hk; simp at hk; exact .inr (by omega)
  have HA3 := Lib.hid hA3
  clear hown hg3 hb3 hA3
  have hn1 : n + 1 ≤ 1099511627777 := by omega
  obtain ⟨g, rfl, hg0, hg1, _, _⟩ := own_cells hown3 (by omega)
  go_loopw [3] (fun i wr => ∃ (k : Nat) (ys : List Value), k ≤ n + 1 ∧ i = .int .i64 k ∧ wr.ownsRow base 5 1 (.slice (some ⟨g, 0, none⟩) (n + 1) c3) (n + 1) ys ∧ Chg (blk A) w wr) (fun i _ => n + 1 - (intOf i).toNat)
  case atStart => exact ⟨0, _, by omega, rfl, hown3, hch⟩
  case round =>
    obtain ⟨k, ys, hk, rfl, hown4, hch4⟩ := hrel
    by_cases hlt : k < n + 1
    · obtain ⟨g', hg', _, _, hcell, hfree⟩ := own_cells hown4 (by omega)
      have hgg : g' = g := (congrArg (fun o : Option Addr => o.elim 0 Addr.block) hg').symm
      subst hgg
      have hyl := hown4.1
      have hce := hcell k _ (List.getElem?_eq_getElem (by omega))
      have hfr := hfree k
      have hlt' : (k : Int) < (n : Int) + 1 := by omega
      clear hcell hfree hg'
      generalize ys[k] = y0 at *
      go_wp2_with (fail)
      go_roundw
      case rel =>
        refine ⟨k + 1, ys.set k (.int .u8 98), by omega, by go_num, own_set hown4 k _, hch4.setCell ?_ _⟩
        have := HA3.out g' (by simp [blk])
        exact this
      case measure => simp [intOf]; omega
    · have hge : ¬ ((k : Int) < (n : Int) + 1) := by omega
      go_wp2_with (fail)
      go_end0
      exact ⟨rfl, hch4⟩

set_option maxHeartbeats 1600000 in
theorem roomy_any (w : World) (A : Option Addr) (n c : Nat) (bs : List UInt8) (hn : bs.length = n) (hr : Rd w 1 A bs.length (cB bs)) (hl : bs.length ≤ 1099511627776) :
    Calls Try.prog 14 #[.slice A n c] w fun e w' => ∃ A' c', e = .returned (.slice A' (n + 1) c') ∧ w'.ownsRow w.heap.size 5 1 (.slice A' (n + 1) c') (n + 1) (cB (bs ++ [171])) ∧ Chg [] w w' := by
  subst hn
  obtain ⟨i0, hi, hz0, hz1, hz2⟩ := info_parts info8
  go_enter Try.func14, Try.ntmps14
  go_wp2_with (first
    | (at_builtin
       refine wpList_append_rd _ rfl (.tmp 3) (.tmp 4) 26 (by rfl) w.heap.size 5 i0 _ 1 1 Try.underlying26 hi hz0 hz1 hz2 rfl (by omega) (.slice (some ⟨w.heap.size, 0, none⟩) 0 0) 0 [] (by rfl) (World.ownsRow_made w #[] 0 (Nat.le_refl _) (by simp [maxLen]) rfl) A bs.length c (cB bs) (by rfl) (hr.alloc _) (cB_one _) (by unfold maxLen; omega) (by omega) (by simp) ?_
       intro A3 c3 w3 hown3 hg3 hb3
       simp only [Nat.zero_add, List.nil_append] at hown3
       have hch3 : Chg [] w w3 := ((Chg.refl [] w).alloc _).grown hg3 (fun k hk => .inr (by simp [Value.ownBlock] at hk; omega))
       have hsz3 := hch3.size)
    | (at_builtin
       refine wpList_append_rd _ rfl (.tmp 5) (.tmp 6) 26 (by rfl) w.heap.size 5 i0 _ 1 1 Try.underlying26 hi hz0 hz1 hz2 rfl (by omega) (.slice A3 bs.length c3) bs.length _ (by rfl) (hown3.alloc _) (some ⟨w3.heap.size, 0, none⟩) 1 1 [.int .u8 171] (by rfl) (Rd.of_at (At.new _ _ _) rfl) (by simp [Value.oneCell']) (by unfold maxLen; omega) (by omega) (by simp; omega) ?_
       intro A4 c4 w4 hown4 hg4 hb4
       have hch4 : Chg [] w w4 := (hch3.alloc _).grown hg4 (fun k hk => .inr (hown3.lt k hk).1)
       have hsz4 := hch4.size)
    | (at_builtin
       refine wpList_append_rd _ rfl (.tmp 7) (.tmp 8) 26 (by rfl) w.heap.size 5 i0 _ 1 1 Try.underlying26 hi hz0 hz1 hz2 rfl (by omega) (.slice A4 (bs.length + 1) c4) (bs.length + 1) _ (by rfl) (hown4.alloc _) (some ⟨w4.heap.size, 0, none⟩) 1 1 [.int .u8 171] (by rfl) (Rd.of_at (At.new _ _ _) rfl) (by simp [Value.oneCell']) (by unfold maxLen; omega) (by omega) (by simp; omega) ?_
       intro A5 c5 w5 hown5 hg5 hb5
       have hch5 : Chg [] w w5 := (hch4.alloc _).grown hg5 (fun k hk => .inr (hown4.lt k hk).1)
       have hcap5 := own_cap hown5
       have hsl := fun w => run_slice_hi (P := Try.prog) w Try.underlying26 hi A5 (bs.length + 1 + 1) c5 ((bs.length : Int) + 1) (bs.length + 1) (by omega) (by omega)))
  go_ret
  have hp := own_prefix hown5 (m := bs.length + 1) (by omega)
  refine ⟨A5, c5, rfl, ?_, hch5⟩
  have e : (cB bs ++ [.int .u8 171] ++ [.int .u8 171] : List Value).take (bs.length + 1) = cB (bs ++ [171]) := by
    rw [cB_app, List.take_append_of_le_length (by simp [cB_len]), List.take_of_length_le (by simp [cB_len])]
    rfl
  rw [e] at hp
  exact hp

end Go.Proofs.Ytmliclfepnebfaa

/-
  The laws' own small functions, more: spoil, roomy, stands, heavyRows.
-/
import Derived.Test.YtghabhhnhalpgaaLawO
namespace Go.Proofs.Ytghabhhnhalpgaa
open Go.RowKit

theorem own_set {w : World} {base : Nat} {e : TypeId} {n c g : Nat} {xs : List Value} (h : w.ownsRow base e 1 (.slice (some ⟨g, 0, none⟩) n c) n xs) (k : Nat) (u : Value) :
    (w.setCell ⟨g, k, none⟩ u).ownsRow base e 1 (.slice (some ⟨g, 0, none⟩) n c) n (xs.set k u) := by
  refine ⟨by simp [h.1], ?_⟩
  rcases h.2 with ⟨h1, _⟩ | ⟨g', cap, cur, h1, h2, h3, h4, h5, h6, h7⟩
  · cases h1
  · injection h1 with h1 _ hcc
    injection h1 with h1
    injection h1 with h1
    subst h1 hcc
    refine .inr ⟨g, c, cur.setIfInBounds k u, rfl, h2, At.set_ (t := e) h3 k u, h4, h5, by simpa using h6, ?_⟩
    rw [← h7]
    simp only [Array.toList_setIfInBounds, Nat.mul_one]
    rw [List.take_set]
theorem own_prefix {w : World} {base : Nat} {e : TypeId} {n c m : Nat} {A : Option Addr} {xs : List Value} (h : w.ownsRow base e 1 (.slice A n c) n xs) (hm : m ≤ n) : w.ownsRow base e 1 (.slice A m c) m (xs.take m) := by
  refine ⟨by simp [h.1, hm], ?_⟩
  rcases h.2 with ⟨h1, h2⟩ | ⟨g, cap, cur, h1, h2, h3, h4, h5, h6, h7⟩
  · subst h2
    injection h1 with h1 _ h3
    exact .inl ⟨by rw [h1, h3, show m = 0 by omega], by omega⟩
  · injection h1 with h1 _ h8
    refine .inr ⟨g, cap, cur, by rw [h1, h8], h2, h3, by omega, h5, h6, ?_⟩
    rw [← h7]
    simp only [Nat.mul_one, List.take_take]
    rw [Nat.min_eq_left hm]

set_option maxHeartbeats 1600000 in
theorem spoil_any (w : World) (base : Nat) (A : Option Addr) (n c : Nat) (xs : List Value) (hown : w.ownsRow base 5 1 (.slice A n c) n xs) (hn : n ≤ 1099511627776) (hbase : base ≤ w.heap.size) :
    Calls Try.prog 17 #[.slice A n c] w fun e w' => e = .returned (.tuple #[]) ∧ Chg (blk A) w w' := by
  obtain ⟨i0, hi, hz0, hz1, hz2⟩ := info_parts info8
  go_enter Try.func17, Try.ntmps17
  go_wp2_with (at_builtin; refine wpList_append_rd _ rfl (.tmp 4) (.tmp 5) 23 (by rfl) base 5 i0 _ 1 1 Try.underlying23 hi hz0 hz1 hz2 rfl (by omega) (.slice A n c) n xs (by rfl) (hown.alloc _) (some ⟨w.heap.size, 0, none⟩) 1 1 [.int .u8 99] (by rfl) (Rd.of_at (At.new _ _ _) rfl) (by simp [Value.oneCell']) (by unfold maxLen; omega) (by omega) (by simp; omega) ?_; intro A3 c3 w3 hown3 hg3 hb3)
  have hch : Chg (blk A) w w3 := ((Chg.refl _ w).alloc _).grown hg3 (fun k hk => .inl (by rw [← own_blk A n c, hk]; simp))
  have hA3 : ∀ k, k ∈ blk A3 → k ∈ blk A ∨ w.heap.size ≤ k := by
    intro k hk
    rcases hb3 with hb | hb
    · rw [hb, own_blk] at hk; exact .inl hk
    · rw [hb] at hk; simp at hk; exact .inr (by omega)
  have HA3 := Lib.hid hA3
  clear hown hg3 hb3 hA3
  have hn1 : n + 1 ≤ 1099511627777 := by omega
  obtain ⟨g, rfl, hg0, hg1, _, _⟩ := own_cells hown3 (by omega)
  go_loopw [3] (fun i wr => ∃ (k : Nat) (ys : List Value), k ≤ n + 1 ∧ i = .int .i64 k ∧ wr.ownsRow base 5 1 (.slice (some ⟨g, 0, none⟩) (n + 1) c3) (n + 1) ys ∧ Chg (blk A) w wr) (fun i _ => n + 1 - (intOf i).toNat)
  case atStart => exact ⟨0, _, by omega, rfl, hown3, hch⟩
  case round =>
    obtain ⟨k, ys, hk, rfl, hown4, hch4⟩ := hrel
    by_cases hlt : k < n + 1
    · obtain ⟨g', hg', _, _, hcell, hfree⟩ := own_cells hown4 (by omega)
      have hgg : g' = g := by injection hg' with h1; injection h1 with h1; exact h1.symm
      subst hgg
      have hyl := hown4.1
      have hce := hcell k _ (List.getElem?_eq_getElem (by omega))
      have hfr := hfree k
      have hlt' : (k : Int) < (n : Int) + 1 := by omega
      clear hcell hfree hg'
      generalize ys[k] = y0 at *
      go_wp2_with (fail)
      go_roundw
      case rel =>
        refine ⟨k + 1, ys.set k (.int .u8 98), by omega, by go_num, own_set hown4 k _, hch4.setCell ?_ _⟩
        have := HA3.out g' (by simp [blk])
        exact this
      case measure => simp [intOf]; omega
    · have hge : ¬ ((k : Int) < (n : Int) + 1) := by omega
      go_wp2_with (fail)
      go_end0
      exact ⟨rfl, hch4⟩

set_option maxHeartbeats 1600000 in
theorem roomy_any (w : World) (A : Option Addr) (n c : Nat) (bs : List UInt8) (hn : bs.length = n) (hr : Rd w 1 A bs.length (cB bs)) (hl : bs.length ≤ 1099511627776) :
    Calls Try.prog 25 #[.slice A n c] w fun e w' => ∃ A' c', e = .returned (.slice A' (n + 1) c') ∧ w'.ownsRow w.heap.size 5 1 (.slice A' (n + 1) c') (n + 1) (cB (bs ++ [171])) ∧ Chg [] w w' := by
  subst hn
  obtain ⟨i0, hi, hz0, hz1, hz2⟩ := info_parts info8
  go_enter Try.func25, Try.ntmps25
  go_wp2_with (first
    | (at_builtin
       refine wpList_append_rd _ rfl (.tmp 3) (.tmp 4) 23 (by rfl) w.heap.size 5 i0 _ 1 1 Try.underlying23 hi hz0 hz1 hz2 rfl (by omega) (.slice (some ⟨w.heap.size, 0, none⟩) 0 0) 0 [] (by rfl) (World.ownsRow_made w #[] 0 (Nat.le_refl _) (by simp [maxLen]) rfl) A bs.length c (cB bs) (by rfl) (hr.alloc _) (cB_one _) (by unfold maxLen; omega) (by omega) (by simp) ?_
       intro A3 c3 w3 hown3 hg3 hb3
       simp only [Nat.zero_add, List.nil_append] at hown3
       have hch3 : Chg [] w w3 := ((Chg.refl [] w).alloc _).grown hg3 (fun k hk => .inr (by simp [Value.ownBlock] at hk; omega))
       have hsz3 := hch3.size)
    | (at_builtin
       refine wpList_append_rd _ rfl (.tmp 5) (.tmp 6) 23 (by rfl) w.heap.size 5 i0 _ 1 1 Try.underlying23 hi hz0 hz1 hz2 rfl (by omega) (.slice A3 bs.length c3) bs.length _ (by rfl) (hown3.alloc _) (some ⟨w3.heap.size, 0, none⟩) 1 1 [.int .u8 171] (by rfl) (Rd.of_at (At.new _ _ _) rfl) (by simp [Value.oneCell']) (by unfold maxLen; omega) (by omega) (by simp; omega) ?_
       intro A4 c4 w4 hown4 hg4 hb4
       have hch4 : Chg [] w w4 := (hch3.alloc _).grown hg4 (fun k hk => .inr (hown3.lt k hk).1)
       have hsz4 := hch4.size)
    | (at_builtin
       refine wpList_append_rd _ rfl (.tmp 7) (.tmp 8) 23 (by rfl) w.heap.size 5 i0 _ 1 1 Try.underlying23 hi hz0 hz1 hz2 rfl (by omega) (.slice A4 (bs.length + 1) c4) (bs.length + 1) _ (by rfl) (hown4.alloc _) (some ⟨w4.heap.size, 0, none⟩) 1 1 [.int .u8 171] (by rfl) (Rd.of_at (At.new _ _ _) rfl) (by simp [Value.oneCell']) (by unfold maxLen; omega) (by omega) (by simp; omega) ?_
       intro A5 c5 w5 hown5 hg5 hb5
       have hch5 : Chg [] w w5 := (hch4.alloc _).grown hg5 (fun k hk => .inr (hown4.lt k hk).1)
       have hcap5 := own_cap hown5
       have hsl := fun w => run_slice_hi (P := Try.prog) w Try.underlying23 hi A5 (bs.length + 1 + 1) c5 ((bs.length : Int) + 1) (bs.length + 1) (by omega) (by omega)))
  go_ret
  have hp := own_prefix hown5 (m := bs.length + 1) (by omega)
  refine ⟨A5, c5, rfl, ?_, hch5⟩
  have e : (cB bs ++ [.int .u8 171] ++ [.int .u8 171] : List Value).take (bs.length + 1) = cB (bs ++ [171]) := by
    rw [cB_app, List.take_append_of_le_length (by simp [cB_len]), List.take_of_length_le (by simp [cB_len])]
    rfl
  rw [e] at hp
  exact hp

/-- What 'stands' is told where bytes are what they were. -/
theorem stands_any (w : World) (A B : Option Addr) (n m c d : Nat) (ys : List UInt8) (hn : ys.length + 1 = n) (hm : ys.length = m) (hx : Rd w 1 A n (cB (ys ++ [171]))) (hy : Rd w 1 B m (cB ys)) (hc : n ≤ c) (hl : ys.length ≤ 1099511627776) :
    Calls Try.prog 27 #[.slice A n c, .slice B m d] w fun e w' => e = .returned (.bool true) ∧ Chg [] w w' := by
  subst hn hm
  obtain ⟨i0, hi, hz0, hz1, hz2⟩ := info_parts info8
  have hsl := fun w => run_slice_hi (P := Try.prog) w Try.underlying23 hi A (ys.length + 1) c (ys.length : Int) ys.length rfl (by omega)
  have hxp : Rd w 1 A ys.length (cB ys) := by
    have h := hx.take (k := ys.length) (by omega)
    have e : (cB (ys ++ [171])).take (ys.length * 1) = cB ys := by
      rw [cB_app, List.take_append_of_le_length (by simp [cB_len]), List.take_of_length_le (by simp [cB_len])]
    rw [e] at h
    exact h
  obtain ⟨ad, u, rfl, had, hu, hcell⟩ := hx.get (k := ys.length) (by omega)
  have hu2 : (cB (ys ++ [171]))[ys.length]? = some (.int .u8 171) := by rw [cB_app]; simp [cB]
  obtain rfl : Value.int .u8 171 = u := by rw [hu2] at hu; simpa using hu
  have Hcell := Lib.hid hcell
  clear hu hu2 hcell
  go_enter Try.func27, Try.ntmps27
  go_wp2_with (fail)
  refine (same_any _ (some ad) B ys.length ys.length c d ys ys rfl rfl hxp hy (by omega)).mono ?_
  rintro e w2 ⟨rfl, hch⟩
  have hcl := (hch.cell (p := ad.add ys.length) (by rw [add_block]; exact had) (by simp)).trans Hcell.out
  have hd : decide (ys = ys) = true := by simp
  rw [hd]
  clear hd
  go_wp2_with (fail)
  go_ret
  exact ⟨rfl, hch⟩

/-- 'heavyRows' is told: where it says no, rows are no more than is looked at. -/
def HeavyPost (ls : List SlB) (w : World) (e : Ending) (w' : World) : Prop := ∃ hv : Bool, e = .returned (.bool hv) ∧ (hv = false → 3 * ls.length + (ls.map fun r => r.bs.length).sum ≤ 4000) ∧ w = w'

set_option maxHeartbeats 1600000 in
theorem heavyRows_any (w : World) (A : Option Addr) (n c : Nat) (ls : List SlB) (hn : ls.length = n) (hr : Rd w 1 A ls.length (cR ls)) (hls : ls.length ≤ 9223372036854775807) (hbs : ∀ r ∈ ls, r.bs.length ≤ 9223372036854775807) :
    Calls Try.prog 21 #[.slice A n c] w (HeavyPost ls w) := by
  subst hn
  have HB := Lib.hid hbs
  clear hbs
  go_enter Try.func21, Try.ntmps21
  go_wp2_with (fail)
  go_loop [4, 3] (fun i m => ∃ k x : Nat, k ≤ ls.length ∧ i = .int .i64 k ∧ m = .int .i64 x ∧ x ≤ 4000 ∧ Hid (x = 3 * k + ((ls.take k).map fun r => r.bs.length).sum)) (fun i _ => ls.length - (intOf i).toNat)
  case atStart => exact ⟨0, 0, Nat.zero_le _, rfl, rfl, by omega, by simp [Hid]⟩
  case round =>
    obtain ⟨k, x, hk, rfl, rfl, hx, HX⟩ := hrel
    by_cases hlt : k < ls.length
    · obtain ⟨ad, u, rfl, had, hu, hc⟩ := hr.get hlt
      rw [cR_get hlt] at hu
      have hrb := HB.out _ (List.getElem_mem hlt)
      have HT : Hid (((ls.take (k + 1)).map fun r => r.bs.length).sum = ((ls.take k).map fun r => r.bs.length).sum + ls[k].bs.length) := by
        unfold Hid; rw [List.take_succ_eq_append_getElem hlt, List.map_append, List.sum_append]; simp
      generalize ls[k] = r at *
      obtain rfl : Value.slice r.A r.bs.length r.c = u := by simpa using hu
      clear hu
      obtain ⟨rA, rc, bs⟩ := r
      simp only at hc HT hrb
      by_cases h4 : 4000 < bs.length
      · go_wp2_with (fail)
        go_ret
        exact ⟨true, rfl, by simp, rfl⟩
      · by_cases h5 : 4000 < x + 3 + bs.length
        · go_wp2_with (fail)
          go_ret
          exact ⟨true, rfl, by simp, rfl⟩
        · go_wp2_with (fail)
          go_round
          case rel => exact ⟨k + 1, x + 3 + bs.length, by omega, by go_num, by go_num, by omega, by unfold Hid; rw [HT.out, HX.out]; omega⟩
          case measure => simp [intOf]; omega
    · obtain rfl : k = ls.length := by omega
      go_wp2_with (fail)
      go_ret
      refine ⟨false, rfl, fun _ => ?_, rfl⟩
      have h := HX.out
      rw [List.take_length] at h
      omega
end Go.Proofs.Ytghabhhnhalpgaa

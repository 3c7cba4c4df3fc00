
import Derived.Test.YtmliclfepnebfaaRows
import Derived.Test.YtmliclfepnebfaaBase
import Derived.Test.YtmliclfepnebfaaOct
namespace Go.Proofs.Ytmliclfepnebfaa
open Go.RowKit
attribute [local go_sem ↓] run_min2 run_max2
theorem info8 : (Try.prog.info? 5).map (fun i => (i.zero, i.size, i.bytes)) = some (some (.int .u8 0), 1, 1) := by kernel_rfl

theorem or128 (x : Nat) : bits .or .u8 ((x : Int) % 256) 128 = ((UInt8.ofNat (x % 128 + 128)).toNat : Int) := by
  rw [toNat_ofNat (by omega), show ((x : Int) % 256) = ((x % 256 : Nat) : Int) by omega, show (128 : Int) = ((128 : Nat) : Int) by rfl, u8_or_nat _ _ (by omega) (by omega)]
  have h : x % 256 ||| 128 = x % 128 + 128 := by
    have h1 : x % 256 = (x / 128 % 2) * 2 ^ 7 + x % 128 := by omega
    have h2 : (x / 128 % 2) = 0 ∨ (x / 128 % 2) = 1 := by omega
    have h3 : x % 128 < 2 ^ 7 := by omega
    rcases h2 with h2 | h2
    · rw [h1, h2, Nat.or_comm, show (128 : Nat) = 2 ^ 7 * 1 by rfl, Nat.zero_mul, Nat.zero_add, ← Nat.two_pow_add_eq_or_of_lt h3]; omega
    · rw [h1, h2, Nat.or_comm, show (128 : Nat) = 2 ^ 7 * 1 by rfl, show 1 * 2 ^ 7 + x % 128 = 2 ^ 7 * 1 + x % 128 by omega, Nat.two_pow_add_eq_or_of_lt h3, ← Nat.or_assoc, Nat.or_self, ← Nat.two_pow_add_eq_or_of_lt h3]; omega
  rw [h]
theorem clampI (n : Int) : max 0 (min n 4611686018427387904) = (clamp n : Int) := by unfold clamp; omega

set_option maxHeartbeats 400000 in
theorem clone_any (w : World) (A : Option Addr) (n c : Nat) (ps : List UInt8) (hn : ps.length = n) (hr : Rd w 1 A ps.length (cB ps)) (hlen : ps.length ≤ 1099511627776) :
    Calls Try.prog 50 #[.slice A n c] w fun e w' => ∃ A' c', e = .returned (.slice A' n c') ∧ w'.ownsRow w.heap.size 5 1 (.slice A' n c') n (cB ps) ∧ Chg [] w w' := by
  subst hn
  obtain ⟨i0, hi, hz0, hz1, hz2⟩ := info_parts info8
  rcases A with _ | ad
  · have hz : ps.length = 0 := by
      rcases Nat.eq_zero_or_pos ps.length with h | h
      · exact h
      · obtain ⟨_, h, _⟩ := hr.at_ h
        cases h
    have hz' : ps = [] := List.eq_nil_of_length_eq_zero hz
    subst hz'
    have heq := fun w => Lib.run_eql_slice_nil (P := Try.prog) w 26 5 none 0 c 0 0 Try.underlying26
    simp only [List.length_nil, Option.isNone_none] at heq ⊢
    go_enter Try.func50, Try.ntmps50
    go_wp2_with (fail)
    go_ret
    exact ⟨_, _, rfl, World.ownsRow_nil _ _ _ _, Chg.refl _ _⟩
  · have heq := fun w => Lib.run_eql_slice_nil (P := Try.prog) w 26 5 (some ad) ps.length c 0 0 Try.underlying26
    simp only [Option.isNone_some] at heq
    go_enter Try.func50, Try.ntmps50
    go_wp2_with (at_builtin; refine wpList_append_rd _ rfl (.tmp 5) (.tmp 6) 26 (by rfl) w.heap.size 5 i0 _ 1 1 Try.underlying26 hi hz0 hz1 hz2 rfl (by omega) (.slice (some ⟨w.heap.size, 0, none⟩) 0 0) 0 [] (by rfl) (World.ownsRow_made w #[] 0 (Nat.le_refl _) (by simp [maxLen]) rfl) (some ad) ps.length c (cB ps) (by rfl) (hr.alloc _) (cB_one _) (by unfold maxLen; omega) (by omega) (by simp) ?_; intro A3 c3 w3 hown3 hg3 hb3)
    go_ret
    refine ⟨A3, c3, by simp, by simpa using hown3, ((Chg.refl [] w).alloc _).grown hg3 (fun k hk => .inr ?_)⟩
    have : k = w.heap.size := by simpa [Value.ownBlock] using hk.symm
    omega

/-- Rows as bytes, each with its length. -/
def encRows (l : List (List UInt8)) : List UInt8 := (l.map fun r => enc r.length ++ r).flatten
theorem encRows_snoc (l : List (List UInt8)) (r : List UInt8) : encRows (l ++ [r]) = encRows l ++ (enc r.length ++ r) := by simp [encRows]
def rowsLen (l : List (List UInt8)) : Nat := (l.map List.length).sum

end Go.Proofs.Ytmliclfepnebfaa

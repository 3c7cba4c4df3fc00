/-
  PLAIN: numbers as bytes (chapter 1), no program in sight: 'enc' (a number's bytes), 'dec' (a number off the front of bytes), their laws.
-/
import Derived.Laws.BitsAllLaws
import Derived.Laws.BitsLemmas
namespace Go.Proofs.Ytmliclfepnebfaa

/-- A number's bytes: seven bits a byte, the lowest first; all but the last have 128 added. -/
def enc (u : Nat) : List UInt8 := if u < 128 then [UInt8.ofNat u] else UInt8.ofNat (u % 128 + 128) :: enc (u / 128)
  termination_by u
  decreasing_by omega

def encs (l : List Nat) : List UInt8 := (l.map enc).flatten

/-- The number that is laid for an int. -/
def clamp (n : Int) : Nat := (max 0 (min n 4611686018427387904)).toNat

theorem enc_lo {u : Nat} (h : u < 128) : enc u = [UInt8.ofNat u] := by rw [enc, if_pos h]
theorem enc_hi {u : Nat} (h : 128 ≤ u) : enc u = UInt8.ofNat (u % 128 + 128) :: enc (u / 128) := by rw [enc, if_neg (by omega)]
theorem enc_pos (u : Nat) : 0 < (enc u).length := by rw [enc]; split <;> simp
theorem clamp_le (n : Int) : clamp n ≤ 4611686018427387904 := by unfold clamp; omega
theorem clamp_of {n : Int} (h0 : 0 ≤ n) (h : n ≤ 4611686018427387904) : (clamp n : Int) = n := by unfold clamp; omega

theorem enc_len (k : Nat) : ∀ u, u < 128 ^ (k + 1) → (enc u).length ≤ k + 1 := by
  induction k with
  | zero => intro u h; rw [enc_lo (by simpa using h)]; simp
  | succ k ih =>
    intro u h
    by_cases h1 : u < 128
    · rw [enc_lo h1]; simp
    · rw [enc_hi (by omega)]
      have : u / 128 < 128 ^ (k + 1) := by rw [Nat.div_lt_iff_lt_mul (by omega)]; rw [Nat.pow_succ] at h; exact h
      have := ih _ this
      simp only [List.length_cons]; omega
theorem enc_len9 {u : Nat} (h : u ≤ 4611686018427387904) : (enc u).length ≤ 9 := by
  have h9 : (128 : Nat) ^ (8 + 1) = 9223372036854775808 := by decide
  exact enc_len 8 u (by rw [h9]; omega)

/-- A number off the front: 'i' bytes were taken, they come to 'u'. -/
def decGo : List UInt8 → Nat → Nat → Option (Nat × List UInt8)
  | [], _, _ => none
  | c :: r, i, u =>
    if 9 ≤ i ∨ (0 < i ∧ c = 0) then none
    else if c.toNat < 128 then (if 4611686018427387904 < u + c.toNat * 128 ^ i then none else some (u + c.toNat * 128 ^ i, r))
    else decGo r (i + 1) (u + (c.toNat - 128) * 128 ^ i)
def dec (l : List UInt8) : Option (Nat × List UInt8) := decGo l 0 0

theorem toNat_ofNat {n : Nat} (h : n < 256) : (UInt8.ofNat n).toNat = n := by rw [UInt8.toNat_ofNat']; exact Nat.mod_eq_of_lt h

theorem decGo_enc (k : Nat) : ∀ (n i u : Nat) (r : List UInt8), n ≤ k → i + (enc n).length ≤ 9 → (0 < i → 0 < n) → u + n * 128 ^ i ≤ 4611686018427387904 →
    decGo (enc n ++ r) i u = some (u + n * 128 ^ i, r) := by
  induction k with
  | zero =>
    intro n i u r hn hi h0 hu
    obtain rfl : n = 0 := by omega
    have hi0 : i = 0 := by
      rcases Nat.eq_zero_or_pos i with h | h
      · exact h
      · exact absurd (h0 h) (by omega)
    subst hi0
    rw [enc_lo (by omega)]
    simp only [List.singleton_append, decGo, toNat_ofNat (show 0 < 256 by omega)]
    rw [if_neg (by omega), if_pos (by omega), if_neg (by omega)]
  | succ k ih =>
    intro n i u r hn hi h0 hu
    by_cases h : n < 128
    · rw [enc_lo h]
      rw [enc_lo h] at hi
      simp only [List.length_singleton] at hi
      simp only [List.singleton_append, decGo, toNat_ofNat (show n < 256 by omega)]
      have hne : ¬ (9 ≤ i ∨ 0 < i ∧ UInt8.ofNat n = 0) := by
        rintro (h9 | ⟨hp, hz⟩)
        · omega
        · have := congrArg UInt8.toNat hz
          rw [toNat_ofNat (by omega)] at this
          have := h0 hp
          simp at *
          omega
      rw [if_neg hne, if_pos h, if_neg (by omega)]
    · rw [enc_hi (by omega)]
      rw [enc_hi (by omega)] at hi
      simp only [List.length_cons] at hi
      have hpos := enc_pos (n / 128)
      have hc : (UInt8.ofNat (n % 128 + 128)).toNat = n % 128 + 128 := toNat_ofNat (by omega)
      simp only [List.cons_append, decGo, hc]
      have hne : ¬ (9 ≤ i ∨ 0 < i ∧ UInt8.ofNat (n % 128 + 128) = 0) := by
        rintro (h9 | ⟨hp, hz⟩)
        · omega
        · have := congrArg UInt8.toNat hz
          rw [hc] at this
          simp at this
      rw [if_neg hne, if_neg (by omega)]
      have e : u + (n % 128 + 128 - 128) * 128 ^ i + n / 128 * 128 ^ (i + 1) = u + n * 128 ^ i := by
        have h1 : n * 128 ^ i = (n % 128) * 128 ^ i + (n / 128) * 128 ^ (i + 1) := by
          rw [Nat.pow_succ, Nat.mul_comm (128 ^ i) 128, ← Nat.mul_assoc, ← Nat.add_mul]
          congr 1
          omega
        rw [Nat.add_sub_cancel, h1]
        omega
      rw [ih (n / 128) (i + 1) (u + (n % 128 + 128 - 128) * 128 ^ i) r (by omega) (by omega) (by intro _; omega) (by rw [e]; exact hu), e]

theorem dec_enc {n : Nat} (h : n ≤ 4611686018427387904) (r : List UInt8) : dec (enc n ++ r) = some (n, r) := by
  have := decGo_enc n n 0 0 r (Nat.le_refl _) (by have := enc_len9 h; omega) (by intro h; omega) (by omega)
  simpa [dec] using this

/-- What is taken is what is laid: the bytes of a number are the only ones. -/
theorem decGo_some : ∀ (l : List UInt8) (i u n : Nat) (r : List UInt8), decGo l i u = some (n, r) →
    ∃ m, l = enc m ++ r ∧ n = u + m * 128 ^ i ∧ n ≤ 4611686018427387904 ∧ (0 < i → 0 < m) := by
  intro l
  induction l with
  | nil => intro i u n r h; simp [decGo] at h
  | cons c l ih =>
    intro i u n r h
    simp only [decGo] at h
    split at h
    · cases h
    · rename_i hne
      split at h
      · rename_i hlo
        split at h
        · cases h
        · rename_i hle
          obtain ⟨rfl, rfl⟩ : u + c.toNat * 128 ^ i = n ∧ l = r := by simpa using h
          refine ⟨c.toNat, ?_, rfl, by omega, ?_⟩
          · rw [enc_lo hlo]; simp
          · intro hi
            rcases Nat.eq_zero_or_pos c.toNat with hz | hp
            · exact absurd (.inr ⟨hi, UInt8.toNat_inj.1 (by simpa using hz)⟩) hne
            · exact hp
      · rename_i hlo
        obtain ⟨m, rfl, rfl, hle, hm⟩ := ih _ _ _ _ h
        have hm1 := hm (by omega)
        have hcl := c.toNat_lt
        refine ⟨(c.toNat - 128) + 128 * m, ?_, ?_, hle, fun _ => by omega⟩
        · rw [enc_hi (u := c.toNat - 128 + 128 * m) (by omega)]
          have e1 : (c.toNat - 128 + 128 * m) % 128 + 128 = c.toNat := by omega
          have e2 : (c.toNat - 128 + 128 * m) / 128 = m := by omega
          rw [e1, e2]; simp
        · rw [Nat.add_mul, Nat.pow_succ, Nat.mul_comm (128 ^ i) 128, ← Nat.mul_assoc, Nat.mul_comm m 128]
          omega
theorem dec_some {l : List UInt8} {n : Nat} {r : List UInt8} (h : dec l = some (n, r)) : l = enc n ++ r ∧ n ≤ 4611686018427387904 := by
  obtain ⟨m, h1, h2, h3, _⟩ := decGo_some l 0 0 n r h
  have : n = m := by simpa using h2
  subst this
  exact ⟨h1, h3⟩
theorem dec_len {l : List UInt8} {n : Nat} {r : List UInt8} (h : dec l = some (n, r)) : r.length < l.length := by
  obtain ⟨h1, _⟩ := dec_some h
  have := enc_pos n
  have := congrArg List.length h1
  simp at this
  omega
/-- How many bytes a number has that may be none. -/
def more (x : Nat) : Nat := if x = 0 then 0 else (enc x).length
theorem more_zero : more 0 = 0 := rfl
theorem more_step {x : Nat} (h : 0 < x) : more x = 1 + more (x / 128) := by
  unfold more
  rw [if_neg (by omega)]
  by_cases h1 : x < 128
  · rw [enc_lo h1, if_pos (by omega)]; rfl
  · rw [enc_hi (by omega), if_neg (by omega)]; simp; omega
theorem enc_more (x : Nat) : (enc x).length = 1 + more (x / 128) := by
  by_cases h : x = 0
  · subst h; rw [enc_lo (by omega)]; rfl
  · have := more_step (x := x) (by omega)
    unfold more at this
    rw [if_neg h] at this
    exact this
theorem enc_first (x : Nat) : ∃ c r, enc x = c :: r ∧ (c.toNat < 128 ↔ x < 128) := by
  by_cases h : x < 128
  · exact ⟨_, _, enc_lo h, by rw [toNat_ofNat (by omega)]⟩
  · exact ⟨_, _, enc_hi (by omega), by rw [toNat_ofNat (by omega)]; omega⟩
theorem enc_last (k : Nat) : ∀ x, x ≤ k → 0 < x → ∃ c, (enc x)[(enc x).length - 1]? = some c ∧ c ≠ 0 := by
  induction k with
  | zero => intro x h h0; omega
  | succ k ih =>
    intro x h h0
    by_cases h1 : x < 128
    · rw [enc_lo h1]
      refine ⟨_, rfl, fun e => ?_⟩
      have := congrArg UInt8.toNat e
      rw [toNat_ofNat (by omega)] at this
      simp at this
      omega
    · obtain ⟨c, h2, h3⟩ := ih (x / 128) (by omega) (by omega)
      rw [enc_hi (by omega)]
      have hp := enc_pos (x / 128)
      refine ⟨c, ?_, h3⟩
      rw [List.length_cons, show (enc (x / 128)).length + 1 - 1 = ((enc (x / 128)).length - 1) + 1 by omega, List.getElem?_cons_succ]
      exact h2
theorem encs_cons (n : Nat) (l : List Nat) : encs (n :: l) = enc n ++ encs l := rfl
theorem encs_nil : encs [] = [] := rfl
theorem encs_append (a b : List Nat) : encs (a ++ b) = encs a ++ encs b := by simp [encs]
theorem clamp_nat {n : Nat} (h : n ≤ 4611686018427387904) : clamp (n : Int) = n := by unfold clamp; omega
end Go.Proofs.Ytmliclfepnebfaa

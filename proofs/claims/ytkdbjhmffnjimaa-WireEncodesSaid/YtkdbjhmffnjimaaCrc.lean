/-
  PLAIN: the check sum (chapter 1), no program in sight: one bit, one byte, bytes; a byte that is another one has another sum.
-/
import Derived.Laws.BitsAllLaws
import Derived.Laws.BitsLemmas
namespace Go.Proofs.Ytkdbjhmffnjimaa

def crcBit (v : Nat) : Nat := v / 2 ^^^ (if v % 2 = 1 then 3988292384 else 0)
def crcBits : Nat → Nat → Nat
  | 0, v => v
  | k + 1, v => crcBit (crcBits k v)
def crcByte (v : Nat) (c : UInt8) : Nat := crcBits 8 (v ^^^ c.toNat)
def crcL (v : Nat) (l : List UInt8) : Nat := l.foldl crcByte v
/-- The check sum. -/
def crc (l : List UInt8) : Nat := 4294967295 - crcL 4294967295 l

theorem crcBit_lt {v : Nat} (h : v < 4294967296) : crcBit v < 4294967296 := by
  unfold crcBit
  have e : (4294967296 : Nat) = 2 ^ 32 := by decide
  rw [e] at *
  refine Nat.xor_lt_two_pow (by omega) ?_
  split
  · decide
  · decide
theorem crcBits_lt {v : Nat} (h : v < 4294967296) (k : Nat) : crcBits k v < 4294967296 := by
  induction k with
  | zero => exact h
  | succ k ih => exact crcBit_lt ih
theorem xor_byte_lt {v : Nat} (h : v < 4294967296) (c : UInt8) : v ^^^ c.toNat < 4294967296 := by
  have e : (4294967296 : Nat) = 2 ^ 32 := by decide
  have := c.toNat_lt
  rw [e] at *
  exact Nat.xor_lt_two_pow h (by omega)
theorem crcByte_lt {v : Nat} (h : v < 4294967296) (c : UInt8) : crcByte v c < 4294967296 := crcBits_lt (xor_byte_lt h c) 8
theorem crcL_lt (l : List UInt8) : ∀ {v : Nat}, v < 4294967296 → crcL v l < 4294967296 := by
  induction l with
  | nil => intro v h; exact h
  | cons c l ih => intro v h; exact ih (crcByte_lt h c)
theorem crcL_append (v : Nat) (a b : List UInt8) : crcL v (a ++ b) = crcL (crcL v a) b := by simp [crcL, List.foldl_append]
theorem crcL_cons (v : Nat) (c : UInt8) (b : List UInt8) : crcL v (c :: b) = crcL (crcByte v c) b := rfl

/-- A bit's round can be undone. -/
theorem crcBit_inj {v u : Nat} (hv : v < 4294967296) (hu : u < 4294967296) (h : crcBit v = crcBit u) : v = u := by
  unfold crcBit at h
  have tv : (v / 2).testBit 31 = false := Nat.testBit_lt_two_pow (by omega)
  have tu : (u / 2).testBit 31 = false := Nat.testBit_lt_two_pow (by omega)
  have tp : (3988292384 : Nat).testBit 31 = true := by decide
  have t0 : (0 : Nat).testBit 31 = false := by decide
  have hb := congrArg (fun n => Nat.testBit n 31) h
  simp only [Nat.testBit_xor, tv, tu] at hb
  by_cases h1 : v % 2 = 1 <;> by_cases h2 : u % 2 = 1
  · rw [if_pos h1, if_pos h2] at h
    have h3 : v / 2 = u / 2 := by
      have := congrArg (· ^^^ 3988292384) h
      simpa [Nat.xor_assoc] using this
    omega
  · rw [if_pos h1, if_neg h2, tp, t0] at hb; simp at hb
  · rw [if_neg h1, if_pos h2, tp, t0] at hb; simp at hb
  · rw [if_neg h1, if_neg h2] at h
    simp only [Nat.xor_zero] at h
    omega
theorem crcBits_inj {v u : Nat} (hv : v < 4294967296) (hu : u < 4294967296) (k : Nat) (h : crcBits k v = crcBits k u) : v = u := by
  induction k with
  | zero => exact h
  | succ k ih => exact ih (crcBit_inj (crcBits_lt hv k) (crcBits_lt hu k) h)
theorem xor_left_inj {a b c : Nat} (h : a ^^^ c = b ^^^ c) : a = b := by
  have := congrArg (· ^^^ c) h
  simpa [Nat.xor_assoc] using this
theorem crcByte_inj {v u : Nat} (hv : v < 4294967296) (hu : u < 4294967296) {c : UInt8} (h : crcByte v c = crcByte u c) : v = u :=
  xor_left_inj (crcBits_inj (xor_byte_lt hv c) (xor_byte_lt hu c) 8 h)
theorem crcByte_inj2 {v : Nat} (hv : v < 4294967296) {c d : UInt8} (h : crcByte v c = crcByte v d) : c = d := by
  have h1 := crcBits_inj (xor_byte_lt hv c) (xor_byte_lt hv d) 8 h
  rw [Nat.xor_comm v, Nat.xor_comm v] at h1
  exact UInt8.toNat_inj.1 (xor_left_inj h1)
theorem crcL_inj (l : List UInt8) : ∀ {v u : Nat}, v < 4294967296 → u < 4294967296 → crcL v l = crcL u l → v = u := by
  induction l with
  | nil => intro v u _ _ h; exact h
  | cons c l ih => intro v u hv hu h; exact crcByte_inj hv hu (ih (crcByte_lt hv c) (crcByte_lt hu c) h)
/-- A byte that is another one has another sum. -/
theorem crc_one {a b : List UInt8} {c d : UInt8} (h : c ≠ d) : crc (a ++ c :: b) ≠ crc (a ++ d :: b) := by
  intro he
  have h1 := crcL_lt (a ++ c :: b) (v := 4294967295) (by omega)
  have h2 := crcL_lt (a ++ d :: b) (v := 4294967295) (by omega)
  have h3 : crcL 4294967295 (a ++ c :: b) = crcL 4294967295 (a ++ d :: b) := by unfold crc at he; omega
  rw [crcL_append, crcL_append, crcL_cons, crcL_cons] at h3
  have h4 := crcL_lt a (v := 4294967295) (by omega)
  exact h (crcByte_inj2 h4 (crcL_inj b (crcByte_lt h4 c) (crcByte_lt h4 d) h3))
theorem crc_lt (l : List UInt8) : crc l < 4294967296 := by unfold crc; omega

/-! ### as the text reckons it -/
theorem crc_bit_and (v : Nat) (h : v < 4294967296) : bits .and .u32 (v : Int) 1 = (v : Int) % 2 := by
  rw [show (1 : Int) = ((1 : Nat) : Int) by rfl, u32_and_nat _ _ h (by omega), Nat.and_one_is_mod]; rfl
theorem crc_bit_all (v : Nat) (h : v < 4294967296) : bits .xor .u32 ((v : Int) / 2) (bits .and .u32 3988292384 (-((v : Int) % 2) % 4294967296)) = (crcBit v : Int) := by
  have e2 : bits .and .u32 3988292384 (-((v : Int) % 2) % 4294967296) = ((if v % 2 = 1 then 3988292384 else 0 : Nat) : Int) := by
    rw [show (v : Int) % 2 = ((v % 2 : Nat) : Int) by omega]
    rcases Nat.mod_two_eq_zero_or_one v with h | h <;> rw [h] <;> decide
  rw [e2, show (v : Int) / 2 = ((v / 2 : Nat) : Int) by omega, u32_xor_nat _ _ (by omega) (by split <;> omega)]
  rfl
theorem crc_not (v : Nat) (h : v < 4294967296) : bits .xor .u32 4294967295 (v : Int) = ((4294967295 - v : Nat) : Int) := by
  rw [show (4294967295 : Int) = ((4294967295 : Nat) : Int) by rfl, u32_xor_nat _ _ (by omega) h]
  congr 1
  have e : (4294967295 : Nat) = 2 ^ 32 - 1 := by decide
  have e2 : 4294967295 - v = 2 ^ 32 - (v + 1) := by
    have : (2 : Nat) ^ 32 = 4294967296 := by decide
    omega
  rw [e2, e]
  refine Nat.eq_of_testBit_eq fun i => ?_
  rw [Nat.testBit_xor, Nat.testBit_two_pow_sub_one, Nat.testBit_two_pow_sub_succ (by omega)]
  by_cases hi : i < 32
  · simp [hi]
  · have : v.testBit i = false := Nat.testBit_lt_two_pow (Nat.lt_of_lt_of_le (by omega) (Nat.pow_le_pow_right (by omega) (show 32 ≤ i by omega)))
    simp [hi, this]
end Go.Proofs.Ytkdbjhmffnjimaa

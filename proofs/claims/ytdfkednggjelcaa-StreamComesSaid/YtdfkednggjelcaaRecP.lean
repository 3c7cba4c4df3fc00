
/-
  PLAIN: records as bytes (chapter 14): what a record is, its bytes, bytes as a record; lists of records.
-/
import Derived.Test.YtdfkednggjelcaaMOct
import Derived.Test.YtdfkednggjelcaaMStamp
namespace Go.Proofs.Ytdfkednggjelcaa
open Go.RowKit

/-- A record: what it says. -/
structure Rc where
  o : Int
  q : Int
  key : List UInt8
  m : Int
  c : Int
  vo : Int
  val : List UInt8
  gone : Bool
  ttl : Int

def Rc.z : Rc := ⟨0, 0, [], 0, 0, 0, [], false, 0⟩

/-- Is it one? -/
def isR (r : Rc) : Bool := isS r.m r.c && decide (0 ≤ r.o) && decide (r.o < 5) && decide (1 ≤ r.q) && decide (r.q ≤ 1099511627776) && decide (1 ≤ r.key.length) && decide (r.key.length ≤ 64) && decide (r.vo = r.o) &&
  decide (r.val.length ≤ 1024) && decide (0 ≤ r.ttl) && decide (r.ttl ≤ 281474976710655) && (!r.gone || (decide (r.val.length = 0) && decide (r.ttl = 0)))
structure IsR (r : Rc) : Prop where
  st : isS r.m r.c = true
  o0 : 0 ≤ r.o
  o5 : r.o < 5
  q1 : 1 ≤ r.q
  q2 : r.q ≤ 1099511627776
  k1 : 1 ≤ r.key.length
  k2 : r.key.length ≤ 64
  vo : r.vo = r.o
  v : r.val.length ≤ 1024
  t0 : 0 ≤ r.ttl
  t1 : r.ttl ≤ 281474976710655
  g : r.gone = true → r.val.length = 0 ∧ r.ttl = 0
theorem isR_iff {r : Rc} : isR r = true ↔ IsR r := by
  unfold isR
  constructor
  · intro h
    simp only [Bool.and_eq_true, Bool.or_eq_true, decide_eq_true_eq, Bool.not_eq_true'] at h
    obtain ⟨⟨⟨⟨⟨⟨⟨⟨⟨⟨⟨h1, h2⟩, h3⟩, h4⟩, h5⟩, h6⟩, h7⟩, h8⟩, h9⟩, h10⟩, h11⟩, h12⟩ := h
    refine ⟨h1, h2, h3, h4, h5, h6, h7, h8, h9, h10, h11, fun hg => ?_⟩
    rcases h12 with h | h
    · rw [hg] at h; cases h
    · exact h
  · intro h
    simp only [Bool.and_eq_true, Bool.or_eq_true, decide_eq_true_eq, Bool.not_eq_true']
    refine ⟨⟨⟨⟨⟨⟨⟨⟨⟨⟨⟨h.st, h.o0⟩, h.o5⟩, h.q1⟩, h.q2⟩, h.k1⟩, h.k2⟩, h.vo⟩, h.v⟩, h.t0⟩, h.t1⟩, ?_⟩
    cases hg : r.gone with
    | false => exact .inl rfl
    | true => exact .inr (h.g hg)
theorem isR_not {r : Rc} : isR r = false ↔ ¬ IsR r := by rw [← isR_iff]; simp

/-- Are two one? -/
def sameR (a b : Rc) : Bool := decide (a.o = b.o) && decide (a.q = b.q) && decide (a.key = b.key) && decide (a.m = b.m) && decide (a.c = b.c) && decide (a.vo = b.vo) && decide (a.val = b.val) && (a.gone == b.gone) && decide (a.ttl = b.ttl)
theorem sameR_iff {a b : Rc} : sameR a b = true ↔ a = b := by
  obtain ⟨o, q, key, m, c, vo, val, gone, ttl⟩ := a
  obtain ⟨o', q', key', m', c', vo', val', gone', ttl'⟩ := b
  simp [sameR]
  constructor
  · rintro ⟨⟨⟨⟨⟨⟨⟨⟨h1, h2⟩, h3⟩, h4⟩, h5⟩, h6⟩, h7⟩, h8⟩, h9⟩; exact ⟨h1, h2, h3, h4, h5, h6, h7, h8, h9⟩
  · rintro ⟨h1, h2, h3, h4, h5, h6, h7, h8, h9⟩; exact ⟨⟨⟨⟨⟨⟨⟨⟨h1, h2⟩, h3⟩, h4⟩, h5⟩, h6⟩, h7⟩, h8⟩, h9⟩
theorem sameR_self (a : Rc) : sameR a a = true := sameR_iff.2 rfl
theorem sameR_comm (a b : Rc) : sameR a b = sameR b a := by
  cases h : sameR a b with
  | true => obtain rfl := sameR_iff.1 h; rw [sameR_self]
  | false =>
    cases h2 : sameR b a with
    | false => rfl
    | true => obtain rfl := sameR_iff.1 h2; rw [sameR_self] at h; cases h

def goneN (b : Bool) : Int := if b then 1 else 0
theorem goneN_inj {b : Bool} : (goneN b == 1) = b := by cases b <;> rfl

/-- A record's bytes. -/
def encR (r : Rc) : List UInt8 := (((([] ++ encs ([r.o, r.q].map clamp)) ++ encRows [r.key]) ++ encs ([r.m, r.c, goneN r.gone, r.ttl].map clamp)) ++ encRows [r.val])

theorem takeNum_enc {n : Nat} (h : n ≤ 4611686018427387904) (X : List UInt8) (b : Bool) : takeNum (enc n ++ X) b = (n, X, b) := take_some (dec_enc h X)
theorem takeRow_encs {r X : List UInt8} {b : Bool} (h : r.length ≤ 1099511627776) : takeRow (enc r.length ++ (r ++ X)) b = (r, X, b) := by
  unfold takeRow
  rw [take_some (dec_enc (show r.length ≤ 4611686018427387904 by omega) _)]
  unfold takeRaw
  rw [if_pos ⟨by simp, by simp; omega⟩]
  simp
theorem takeNum_good {L : List UInt8} {b : Bool} {n : Nat} {X : List UInt8} (h : takeNum L b = (n, X, false)) : b = false ∧ L = enc n ++ X ∧ n ≤ 4611686018427387904 := by
  cases hd : dec L with
  | none => rw [take_none hd] at h; simp at h
  | some p =>
    obtain ⟨n', r⟩ := p
    rw [take_some hd] at h
    simp only [Prod.mk.injEq] at h
    obtain ⟨rfl, rfl, rfl⟩ := h
    exact ⟨rfl, dec_some hd⟩
theorem takeRaw_good {L : List UInt8} {b : Bool} {n : Nat} {r X : List UInt8} (h : takeRaw L b (n : Int) = (r, X, false)) : b = false ∧ L = r ++ X ∧ r.length = n := by
  unfold takeRaw at h
  split at h
  · simp only [Prod.mk.injEq, Int.toNat_natCast] at h
    obtain ⟨rfl, rfl, rfl⟩ := h
    refine ⟨rfl, (List.take_append_drop _ _).symm, ?_⟩
    rw [List.length_take]; omega
  · simp at h
theorem takeRow_good {L : List UInt8} {b : Bool} {r X : List UInt8} (h : takeRow L b = (r, X, false)) : b = false ∧ L = enc r.length ++ (r ++ X) ∧ r.length ≤ 4611686018427387904 := by
  unfold takeRow at h
  obtain ⟨h1, h2, h3⟩ := takeRaw_good h
  have h4 : takeNum L b = ((takeNum L b).1, (takeNum L b).2.1, false) := by rw [← h1]
  obtain ⟨h5, h6, h7⟩ := takeNum_good h4
  refine ⟨h5, ?_, by omega⟩
  rw [h3, ← h2, ← h6]
theorem takeRow_len (L : List UInt8) (b : Bool) : (takeRow L b).2.1.length ≤ L.length ∧ (takeRow L b).1.length ≤ L.length := by
  unfold takeRow
  have h1 := takeNum_len L b
  have h2 := takeRaw_len (takeNum L b).2.1 (takeNum L b).2.2 ((takeNum L b).1 : Int)
  omega
theorem takeNum_le (L : List UInt8) (b : Bool) : (takeNum L b).1 ≤ 4611686018427387904 := by
  cases hd : dec L with
  | none => rw [take_none hd]; simp
  | some p => obtain ⟨n', r⟩ := p; rw [take_some hd]; exact (dec_some hd).2
theorem takeNum_bad (L : List UInt8) (b : Bool) : b = true → (takeNum L b).2.2 = true := by
  intro h
  cases hd : dec L with
  | none => rw [take_none hd]
  | some p => rw [take_some hd]; exact h

theorem pe {α β γ : Type} (p : α × β × γ) : p = (p.1, p.2.1, p.2.2) := rfl
attribute [local irreducible] takeNum takeRow takeRaw dec encR

/-- What is read of bytes, one behind the other. -/
structure Red where
  o : Nat
  q : Nat
  key : List UInt8
  m : Nat
  c : Nat
  g : Nat
  t : Nat
  val : List UInt8
  rest : List UInt8
  bad : Bool
/-- It was read so. -/
structure Reads (L : List UInt8) (x : Red) : Prop where
  all : ∃ (L1 L2 L3 L4 L5 L6 L7 : List UInt8) (b1 b2 b3 b4 b5 b6 b7 : Bool), takeNum L false = (x.o, L1, b1) ∧ takeNum L1 b1 = (x.q, L2, b2) ∧ takeRow L2 b2 = (x.key, L3, b3) ∧ takeNum L3 b3 = (x.m, L4, b4) ∧ takeNum L4 b4 = (x.c, L5, b5) ∧
    takeNum L5 b5 = (x.g, L6, b6) ∧ takeNum L6 b6 = (x.t, L7, b7) ∧ takeRow L7 b7 = (x.val, x.rest, x.bad)
def readR (L : List UInt8) : Red :=
  let s1 := takeNum L false
  let s2 := takeNum s1.2.1 s1.2.2
  let s3 := takeRow s2.2.1 s2.2.2
  let s4 := takeNum s3.2.1 s3.2.2
  let s5 := takeNum s4.2.1 s4.2.2
  let s6 := takeNum s5.2.1 s5.2.2
  let s7 := takeNum s6.2.1 s6.2.2
  let s8 := takeRow s7.2.1 s7.2.2
  ⟨s1.1, s2.1, s3.1, s4.1, s5.1, s6.1, s7.1, s8.1, s8.2.1, s8.2.2⟩
theorem reads_of (L : List UInt8) : Reads L (readR L) := ⟨_, _, _, _, _, _, _, _, _, _, _, _, _, _, pe _, pe _, pe _, pe _, pe _, pe _, pe _, pe _⟩
theorem Reads.eq {L : List UInt8} {x : Red} (h : Reads L x) : readR L = x := by
  obtain ⟨L1, L2, L3, L4, L5, L6, L7, b1, b2, b3, b4, b5, b6, b7, h1, h2, h3, h4, h5, h6, h7, h8⟩ := h.all
  obtain ⟨o, q, key, m, c, g, t, val, rest, bad⟩ := x
  simp only at h1 h2 h3 h4 h5 h6 h7 h8
  simp [readR, h1, h2, h3, h4, h5, h6, h7, h8]
/-- The record of it. -/
def Red.rc (x : Red) : Rc := ⟨x.o, x.q, x.key, x.m, x.c, x.o, x.val, x.g == 1, x.t⟩
/-- Does it stand? -/
def Red.ok (x : Red) : Bool := !x.bad && decide (x.rest = []) && decide (x.g ≤ 1) && isR x.rc
/-- The record that bytes are. -/
def decR (L : List UInt8) : Option Rc := if (readR L).ok then some (readR L).rc else none

theorem encR_eq (r : Rc) : encR r = enc (clamp r.o) ++ (enc (clamp r.q) ++ (enc r.key.length ++ (r.key ++ (enc (clamp r.m) ++ (enc (clamp r.c) ++ (enc (clamp (goneN r.gone)) ++ (enc (clamp r.ttl) ++ (enc r.val.length ++ r.val)))))))) := by
  simp [encR, encs, encRows]
theorem encR_reads {r : Rc} (h : IsR r) (X : List UInt8) : Reads (encR r ++ X) ⟨clamp r.o, clamp r.q, r.key, clamp r.m, clamp r.c, clamp (goneN r.gone), clamp r.ttl, r.val, X, false⟩ := by
  have hk := h.k2
  have hv := h.v
  refine ⟨_, _, _, _, _, _, _, _, _, _, _, _, _, _, ?_, takeNum_enc (clamp_le _) _ _, takeRow_encs (show r.key.length ≤ 1099511627776 by omega), takeNum_enc (clamp_le _) _ _, takeNum_enc (clamp_le _) _ _, takeNum_enc (clamp_le _) _ _, takeNum_enc (clamp_le _) _ _, takeRow_encs (show r.val.length ≤ 1099511627776 by omega)⟩
  rw [encR_eq]
  simp only [List.append_assoc]
  exact takeNum_enc (clamp_le _) _ _
theorem goneN_clamp (b : Bool) : clamp (goneN b) ≤ 1 ∧ ((clamp (goneN b)) == 1) = b := by cases b <;> decide
theorem encR_rc {r : Rc} (h : IsR r) (X : List UInt8) : (⟨clamp r.o, clamp r.q, r.key, clamp r.m, clamp r.c, clamp (goneN r.gone), clamp r.ttl, r.val, X, false⟩ : Red).rc = r := by
  obtain ⟨o, q, key, m, c, vo, val, gone, ttl⟩ := r
  obtain ⟨h1, h2, h3, h4, h5, h6, h7, h8, h9, h10, h11, h12⟩ := h
  obtain ⟨a1, a2, a3, a4⟩ := isS_iff.1 h1
  simp only at h1 h2 h3 h4 h5 h6 h7 h8 h9 h10 h11 h12 a1 a2 a3 a4
  subst h8
  simp only [Red.rc, Rc.mk.injEq]
  exact ⟨clamp_of h2 (by omega), clamp_of (by omega) (by omega), trivial, clamp_of a1 (by omega), clamp_of a3 (by omega), clamp_of h2 (by omega), trivial, (goneN_clamp gone).2, clamp_of h10 (by omega)⟩
theorem decR_enc {r : Rc} (h : IsR r) : decR (encR r) = some r := by
  have h1 := (encR_reads h []).eq
  rw [List.append_nil] at h1
  unfold decR
  rw [h1, if_pos, encR_rc h]
  unfold Red.ok
  rw [encR_rc h, isR_iff.2 h]
  simp [(goneN_clamp r.gone).1]
theorem clamp_goneN {g : Nat} (h : g ≤ 1) : clamp (goneN (g == 1)) = g := by
  have : g = 0 ∨ g = 1 := by omega
  rcases this with rfl | rfl <;> rfl
theorem decR_some {L : List UInt8} {r : Rc} (h : decR L = some r) : IsR r ∧ L = encR r := by
  unfold decR at h
  split at h
  · rename_i hok
    simp only [Option.some.injEq] at h
    subst h
    unfold Red.ok at hok
    simp only [Bool.and_eq_true, Bool.not_eq_true', decide_eq_true_eq] at hok
    obtain ⟨⟨⟨hb, hr⟩, hg⟩, hi⟩ := hok
    refine ⟨isR_iff.1 hi, ?_⟩
    obtain ⟨L1, L2, L3, L4, L5, L6, L7, b1, b2, b3, b4, b5, b6, b7, h1, h2, h3, h4, h5, h6, h7, h8⟩ := (reads_of L).all
    generalize readR L = x at *
    obtain ⟨o, q, key, m, c, g, t, val, rest, bad⟩ := x
    simp only at h1 h2 h3 h4 h5 h6 h7 h8 hb hr hg hi
    subst hb hr
    obtain ⟨rfl, e8, n8⟩ := takeRow_good h8
    obtain ⟨rfl, e7, n7⟩ := takeNum_good h7
    obtain ⟨rfl, e6, n6⟩ := takeNum_good h6
    obtain ⟨rfl, e5, n5⟩ := takeNum_good h5
    obtain ⟨rfl, e4, n4⟩ := takeNum_good h4
    obtain ⟨rfl, e3, n3⟩ := takeRow_good h3
    obtain ⟨rfl, e2, n2⟩ := takeNum_good h2
    obtain ⟨_, e1, n1⟩ := takeNum_good h1
    rw [encR_eq]
    simp only [Red.rc]
    rw [clamp_nat n1, clamp_nat n2, clamp_nat n4, clamp_nat n5, clamp_nat n7, clamp_goneN hg, e1, e2, e3, e4, e5, e6, e7, e8, List.append_nil]
  · cases h
/-- Bytes of a record, cut off or with something behind: none. -/
theorem decR_more {r : Rc} (h : IsR r) {X : List UInt8} (hX : X ≠ []) : decR (encR r ++ X) = none := by
  unfold decR
  rw [(encR_reads h X).eq, if_neg]
  simp [Red.ok, hX]
theorem decR_cut {r : Rc} (h : IsR r) {k : Nat} (hk : k < (encR r).length) : decR ((encR r).take k) = none := by
  cases hd : decR ((encR r).take k) with
  | none => rfl
  | some r' =>
    obtain ⟨h1, h2⟩ := decR_some hd
    have h3 : encR r = encR r' ++ (encR r).drop k := by rw [← h2, List.take_append_drop]
    have h4 := decR_more h1 (X := (encR r).drop k) (by intro he; have := congrArg List.length he; simp at this; omega)
    rw [← h3, decR_enc h] at h4
    cases h4
theorem encR_inj {a b : Rc} (ha : IsR a) (hb : IsR b) : encR a = encR b ↔ a = b := by
  refine ⟨fun h => ?_, fun h => by rw [h]⟩
  have h1 := decR_enc ha
  rw [h, decR_enc hb] at h1
  simpa using h1.symm
theorem encR_pos (r : Rc) : 0 < (encR r).length := by
  rw [encR_eq]
  have := enc_pos (clamp r.o)
  simp only [List.length_append]
  omega
theorem encR_len (r : Rc) (hk : r.key.length ≤ 1099511627776) (hv : r.val.length ≤ 1099511627776) : (encR r).length ≤ 72 + r.key.length + r.val.length := by
  have h1 := enc_len9 (clamp_le r.o)
  have h2 := enc_len9 (clamp_le r.q)
  have h3 := enc_len9 (clamp_le r.m)
  have h4 := enc_len9 (clamp_le r.c)
  have h5 := enc_len9 (clamp_le (goneN r.gone))
  have h6 := enc_len9 (clamp_le r.ttl)
  have h7 := enc_len9 (show r.key.length ≤ 4611686018427387904 by omega)
  have h8 := enc_len9 (show r.val.length ≤ 4611686018427387904 by omega)
  rw [encR_eq]
  simp only [List.length_append]
  omega

/-! ### Lists -/

/-- The bytes of records. -/
def encL (l : List Rc) : List UInt8 := encs ([(l.length : Int)].map clamp) ++ encRows (l.map encR)
/-- So many records off the front. -/
def takeRs : Nat → List UInt8 → Bool → Option (List Rc × List UInt8 × Bool)
  | 0, L, b => some ([], L, b)
  | n + 1, L, b => match decR (takeRow L b).1 with
    | none => none
    | some r => match takeRs n (takeRow L b).2.1 (takeRow L b).2.2 with
      | none => none
      | some (l, X, b') => some (r :: l, X, b')
/-- The records that bytes are. -/
def decL (L : List UInt8) : Option (List Rc) :=
  if 64 < (takeNum L false).1 then none else
  match takeRs (takeNum L false).1 (takeNum L false).2.1 (takeNum L false).2.2 with
  | none => none
  | some (l, X, b) => if b = false ∧ X = [] then some l else none

theorem takeRs_snoc : ∀ (k : Nat) (L : List UInt8) (b : Bool), takeRs (k + 1) L b = match takeRs k L b with
    | none => none
    | some (l, X, b') => match decR (takeRow X b').1 with
      | none => none
      | some r => some (l ++ [r], (takeRow X b').2.1, (takeRow X b').2.2) := by
  intro k
  induction k with
  | zero => intro L b; simp only [takeRs]; split <;> simp_all
  | succ k ih =>
    intro L b
    rw [takeRs]
    cases hd : decR (takeRow L b).1 with
    | none => simp [takeRs, hd]
    | some r =>
      simp only
      rw [ih, takeRs]
      simp only [hd]
      cases ht : takeRs k (takeRow L b).2.1 (takeRow L b).2.2 with
      | none => rfl
      | some p =>
        obtain ⟨l, X, b'⟩ := p
        simp only
        cases hd2 : decR (takeRow X b').1 with
        | none => rfl
        | some r2 => simp
theorem takeRs_some {k : Nat} {L X : List UInt8} {b b' : Bool} {l : List Rc} {r : Rc} (h : takeRs k L b = some (l, X, b')) (hr : decR (takeRow X b').1 = some r) : takeRs (k + 1) L b = some (l ++ [r], (takeRow X b').2.1, (takeRow X b').2.2) := by
  rw [takeRs_snoc, h]; simp [hr]
theorem takeRs_none {k : Nat} {L X : List UInt8} {b b' : Bool} {l : List Rc} (h : takeRs k L b = some (l, X, b')) (hr : decR (takeRow X b').1 = none) : takeRs (k + 1) L b = none := by
  rw [takeRs_snoc, h]; simp [hr]
theorem takeRs_more {k n : Nat} {L : List UInt8} {b : Bool} (h : takeRs k L b = none) (hk : k ≤ n) : takeRs n L b = none := by
  induction n with
  | zero => obtain rfl : k = 0 := by omega
            exact h
  | succ n ih =>
    by_cases e : k = n + 1
    · rw [← e]; exact h
    · rw [takeRs_snoc, ih (by omega)]
theorem takeRs_len {k : Nat} : ∀ {L X : List UInt8} {b b' : Bool} {l : List Rc}, takeRs k L b = some (l, X, b') → l.length = k ∧ X.length ≤ L.length ∧ ∀ r ∈ l, IsR r := by
  induction k with
  | zero => intro L X b b' l h; simp only [takeRs, Option.some.injEq, Prod.mk.injEq] at h; obtain ⟨rfl, rfl, rfl⟩ := h; simp
  | succ k ih =>
    intro L X b b' l h
    rw [takeRs_snoc] at h
    cases ht : takeRs k L b with
    | none => rw [ht] at h; cases h
    | some p =>
      obtain ⟨l1, X1, b1⟩ := p
      rw [ht] at h
      simp only at h
      cases hd : decR (takeRow X1 b1).1 with
      | none => rw [hd] at h; cases h
      | some r =>
        rw [hd] at h
        simp only [Option.some.injEq, Prod.mk.injEq] at h
        obtain ⟨rfl, rfl, rfl⟩ := h
        obtain ⟨h1, h2, h3⟩ := ih ht
        refine ⟨by simp [h1], Nat.le_trans (takeRow_len X1 b1).1 h2, fun q hq => ?_⟩
        rcases List.mem_append.1 hq with hq | hq
        · exact h3 q hq
        · obtain rfl := List.mem_singleton.1 hq
          exact (decR_some hd).1
theorem decR_nil : decR [] = none := by
  cases h : decR [] with
  | none => rfl
  | some r =>
    have := congrArg List.length (decR_some h).2
    have := encR_pos r
    simp at *
    omega
theorem takeRow_true (L : List UInt8) (b : Bool) (h : b = true → L = []) : (takeRow L b).2.2 = true → (takeRow L b).1 = [] ∧ (takeRow L b).2.1 = [] := by
  unfold takeRow takeRaw
  split
  · rename_i hin
    intro hb
    simp only at hb ⊢
    cases hd : dec L with
    | none => rw [take_none hd]; simp
    | some p =>
      obtain ⟨n, r⟩ := p
      rw [take_some hd] at hb
      have := h hb
      subst this
      simp [dec, decGo] at hd
  · simp
theorem takeRow_err (L : List UInt8) (b : Bool) (h : b = true → L = []) : (takeRow L b).2.2 = true → (takeRow L b).2.1 = [] := fun hb => (takeRow_true L b h hb).2
theorem takeNum_err (L : List UInt8) (b : Bool) (h : b = true → L = []) : (takeNum L b).2.2 = true → (takeNum L b).2.1 = [] := by
  intro hb
  cases hd : dec L with
  | none => rw [take_none hd]
  | some p =>
    obtain ⟨n, r⟩ := p
    rw [take_some hd] at hb
    have := h hb
    subst this
    simp [dec, decGo] at hd
theorem encRows_cons' (r : List UInt8) (l : List (List UInt8)) : encRows (r :: l) = enc r.length ++ (r ++ encRows l) := by simp [encRows]
theorem encR_small {r : Rc} (h : IsR r) : (encR r).length ≤ 1160 := by
  have h1 := h.k2
  have h2 := h.v
  have := encR_len r (by omega) (by omega)
  omega
theorem takeRs_enc : ∀ {l : List Rc}, (∀ r ∈ l, IsR r) → ∀ X, takeRs l.length (encRows (l.map encR) ++ X) false = some (l, X, false) := by
  intro l
  induction l with
  | nil => intro _ X; rfl
  | cons r l ih =>
    intro h X
    have h1 := h r (by simp)
    have h2 := encR_small h1
    rw [List.length_cons, takeRs, List.map_cons, encRows_cons']
    simp only [List.append_assoc]
    rw [takeRow_encs (by omega)]
    simp only [decR_enc h1]
    rw [ih (fun q hq => h q (List.mem_cons_of_mem _ hq)) X]
theorem decL_enc {l : List Rc} (h : ∀ r ∈ l, IsR r) (hl : l.length ≤ 64) : decL (encL l) = some l := by
  unfold decL encL
  have e : encs ([(l.length : Int)].map clamp) = enc l.length := by
    rw [List.map_singleton, clamp_nat (by omega)]; simp [encs]
  rw [e, takeNum_enc (by omega)]
  simp only
  rw [if_neg (by omega)]
  have h1 := takeRs_enc h []
  rw [List.append_nil] at h1
  rw [h1]
  simp

end Go.Proofs.Ytdfkednggjelcaa

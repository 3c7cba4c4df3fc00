
/-
  PLAIN: records that tell whether they are whole (chapter 11): four bytes of a number, a record's bytes, bytes as a record, all records from the front.
-/
import Derived.Test.YtdfkednggjelcaaMBase
namespace Go.Proofs.Ytdfkednggjelcaa

def four (v : Nat) : List UInt8 := [UInt8.ofNat (v % 256), UInt8.ofNat (v / 256 % 256), UInt8.ofNat (v / 65536 % 256), UInt8.ofNat (v / 16777216 % 256)]
def ofFour : List UInt8 → Nat
  | b0 :: b1 :: b2 :: b3 :: _ => b0.toNat + 256 * b1.toNat + 65536 * b2.toNat + 16777216 * b3.toNat
  | _ => 0
theorem four_len (v : Nat) : (four v).length = 4 := rfl
theorem toNat_ofNat8 {n : Nat} (h : n < 256) : (UInt8.ofNat n).toNat = n := by rw [UInt8.toNat_ofNat']; exact Nat.mod_eq_of_lt h
theorem ofFour_four {v : Nat} (h : v < 4294967296) (X : List UInt8) : ofFour (four v ++ X) = v := by
  simp only [four, List.cons_append, List.nil_append, ofFour]
  rw [toNat_ofNat8 (by omega), toNat_ofNat8 (by omega), toNat_ofNat8 (by omega), toNat_ofNat8 (by omega)]
  omega
theorem ofNat_toNat8 (b : UInt8) : UInt8.ofNat b.toNat = b := by
  apply UInt8.toNat_inj.1
  rw [toNat_ofNat8 b.toNat_lt]
theorem four_ofFour {L : List UInt8} (h : 4 ≤ L.length) : four (ofFour L) = L.take 4 := by
  match L, h with
  | b0 :: b1 :: b2 :: b3 :: r, _ =>
    have h0 := b0.toNat_lt
    have h1 := b1.toNat_lt
    have h2 := b2.toNat_lt
    have h3 := b3.toNat_lt
    simp only [ofFour, four, List.take_succ_cons, List.take_zero, List.cons.injEq, and_true]
    refine ⟨?_, ?_, ?_, ?_⟩
    · rw [show (b0.toNat + 256 * b1.toNat + 65536 * b2.toNat + 16777216 * b3.toNat) % 256 = b0.toNat by omega]; exact ofNat_toNat8 b0
    · rw [show (b0.toNat + 256 * b1.toNat + 65536 * b2.toNat + 16777216 * b3.toNat) / 256 % 256 = b1.toNat by omega]; exact ofNat_toNat8 b1
    · rw [show (b0.toNat + 256 * b1.toNat + 65536 * b2.toNat + 16777216 * b3.toNat) / 65536 % 256 = b2.toNat by omega]; exact ofNat_toNat8 b2
    · rw [show (b0.toNat + 256 * b1.toNat + 65536 * b2.toNat + 16777216 * b3.toNat) / 16777216 % 256 = b3.toNat by omega]; exact ofNat_toNat8 b3
theorem ofFour_lt (L : List UInt8) : ofFour L < 4294967296 := by
  match L with
  | [] => simp [ofFour]
  | [_] => simp [ofFour]
  | [_, _] => simp [ofFour]
  | [_, _, _] => simp [ofFour]
  | b0 :: b1 :: b2 :: b3 :: r =>
    have h0 := b0.toNat_lt
    have h1 := b1.toNat_lt
    have h2 := b2.toNat_lt
    have h3 := b3.toNat_lt
    simp only [ofFour]; omega
theorem ofFour_take {L : List UInt8} (h : 4 ≤ L.length) : ofFour (L.take 4) = ofFour L := by
  match L, h with
  | b0 :: b1 :: b2 :: b3 :: r, _ => rfl
theorem four_inj {u v : Nat} (hu : u < 4294967296) (hv : v < 4294967296) (h : four u = four v) : u = v := by
  have h1 := ofFour_four hu []
  rw [h, ofFour_four hv []] at h1
  exact h1.symm

attribute [local irreducible] four ofFour

def headF (n : Nat) : List UInt8 := four n ++ four (crc (four n))
theorem headF_len (n : Nat) : (headF n).length = 8 := by simp [headF, four_len]
/-- A record of bytes. -/
def encF (p : List UInt8) : List UInt8 := (headF p.length ++ p) ++ four (crc (headF p.length ++ p))
theorem encF_len (p : List UInt8) : (encF p).length = 12 + p.length := by simp [encF, headF_len, four_len]; omega

/-- What comes of it: the bytes, how many were taken, the error. -/
structure Took where
  p : List UInt8
  n : Nat
  e : Nat
def decF (L : List UInt8) : Took :=
  if L.length < 8 then ⟨[], 0, 2⟩
  else if L.take 8 ≠ headF (ofFour L) then ⟨[], 0, 4⟩
  else if 262144 < ofFour L then ⟨[], 0, 5⟩
  else if L.length < 12 + ofFour L then ⟨[], 0, 2⟩
  else if ofFour (L.drop (8 + ofFour L)) ≠ crc (L.take (8 + ofFour L)) then ⟨[], 0, 4⟩
  else ⟨(L.take (8 + ofFour L)).drop 8, 12 + ofFour L, 0⟩

theorem head_iff {L : List UInt8} (h : 8 ≤ L.length) : L.take 8 = headF (ofFour L) ↔ ofFour (L.drop 4) = crc (L.take 4) := by
  have e1 : L.take 8 = L.take 4 ++ (L.drop 4).take 4 := by
    rw [← List.take_append_drop 4 (L.take 8), List.take_take, List.drop_take]
    simp
  have e2 := four_ofFour (L := L) (by omega)
  have e3 := four_ofFour (L := L.drop 4) (by simp; omega)
  unfold headF
  rw [e1, e2, ← e3]
  constructor
  · intro he
    have h1 := List.append_cancel_left he
    exact four_inj (ofFour_lt _) (crc_lt _) h1
  · intro he; rw [he]
theorem decF_e2 {L : List UInt8} (h : L.length < 8) : decF L = ⟨[], 0, 2⟩ := by unfold decF; rw [if_pos h]
theorem decF_bad {L : List UInt8} (h : (decF L).e ≠ 0) : (decF L).p = [] ∧ (decF L).n = 0 := by
  unfold decF at *
  by_cases h1 : L.length < 8
  · simp [h1]
  by_cases h2 : L.take 8 ≠ headF (ofFour L)
  · simp [h1, h2]
  by_cases h3 : 262144 < ofFour L
  · simp [h1, h2, h3]
  by_cases h4 : L.length < 12 + ofFour L
  · simp [h1, h2, h3, h4]
  by_cases h5 : ofFour (L.drop (8 + ofFour L)) ≠ crc (L.take (8 + ofFour L))
  · simp [h1, h2, h3, h4, h5]
  · rw [if_neg h1, if_neg h2, if_neg h3, if_neg h4, if_neg h5] at h
    exact absurd rfl h
/-- What a good one tells. -/
structure GoodF (L : List UInt8) : Prop where
  len : 12 + ofFour L ≤ L.length
  head : L.take 8 = headF (ofFour L)
  most : ofFour L ≤ 262144
  sum : ofFour (L.drop (8 + ofFour L)) = crc (L.take (8 + ofFour L))
theorem decF_good {L : List UInt8} (h : GoodF L) : decF L = ⟨(L.take (8 + ofFour L)).drop 8, 12 + ofFour L, 0⟩ := by
  obtain ⟨h1, h2, h3, h4⟩ := h
  unfold decF
  rw [if_neg (by omega), if_neg (by simpa using h2), if_neg (by omega), if_neg (by omega), if_neg (by simpa using h4)]
theorem good_of {L : List UInt8} (h : (decF L).e = 0) : GoodF L := by
  unfold decF at h
  by_cases h1 : L.length < 8
  · rw [if_pos h1] at h; simp at h
  rw [if_neg h1] at h
  by_cases h2 : L.take 8 ≠ headF (ofFour L)
  · rw [if_pos h2] at h; simp at h
  rw [if_neg h2] at h
  by_cases h3 : 262144 < ofFour L
  · rw [if_pos h3] at h; simp at h
  rw [if_neg h3] at h
  by_cases h4 : L.length < 12 + ofFour L
  · rw [if_pos h4] at h; simp at h
  rw [if_neg h4] at h
  by_cases h5 : ofFour (L.drop (8 + ofFour L)) ≠ crc (L.take (8 + ofFour L))
  · rw [if_pos h5] at h; simp at h
  exact ⟨by omega, by simpa using h2, by omega, by simpa using h5⟩
theorem decF_zero {L : List UInt8} (h : (decF L).e = 0) : (decF L).n = 12 + ofFour L ∧ (decF L).p.length = ofFour L ∧ 12 + ofFour L ≤ L.length ∧ ofFour L ≤ 262144 := by
  have hg := good_of h
  rw [decF_good hg]
  refine ⟨rfl, ?_, hg.len, hg.most⟩
  have := hg.len
  simp; omega

theorem ofFour_enc {p : List UInt8} (hp : p.length ≤ 262144) (X : List UInt8) : ofFour (encF p ++ X) = p.length := by
  unfold encF headF
  simp only [List.append_assoc]
  exact ofFour_four (by omega) _
theorem good_enc {p : List UInt8} (hp : p.length ≤ 262144) (X : List UInt8) : GoodF (encF p ++ X) := by
  have h0 := ofFour_enc hp X
  have hl := encF_len p
  have hh := headF_len p.length
  refine ⟨by rw [h0]; simp; omega, ?_, by omega, ?_⟩
  · rw [h0]
    unfold encF
    rw [List.append_assoc, List.append_assoc, List.take_append_of_le_length (by omega), List.take_of_length_le (by omega)]
  · rw [h0]
    unfold encF
    have e1 : (headF p.length ++ p).length = 8 + p.length := by simp [hh]
    rw [List.append_assoc, List.drop_append_of_le_length (by omega), List.drop_of_length_le (by omega), List.nil_append, List.take_append_of_le_length (by omega), List.take_of_length_le (by omega)]
    exact ofFour_four (crc_lt _) _
theorem decF_enc {p : List UInt8} (hp : p.length ≤ 262144) (X : List UInt8) : decF (encF p ++ X) = ⟨p, 12 + p.length, 0⟩ := by
  rw [decF_good (good_enc hp X), ofFour_enc hp X]
  have hh := headF_len p.length
  have e1 : (headF p.length ++ p).length = 8 + p.length := by simp [hh]
  unfold encF
  rw [List.append_assoc, List.take_append_of_le_length (by omega), List.take_of_length_le (by omega), List.drop_append_of_le_length (by omega), List.drop_of_length_le (by omega), List.nil_append]
/-- Cut short: none. -/
theorem decF_cut {p : List UInt8} (hp : p.length ≤ 262144) {j : Nat} (hj : j < (encF p).length) : (decF ((encF p).take j)).e ≠ 0 := by
  intro h
  have hg := good_of h
  have hl := hg.len
  rw [List.length_take] at hl
  have e1 : ofFour ((encF p).take j) = p.length := by
    have h4 : 4 ≤ ((encF p).take j).length := by rw [List.length_take]; omega
    rw [← ofFour_take h4, List.take_take, Nat.min_eq_left (by rw [List.length_take] at h4; omega)]
    have h5 : 4 ≤ (encF p).length := by rw [encF_len]; omega
    rw [ofFour_take h5]
    have := ofFour_enc hp []
    rwa [List.append_nil] at this
  rw [e1] at hl
  rw [encF_len] at hj hl
  omega

theorem set_ne {l : List UInt8} {i : Nat} {x y : UInt8} (hy : l[i]? = some y) (hx : x ≠ y) : l.set i x ≠ l := by
  intro h
  have hi := (List.getElem?_eq_some_iff.1 hy).1
  have h1 : (l.set i x)[i]? = l[i]? := by rw [h]
  rw [List.getElem?_set_self hi, hy] at h1
  exact hx (by simpa using h1)
theorem crc_set' {l : List UInt8} {k : Nat} {x y : UInt8} (hy : l[k]? = some y) (hx : x ≠ y) : crc (l.set k x) ≠ crc l := by
  obtain ⟨h, rfl⟩ := List.getElem?_eq_some_iff.1 hy
  have e1 : l.set k x = l.take k ++ x :: l.drop (k + 1) := by rw [List.set_eq_take_append_cons_drop, if_pos h]
  have e2 : l = l.take k ++ l[k] :: l.drop (k + 1) := by rw [← List.drop_eq_getElem_cons h, List.take_append_drop]
  rw [e1]
  conv => rhs; rw [e2]
  exact crc_one hx
/-- One byte of a record is another one: none. -/
theorem decF_see {p X : List UInt8} (hp : p.length ≤ 262144) {i : Nat} {x y : UInt8} (hy : (encF p)[i]? = some y) (hx : x ≠ y) : (decF ((encF p).set i x ++ X)).e ≠ 0 := by
  intro h
  have hi := (List.getElem?_eq_some_iff.1 hy).1
  have hg := good_of h
  have hl := encF_len p
  have hh := headF_len p.length
  have hF : four p.length ++ four (crc (four p.length)) = headF p.length := rfl
  obtain ⟨g1, g2, g3, g4⟩ := hg
  -- the parts
  by_cases h4 : i < 4
  · -- the length
    have e0 : (encF p).set i x ++ X = (four p.length).set i x ++ (four (crc (four p.length)) ++ (p ++ (four (crc (headF p.length ++ p)) ++ X))) := by
      unfold encF
      rw [← hF]
      simp only [List.append_assoc]
      rw [List.set_append_left _ _ (by rw [four_len]; exact h4)]
      simp only [List.append_assoc]
    have hy' : (four p.length)[i]? = some y := by
      unfold encF at hy
      rw [← hF] at hy
      simp only [List.append_assoc] at hy
      rwa [List.getElem?_append_left (by rw [four_len]; exact h4)] at hy
    rw [e0] at g2
    have l1 : ((four p.length).set i x).length = 4 := by simp [four_len]
    have g5 := (head_iff (L := (four p.length).set i x ++ (four (crc (four p.length)) ++ (p ++ (four (crc (headF p.length ++ p)) ++ X)))) (by simp [four_len]; omega)).1 g2
    rw [List.drop_append_of_le_length (by omega), List.drop_of_length_le (by omega), List.nil_append, List.take_append_of_le_length (by omega), List.take_of_length_le (by omega), ofFour_four (crc_lt _)] at g5
    exact crc_set' hy' hx g5.symm
  · by_cases h8 : i < 8
    · have e0 : (encF p).set i x ++ X = four p.length ++ ((four (crc (four p.length))).set (i - 4) x ++ (p ++ (four (crc (headF p.length ++ p)) ++ X))) := by
        unfold encF
        rw [← hF]
        simp only [List.append_assoc]
        rw [List.set_append_right _ _ (by rw [four_len]; omega), four_len, List.set_append_left _ _ (by rw [four_len]; omega)]
        simp only [List.append_assoc]
      have hy' : (four (crc (four p.length)))[i - 4]? = some y := by
        unfold encF at hy
        rw [← hF] at hy
        simp only [List.append_assoc] at hy
        rwa [List.getElem?_append_right (by rw [four_len]; omega), four_len, List.getElem?_append_left (by rw [four_len]; omega)] at hy
      rw [e0] at g2
      have l1 : ((four (crc (four p.length))).set (i - 4) x).length = 4 := by simp [four_len]
      rw [ofFour_four (by omega)] at g2
      have l2 := four_len p.length
      rw [← List.append_assoc, List.take_append_of_le_length (by simp [four_len]), List.take_of_length_le (by simp [four_len])] at g2
      have g5 := List.append_cancel_left g2
      exact set_ne hy' hx g5
    · -- the head stands
      have e1 : (encF p).set i x ++ X = headF p.length ++ ((p ++ four (crc (headF p.length ++ p))).set (i - 8) x ++ X) := by
        unfold encF
        simp only [List.append_assoc]
        rw [List.set_append_right _ _ (by omega), hh]
        simp only [List.append_assoc]
      have e2 : ofFour ((encF p).set i x ++ X) = p.length := by
        rw [e1]; unfold headF; simp only [List.append_assoc]; exact ofFour_four (by omega) _
      rw [e2] at g4
      by_cases hb : i < 8 + p.length
      · have e0 : (encF p).set i x ++ X = (headF p.length ++ p).set i x ++ (four (crc (headF p.length ++ p)) ++ X) := by
          unfold encF
          rw [List.set_append_left _ _ (by simp [hh]; omega), List.append_assoc]
        have hy' : (headF p.length ++ p)[i]? = some y := by
          unfold encF at hy
          rwa [List.getElem?_append_left (by simp [hh]; omega)] at hy
        have l1 : ((headF p.length ++ p).set i x).length = 8 + p.length := by simp [hh]
        rw [e0, List.drop_append_of_le_length (by omega), List.drop_of_length_le (by omega), List.nil_append, List.take_append_of_le_length (by omega), List.take_of_length_le (by omega), ofFour_four (crc_lt _)] at g4
        exact crc_set' hy' hx g4.symm
      · have l0 : (headF p.length ++ p).length = 8 + p.length := by simp [hh]
        have e0 : (encF p).set i x ++ X = (headF p.length ++ p) ++ ((four (crc (headF p.length ++ p))).set (i - (8 + p.length)) x ++ X) := by
          unfold encF
          rw [List.set_append_right _ _ (by omega), l0, List.append_assoc]
        have hk : i - (8 + p.length) < 4 := by omega
        have hy' : (four (crc (headF p.length ++ p)))[i - (8 + p.length)]? = some y := by
          unfold encF at hy
          rwa [List.getElem?_append_right (by omega), l0] at hy
        rw [e0, List.drop_append_of_le_length (by omega), List.drop_of_length_le (by omega), List.nil_append, List.take_append_of_le_length (by omega), List.take_of_length_le (by omega)] at g4
        have l1 : ((four (crc (headF p.length ++ p))).set (i - (8 + p.length)) x).length = 4 := by simp [four_len]
        have g5 := four_ofFour (L := (four (crc (headF p.length ++ p))).set (i - (8 + p.length)) x ++ X) (by simp [four_len])
        rw [g4, List.take_append_of_le_length (by omega), List.take_of_length_le (by omega)] at g5
        exact set_ne hy' hx g5.symm

/-! ### All records from the front -/

def scanF (L : List UInt8) : List (List UInt8) × Nat :=
  if _h : L ≠ [] ∧ (decF L).e = 0 then ((decF L).p :: (scanF (L.drop (decF L).n)).1, (decF L).n + (scanF (L.drop (decF L).n)).2) else ([], 0)
termination_by L.length
decreasing_by
  all_goals
    have h1 := decF_zero _h.2
    rw [List.length_drop]
    omega
theorem scanF_yes {L : List UInt8} (h0 : L ≠ []) (h : (decF L).e = 0) : scanF L = ((decF L).p :: (scanF (L.drop (decF L).n)).1, (decF L).n + (scanF (L.drop (decF L).n)).2) := by
  rw [scanF]; rw [dif_pos ⟨h0, h⟩]
theorem scanF_no {L : List UInt8} (h : L = [] ∨ (decF L).e ≠ 0) : scanF L = ([], 0) := by
  rw [scanF]; rw [dif_neg]
  rintro ⟨h1, h2⟩
  rcases h with h | h
  · exact h1 h
  · exact h h2
theorem scanF_enc {p : List UInt8} (hp : p.length ≤ 262144) (X : List UInt8) : scanF (encF p ++ X) = (p :: (scanF X).1, 12 + p.length + (scanF X).2) := by
  have h1 := decF_enc hp X
  have hl := encF_len p
  rw [scanF_yes (by intro h; have := congrArg List.length h; rw [List.length_append] at this; simp only [List.length_nil] at this; omega) (by rw [h1]), h1]
  have e : (encF p ++ X).drop (12 + p.length) = X := by rw [List.drop_append_of_le_length (by omega), List.drop_of_length_le (by omega), List.nil_append]
  simp only [e]
/-- Records, one behind the other. -/
def allF (l : List (List UInt8)) : List UInt8 := (l.map encF).flatten
theorem allF_cons (p : List UInt8) (l : List (List UInt8)) : allF (p :: l) = encF p ++ allF l := by simp [allF]
theorem allF_app (l m : List (List UInt8)) : allF (l ++ m) = allF l ++ allF m := by simp [allF]
theorem scanF_all : ∀ {l : List (List UInt8)}, (∀ p ∈ l, p.length ≤ 262144) → ∀ X, scanF (allF l ++ X) = (l ++ (scanF X).1, (allF l).length + (scanF X).2)
  | [], _, X => by simp [allF]
  | p :: l, h, X => by
    rw [allF_cons, List.append_assoc, scanF_enc (h p (by simp)), scanF_all (fun q hq => h q (List.mem_cons_of_mem _ hq)) X]
    have hl := encF_len p
    simp only [List.cons_append, List.length_append, hl, Nat.add_assoc]
theorem scanF_len : ∀ (n : Nat) (L : List UInt8), L.length ≤ n → (scanF L).2 ≤ L.length := by
  intro n
  induction n with
  | zero =>
    intro L hL
    have : L = [] := List.eq_nil_of_length_eq_zero (by omega)
    rw [scanF_no (.inl this)]; simp
  | succ n ih =>
    intro L hL
    by_cases h : L ≠ [] ∧ (decF L).e = 0
    · obtain ⟨h0, h1⟩ := h
      have h2 := decF_zero h1
      rw [scanF_yes h0 h1]
      have h3 := ih (L.drop (decF L).n) (by rw [List.length_drop]; omega)
      rw [List.length_drop] at h3
      simp only; omega
    · rw [scanF_no]
      · simp
      · rcases Classical.em (L = []) with h1 | h1
        · exact .inl h1
        · exact .inr (fun h2 => h ⟨h1, h2⟩)
theorem scanF_most : ∀ (n : Nat) (L : List UInt8), L.length ≤ n → (scanF L).1.length ≤ L.length ∧ ∀ p ∈ (scanF L).1, p.length ≤ L.length := by
  intro n
  induction n with
  | zero =>
    intro L hL
    have : L = [] := List.eq_nil_of_length_eq_zero (by omega)
    rw [scanF_no (.inl this)]; simp
  | succ n ih =>
    intro L hL
    by_cases h : L ≠ [] ∧ (decF L).e = 0
    · obtain ⟨h0, h1⟩ := h
      have h2 := decF_zero h1
      rw [scanF_yes h0 h1]
      have h3 := ih (L.drop (decF L).n) (by rw [List.length_drop]; omega)
      rw [List.length_drop] at h3
      refine ⟨by simp only [List.length_cons]; omega, fun p hp => ?_⟩
      rcases List.mem_cons.1 hp with rfl | hp
      · omega
      · have := h3.2 p hp; omega
    · rw [scanF_no]
      · simp
      · rcases Classical.em (L = []) with h1 | h1
        · exact .inl h1
        · exact .inr (fun h2 => h ⟨h1, h2⟩)
end Go.Proofs.Ytdfkednggjelcaa
